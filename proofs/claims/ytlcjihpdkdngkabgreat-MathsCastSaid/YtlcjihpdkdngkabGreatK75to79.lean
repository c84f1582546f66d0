/- Parts K75to79: the machine's runs of small codes, contracts of functions, plain facts. -/
import Derived.Test.YtlcjihpdkdngkabGreatProg
import Derived.Test.YtlcjihpdkdngkabGreatK70to74
namespace Go.Proofs.Tryz.S
open Go Go.Ax Go.Ax.N
set_option maxRecDepth 100000

/-- cellar/cellarlaw4.Ones -/
def c9 : SF := ⟨127, [.t 4], (.seq (.ops [k 2 (.bx 25 (t 0)),
 o 4 (.mv (b false))])
 (.seq (.seq (.ops [o 19 (.ld true 2 (t 2)),
 k 20 (.ca (.func 10) [(t 19)])])
 (.cond (t 20)
 (.seq (.ops [o 4 (.mv (b true))])
 .ret)
 .skip))
 (.seq (.seq (.ops [o 5 (.mv (i 0))])
 (.block 0 (.loop (.seq (.seq (.ops [o 21 (.mv (t 5)),
 o 22 (.bin .leq (t 21) (i 7))])
 (.cond (t 22)
 .skip
 (.exit 0)))
 (.seq (.block 1 (.seq (.ops [o 25 (.ld true 2 (t 2)),
 o 26 (.mv (t 5)),
 k 27 (.ca (.func 11) [(t 25), (t 26)]),
 o 6 (.mv (t 27))])
 (.seq (.ops [o 7 (.mv (i 0))])
 (.block 2 (.loop (.seq (.seq (.ops [o 28 (.mv (t 7)),
 o 29 (.mv (t 6)),
 o 30 (.ln (t 29)),
 o 31 (.bin .lss (t 28) (t 30))])
 (.cond (t 31)
 .skip
 (.exit 2)))
 (.seq (.block 3 (.seq (.ops [o 34 (.mv (t 6)),
 o 35 (.mv (t 7)),
 o 36 (.ia 6 (t 34) (t 35)),
 o 37 (.ld true 6 (t 36)),
 k 8 (.al 30 [.int .i64 0, .bool false, .int .i64 0, .int .i64 0, .int .i64 0, .int .i64 0]),
 kn (.st [] 6 (t 8) (t 37))])
 (.seq (.ops [o 39 (.mv (t 1)),
 o 40 (.mv (t 5)),
 o 41 (.ld true 6 (t 8)),
 k 42 (.ca (.func 29) [(t 39), (t 40), (t 41)]),
 o 38 (.mv (t 42)),
 o 43 (.ex (t 38) 0),
 o 44 (.ex (t 38) 1),
 o 45 (.ex (t 38) 2),
 k 9 (.al 30 [.int .i64 0, .bool false, .int .i64 0, .int .i64 0, .int .i64 0, .int .i64 0]),
 kn (.st [] 6 (t 9) (t 43)),
 o 10 (.mv (t 44)),
 o 11 (.mv (t 45))])
 (.seq (.ops [o 12 (.mv (i 1))])
 (.seq (.seq (.opd [o 46 (.mv (t 1)),
 o 47 (.mv (t 5)),
 k 48 (.ca (.func 30) [(t 46), (t 47)]),
 o 49 (.mv (t 48)),
 og 50 49 true (.ld true 6 (t 8)),
 ⟨some 51, some (49, true), .ca (.func 14) [(t 50)]⟩,
 o 52 (.pick (t 49) (t 51) (b false)),
 o 53 (.mv (t 52)),
 og 54 53 true (.fa 0 (t 8)),
 og 55 53 true (.ld false 1 (t 54)),
 og 56 53 true (.mv (t 5)),
 ⟨some 57, some (53, true), .ca (.func 13) [(t 56)]⟩,
 og 58 53 true (.bin .eql (t 55) (t 57)),
 o 59 (.pick (t 53) (t 58) (b false))])
 (.cond (t 59)
 (.ops [o 12 (.mv (i 0))])
 .skip))
 (.seq (.seq (.ops [o 60 (.mv (t 11)),
 k 61 (.ca (.func 15) [(t 60)]),
 o 62 (.mv (t 12)),
 o 63 (.bin .neq (t 61) (t 62))])
 (.cond (t 63)
 (.seq (.ops [o 4 (.mv (b false))])
 .ret)
 .skip))
 (.seq (.seq (.ops [o 64 (.mv (t 12)),
 o 65 (.bin .neq (t 64) (i 0))])
 (.cond (t 65)
 (.exit 3)
 .skip))
 (.seq (.ops [o 66 (.ld true 6 (t 8)),
 o 67 (.mv (t 7)),
 k 68 (.ca (.func 16) [(t 66), (i 30), (t 67)]),
 o 13 (.mv (t 68))])
 (.seq (.seq (.ops [o 69 (.mv (t 1)),
 o 70 (.mv (t 5)),
 o 71 (.ld true 6 (t 9)),
 o 72 (.mv (t 10)),
 k 73 (.ca (.func 26) [(t 69), (t 70), (t 71), (t 72)]),
 o 74 (.un .not (t 73)),
 o 75 (.mv (t 74)),
 og 76 75 false (.mv (t 13)),
 og 77 75 false (.ln (t 76)),
 og 78 75 false (.bin .eql (t 77) (i 0)),
 og 79 75 false (.mv (t 78)),
 og 80 79 true (.ld true 6 (t 9)),
 ⟨some 81, some (79, true), .ca (.func 17) [(t 80), (i 0)]⟩,
 og 82 79 true (.bin .geq (t 81) (i 0)),
 og 83 79 true (.mv (t 82)),
 og 84 83 false (.mv (t 10)),
 og 85 83 false (.ln (t 84)),
 og 86 83 false (.bin .gtr (t 85) (i 0)),
 og 87 79 true (.pick (t 83) (b true) (t 86)),
 og 88 75 false (.pick (t 79) (t 87) (b false)),
 o 89 (.pick (t 75) (b true) (t 88))])
 (.cond (t 89)
 (.seq (.ops [o 4 (.mv (b false))])
 .ret)
 .skip))
 (.seq (.ops [o 14 (.mv (i 0))])
 (.block 4 (.loop (.seq (.seq (.ops [o 90 (.mv (t 14)),
 o 91 (.mv (t 13)),
 o 92 (.ln (t 91)),
 o 93 (.bin .lss (t 90) (t 92))])
 (.cond (t 93)
 .skip
 (.exit 4)))
 (.seq (.block 5 (.seq (.ops [o 97 (.mv (t 1)),
 o 98 (.mv (t 5)),
 o 99 (.mv (t 13)),
 o 100 (.mv (t 14)),
 o 101 (.ia 1 (t 99) (t 100)),
 o 102 (.ld false 1 (t 101)),
 k 103 (.ca (.func 31) [(t 97), (t 98), (t 102)]),
 o 96 (.mv (t 103)),
 o 104 (.ex (t 96) 0),
 o 105 (.ex (t 96) 1),
 o 15 (.mv (t 104)),
 o 16 (.mv (t 105))])
 (.seq (.seq (.ops [o 106 (.ld true 6 (t 9)),
 o 107 (.mv (t 10)),
 o 108 (.mv (t 15)),
 o 109 (.mv (t 16)),
 k 110 (.ca (.func 28) [(t 106), (t 107), (t 108), (t 109)]),
 o 111 (.un .not (t 110))])
 (.cond (t 111)
 (.seq (.ops [o 4 (.mv (b false))])
 .ret)
 .skip))
 (.seq (.ops [o 113 (.ld true 6 (t 8)),
 k 114 (.ca (.func 20) [(t 113)]),
 o 112 (.mv (t 114)),
 o 115 (.ex (t 112) 0),
 o 116 (.ex (t 112) 1),
 o 17 (.mv (t 115)),
 o 18 (.mv (t 116))])
 (.seq (.ops [o 117 (.mv (t 18)),
 o 118 (.mv (t 117)),
 og 119 118 true (.ld true 6 (t 9)),
 og 120 118 true (.mv (t 10)),
 og 121 118 true (.mv (t 15)),
 og 122 118 true (.mv (t 16)),
 ⟨some 123, some (118, true), .ca (.func 21) [(t 119), (t 120), (t 121), (t 122)]⟩,
 og 124 118 true (.un .not (t 123)),
 o 125 (.pick (t 118) (t 124) (b false))])
 (.cond (t 125)
 (.seq (.ops [o 4 (.mv (b false))])
 .ret)
 .skip))))))
 (.ops [o 94 (.mv (t 14)),
 o 95 (.bin .add (t 94) (i 1)),
 o 14 (.mv (t 95))])))))))))))))))
 (.ops [o 32 (.mv (t 7)),
 o 33 (.bin .add (t 32) (i 1)),
 o 7 (.mv (t 33))]))))))))
 (.ops [o 23 (.mv (t 5)),
 o 24 (.bin .add (t 23) (i 1)),
 o 5 (.mv (t 24))]))))))
 (.seq (.ops [k 126 (.ca (.func 23) []),
 o 4 (.mv (t 126))])
 .ret))))⟩
theorem e9 : slimF Tryz.prog Tryz.f9 [[(0, []), (1, []), (2, []), (3, []), (4, []), (5, []), (6, []), (7, []), (8, []), (9, []), (10, []), (11, []), (12, []), (13, [])]] = some c9 := by kernel_rfl
/-- cellar/maths.Cast -/
def c12 : SF := ⟨22, [.c true 6 6, .t 7], (.seq (.ops [k 5 (.bx 30 (t 2)),
 k 6 (.al 30 [.int .i64 0, .bool false, .int .i64 0, .int .i64 0, .int .i64 0, .int .i64 0]),
 o 7 (.mv (i 0))])
 (.seq (.seq (.ops [o 8 (.mv (t 0)),
 o 9 (.ld true 6 (t 5)),
 k 10 (.ca (.func 36) [(t 8), (t 9)]),
 o 11 (.un .not (t 10)),
 o 12 (.mv (t 11)),
 og 13 12 false (.mv (t 1)),
 ⟨some 14, some (12, false), .ca (.func 37) [(t 13)]⟩,
 og 15 12 false (.un .not (t 14)),
 o 16 (.pick (t 12) (b true) (t 15))])
 (.cond (t 16)
 (.seq (.ops [o 17 (.bd [.int .i64 0, .bool false, .int .i64 0, .int .i64 0, .int .i64 0, .int .i64 0] []),
 kn (.st [] 6 (t 6) (t 17)),
 o 7 (.mv (i 1))])
 .ret)
 .skip))
 (.seq (.ops [o 18 (.mv (t 0)),
 o 19 (.mv (t 1)),
 o 20 (.ld true 6 (t 5)),
 k 21 (.ca (.func 38) [(t 18), (t 19), (t 20)]),
 kn (.st [] 6 (t 6) (t 21)),
 o 7 (.mv (i 0))])
 .ret)))⟩
theorem e12 : slimF Tryz.prog Tryz.f12 [] = some c12 := by kernel_rfl
/-- cellar/maths.One -/
def c29 : SF := ⟨28, [.c true 6 6, .t 7, .t 8], (.seq (.ops [k 5 (.bx 30 (t 2)),
 k 6 (.al 30 [.int .i64 0, .bool false, .int .i64 0, .int .i64 0, .int .i64 0, .int .i64 0]),
 o 7 (.mv (.const (.slice none 0 0))),
 o 8 (.mv (i 0))])
 (.seq (.seq (.ops [o 9 (.mv (t 0)),
 k 10 (.ca (.func 56) [(t 9)]),
 o 11 (.un .not (t 10)),
 o 12 (.mv (t 11)),
 og 13 12 false (.mv (t 1)),
 og 14 12 false (.ld true 6 (t 5)),
 ⟨some 15, some (12, false), .ca (.func 36) [(t 13), (t 14)]⟩,
 og 16 12 false (.un .not (t 15)),
 o 17 (.pick (t 12) (b true) (t 16))])
 (.cond (t 17)
 (.seq (.ops [o 18 (.ld true 6 (t 6)),
 kn (.st [] 6 (t 6) (t 18)),
 o 7 (.mv (.const (.slice none 0 0))),
 o 8 (.mv (i 1))])
 .ret)
 .skip))
 (.seq (.ops [o 20 (.mv (t 0)),
 o 21 (.mv (t 1)),
 o 22 (.ld true 6 (t 5)),
 k 23 (.ca (.func 57) [(t 20), (t 21), (t 22)]),
 o 19 (.mv (t 23)),
 o 24 (.ex (t 19) 0),
 o 25 (.ex (t 19) 1),
 kn (.st [] 6 (t 6) (t 24)),
 o 7 (.mv (t 25))])
 (.seq (.ops [o 26 (.ld true 6 (t 6)),
 o 27 (.mv (t 7)),
 kn (.st [] 6 (t 6) (t 26)),
 o 7 (.mv (t 27)),
 o 8 (.mv (i 0))])
 .ret))))⟩
theorem e29 : slimF Tryz.prog Tryz.f29 [] = some c29 := by kernel_rfl
/-- cellar/cellarref1.MayOne -/
def c30 : SF := ⟨12, [.t 4], (.seq (.ops [o 4 (.mv (b false))])
 (.seq (.ops [o 5 (.mv (t 0)),
 k 6 (.ca (.func 45) [(t 5), (i 5), (i 7)]),
 o 7 (.mv (t 6)),
 og 8 7 true (.mv (t 1)),
 ⟨some 9, some (7, true), .ca (.func 13) [(t 8)]⟩,
 og 10 7 true (.bin .gtr (t 9) (i 0)),
 o 11 (.pick (t 7) (t 10) (b false)),
 o 4 (.mv (t 11))])
 .ret))⟩
theorem e30 : slimF Tryz.prog Tryz.f30 [] = some c30 := by kernel_rfl
/-- cellar/cellarref1.One -/
def c31 : SF := ⟨26, [.t 6, .t 7], (.seq (.ops [o 6 (.mv (i 0)),
 o 7 (.mv (i 0))])
 (.seq (.seq (.ops [o 8 (.mv (t 0))])
 (.block 0 (.seq (.ops [o 10 (.bin .eql (t 8) (i 5)),
 o 9 (.mv (t 10))])
 (.cond (t 9)
 (.seq (.ops [o 11 (.mv (t 1)),
 o 12 (.mv (t 2)),
 k 13 (.ca (.func 27) [(i 9), (t 11), (i 0), (t 12)]),
 o 14 (.ex (t 13) 0),
 o 15 (.ex (t 13) 1),
 o 6 (.mv (t 14)),
 o 7 (.mv (t 15))])
 .ret)
 (.seq (.ops [o 17 (.bin .eql (t 8) (i 6)),
 o 16 (.mv (t 17))])
 (.cond (t 16)
 (.seq (.ops [o 18 (.mv (t 2)),
 o 19 (.un .xor (t 18)),
 o 20 (.mv (t 1)),
 k 21 (.ca (.func 13) [(t 20)]),
 k 22 (.ca (.func 35) [(t 19), (t 21)]),
 o 6 (.mv (t 22)),
 o 7 (.mv (i 0))])
 .ret)
 .skip))))))
 (.seq (.ops [o 23 (.mv (t 2)),
 o 24 (.bin .eql (t 23) (i 0)),
 k 25 (.ca (.func 54) [(t 24)]),
 o 6 (.mv (t 25)),
 o 7 (.mv (i 0))])
 .ret)))⟩
theorem e31 : slimF Tryz.prog Tryz.f31 [] = some c31 := by kernel_rfl
/-- cellar/maths.Turn -/
def c38 : SF := ⟨66, [.c true 6 6], (.seq (.ops [k 5 (.bx 30 (t 2)),
 k 6 (.al 30 [.int .i64 0, .bool false, .int .i64 0, .int .i64 0, .int .i64 0, .int .i64 0])])
 (.seq (.ops [o 15 (.mv (t 1)),
 k 16 (.ca (.func 59) [(t 15)]),
 o 7 (.mv (t 16))])
 (.seq (.seq (.ops [o 18 (.ld true 6 (t 5)),
 k 19 (.ca (.func 60) [(t 18), (i 16)]),
 o 17 (.mv (t 19)),
 o 20 (.ex (t 17) 0),
 o 21 (.ex (t 17) 1),
 o 8 (.mv (t 20)),
 o 9 (.mv (t 21))])
 (.seq (.ops [o 22 (.mv (t 9))])
 (.cond (t 22)
 (.seq (.ops [o 23 (.mv (t 7)),
 k 24 (.ca (.func 61) [(t 23)]),
 o 25 (.bd [.int .i64 0, .bool false, .int .i64 0, .int .i64 0, .int .i64 0, .int .i64 0, .slice none 0 0] [(0, 6, (t 24))]),
 k 26 (.bx 77 (t 25)),
 o 10 (.mv (t 26))])
 (.seq (.seq (.ops [o 27 (.mv (t 8)),
 o 28 (.ln (t 27)),
 o 29 (.mv (i 0))])
 (.block 0 (.loop (.seq (.ops [o 30 (.bin .lss (t 29) (t 28))])
 (.seq (.cond (t 30)
 .skip
 (.exit 0))
 (.seq (.block 1 (.seq (.ops [o 31 (.ia 1 (t 27) (t 29)),
 o 32 (.ld false 1 (t 31)),
 o 12 (.mv (t 32))])
 (.ops [o 33 (.mv (t 10)),
 o 34 (.mv (t 0)),
 o 35 (.mv (t 1)),
 o 36 (.mv (t 12)),
 k 37 (.ca (.func 63) [(t 34), (t 35), (t 36)]),
 k 38 (.ca (.func 62) [(t 33), (t 37), (i 0)])])))
 (.ops [o 39 (.bin .add (t 29) (i 1)),
 o 29 (.mv (t 39))])))))))
 (.seq (.ops [o 40 (.mv (t 10)),
 o 41 (.nc (t 40)),
 o 42 (.fa 0 (t 41)),
 o 43 (.ld true 6 (t 42)),
 kn (.st [] 6 (t 6) (t 43))])
 .ret)))
 .skip)))
 (.seq (.ops [o 45 (.mv (t 0)),
 o 46 (.ld true 6 (t 5)),
 k 47 (.ca (.func 64) [(t 45), (t 46)]),
 o 44 (.mv (t 47)),
 o 48 (.ex (t 44) 0),
 o 49 (.ex (t 44) 1),
 o 13 (.mv (t 48)),
 o 14 (.mv (t 49))])
 (.seq (.seq (.ops [o 50 (.mv (t 14)),
 o 51 (.mv (t 13)),
 o 52 (.bin .sub (t 50) (t 51)),
 o 53 (.mv (t 7)),
 k 54 (.ca (.func 65) [(t 53)]),
 o 55 (.bin .geq (t 52) (t 54))])
 (.cond (t 55)
 (.seq (.ops [o 56 (.mv (t 7)),
 k 57 (.ca (.func 66) [(t 56)]),
 kn (.st [] 6 (t 6) (t 57))])
 .ret)
 .skip))
 (.seq (.ops [o 58 (.mv (t 7)),
 o 59 (.mv (t 13)),
 o 60 (.mv (t 7)),
 k 61 (.ca (.func 68) [(t 59), (t 60)]),
 o 62 (.mv (t 14)),
 o 63 (.mv (t 7)),
 k 64 (.ca (.func 68) [(t 62), (t 63)]),
 k 65 (.ca (.func 67) [(t 58), (t 61), (t 64)]),
 kn (.st [] 6 (t 6) (t 65))])
 .ret))))))⟩
theorem e38 : slimF Tryz.prog Tryz.f38 [] = some c38 := by kernel_rfl
/-- cellar/alu.IsOne -/
def c56 : SF := ⟨9, [.t 2], (.seq (.ops [o 2 (.mv (b false))])
 (.seq (.ops [o 3 (.mv (t 0)),
 o 4 (.bin .geq (t 3) (i 5)),
 o 5 (.mv (t 4)),
 og 6 5 true (.mv (t 0)),
 og 7 5 true (.bin .leq (t 6) (i 7)),
 o 8 (.pick (t 5) (t 7) (b false)),
 o 2 (.mv (t 8))])
 .ret))⟩
theorem e56 : slimF Tryz.prog Tryz.f56 [] = some c56 := by kernel_rfl
/-- cellar/maths.Do1 -/
def c57 : SF := ⟨39, [.c true 6 6, .t 7], (.seq (.ops [k 5 (.bx 30 (t 2)),
 k 6 (.al 30 [.int .i64 0, .bool false, .int .i64 0, .int .i64 0, .int .i64 0, .int .i64 0]),
 o 7 (.mv (.const (.slice none 0 0)))])
 (.seq (.ops [o 9 (.mv (t 1)),
 k 10 (.ca (.func 59) [(t 9)]),
 o 8 (.mv (t 10))])
 (.seq (.seq (.ops [o 11 (.mv (t 0))])
 (.block 0 (.seq (.ops [o 13 (.bin .eql (t 11) (i 5)),
 o 12 (.mv (t 13))])
 (.cond (t 12)
 (.seq (.opd [o 14 (.mv (t 1)),
 o 15 (.mv (t 8)),
 o 17 (.ld true 6 (t 5)),
 k 16 (.ca (.func 76) [(t 15), (i 0)]),
 k 18 (.ca (.func 47) [(i 9), (t 14), (t 16), (t 17)]),
 o 19 (.ex (t 18) 0),
 o 20 (.ex (t 18) 1),
 kn (.st [] 6 (t 6) (t 19)),
 o 7 (.mv (t 20))])
 .ret)
 (.seq (.ops [o 22 (.bin .eql (t 11) (i 6)),
 o 21 (.mv (t 22))])
 (.cond (t 21)
 (.seq (.opd [o 23 (.mv (t 1)),
 o 24 (.ld true 6 (t 5)),
 o 25 (.mv (t 8)),
 o 26 (.mv (t 8)),
 k 27 (.ca (.func 65) [(t 26)]),
 k 28 (.ca (.func 76) [(t 25), (t 27)]),
 k 29 (.ca (.func 47) [(i 15), (t 23), (t 24), (t 28)]),
 o 30 (.ex (t 29) 0),
 o 31 (.ex (t 29) 1),
 kn (.st [] 6 (t 6) (t 30)),
 o 7 (.mv (t 31))])
 .ret)
 .skip))))))
 (.seq (.opd [o 32 (.mv (t 1)),
 o 33 (.ld true 6 (t 5)),
 o 34 (.mv (t 8)),
 k 35 (.ca (.func 76) [(t 34), (i 0)]),
 k 36 (.ca (.func 47) [(i 18), (t 32), (t 33), (t 35)]),
 o 37 (.ex (t 36) 0),
 o 38 (.ex (t 36) 1),
 kn (.st [] 6 (t 6) (t 37)),
 o 7 (.mv (t 38))])
 .ret))))⟩
theorem e57 : slimF Tryz.prog Tryz.f57 [[(0, []), (1, []), (3, []), (2, []), (4, []), (5, []), (6, []), (7, []), (8, [])], [(0, []), (1, []), (2, []), (3, []), (4, []), (5, []), (6, []), (7, []), (8, []), (9, []), (10, [])], [(0, []), (1, []), (2, []), (3, []), (4, []), (5, []), (6, []), (7, []), (8, [])]] = some c57 := by kernel_rfl
end Go.Proofs.Tryz.S
/- Contracts: an operator of one set. -/
namespace Go.Proofs.Tryz.K
open Go Go.Ax Go.Proofs.Tryz.S
set_option maxRecDepth 100000
set_option linter.unusedSimpArgs false
set_option linter.unusedVariables false
set_option maxHeartbeats 4000000
variable (F : Fz) (M : Hp)

def isOne (op : Int) : Bool := decide (5 ≤ op) && decide (op ≤ 7)
theorem one_cases {op : Int} (h : isOne op = true) : op = 5 ∨ op = 6 ∨ op = 7 := by
  simp [isOne] at h
  omega
theorem k56 (op : Int) : CallsA Tryz.prog 56 [.int .i64 op] F M (Same F M (.bool (isOne op))) := by
  refine callsA_of hm Tryz.func56 e56 (Nat.le_of_ble_eq_true rfl) ?_
  by_cases h1 : 5 ≤ op
  · by_cases h2 : op ≤ 7
    · simp only [c56, go_sem, reduceCtorEq, reduceIte, Nat.reduceEqDiff, Nat.reduceAdd, Nat.reduceLeDiff, Nat.reduceMul, Int.reduceLT, Int.reduceLE, Int.reduceAdd, Int.reduceSub, Int.reduceMul, Int.reduceNeg, Int.reduceToNat, Int.reduceEq, h1, h2]
      exact endK_same ⟨by simp [isOne, h1, h2], rfl, rfl⟩
    · simp only [c56, go_sem, reduceCtorEq, reduceIte, Nat.reduceEqDiff, Nat.reduceAdd, Nat.reduceLeDiff, Nat.reduceMul, Int.reduceLT, Int.reduceLE, Int.reduceAdd, Int.reduceSub, Int.reduceMul, Int.reduceNeg, Int.reduceToNat, Int.reduceEq, h1, h2]
      exact endK_same ⟨by simp [isOne, h1, h2], rfl, rfl⟩
  · simp only [c56, go_sem, reduceCtorEq, reduceIte, Nat.reduceEqDiff, Nat.reduceAdd, Nat.reduceLeDiff, Nat.reduceMul, Int.reduceLT, Int.reduceLE, Int.reduceAdd, Int.reduceSub, Int.reduceMul, Int.reduceNeg, Int.reduceToNat, Int.reduceEq, h1]
    exact endK_same ⟨by simp [isOne, h1], rfl, rfl⟩
theorem k30 (op k : Int) : CallsA Tryz.prog 30 [.int .i64 op, .int .i64 k] F M (Same F M (.bool (isOne op && isK k))) := by
  refine callsA_of hm Tryz.func30 e30 (Nat.le_of_ble_eq_true rfl) ?_
  simp only [c30, go_sem, reduceCtorEq, reduceIte, Nat.reduceEqDiff, Nat.reduceAdd, Nat.reduceLeDiff, Nat.reduceMul, Int.reduceLT, Int.reduceLE, Int.reduceAdd, Int.reduceSub, Int.reduceMul, Int.reduceNeg, Int.reduceToNat, Int.reduceEq]
  refine callK_same (k45 F _ op 5 7) ?_
  cases h : isOne op
  · unfold isOne at h
    simp only [go_sem, reduceCtorEq, reduceIte, Nat.reduceEqDiff, Nat.reduceAdd, Nat.reduceLeDiff, Nat.reduceMul, Int.reduceLT, Int.reduceLE, Int.reduceAdd, Int.reduceSub, Int.reduceMul, Int.reduceNeg, Int.reduceToNat, Int.reduceEq, h]
    exact endK_same ⟨by simp, rfl, rfl⟩
  · unfold isOne at h
    simp only [go_sem, reduceCtorEq, reduceIte, Nat.reduceEqDiff, Nat.reduceAdd, Nat.reduceLeDiff, Nat.reduceMul, Int.reduceLT, Int.reduceLE, Int.reduceAdd, Int.reduceSub, Int.reduceMul, Int.reduceNeg, Int.reduceToNat, Int.reduceEq, h]
    refine callK_same (k13 F _ k) ?_
    simp only [go_sem, reduceCtorEq, reduceIte, Nat.reduceEqDiff, Nat.reduceAdd, Nat.reduceLeDiff, Nat.reduceMul, Int.reduceLT, Int.reduceLE, Int.reduceAdd, Int.reduceSub, Int.reduceMul, Int.reduceNeg, Int.reduceToNat, Int.reduceEq]
    refine endK_same ⟨?_, rfl, rfl⟩
    have := ofW_most k
    cases hk : isK k
    · simp [wK, hk]
    · simp [wK, hk]; omega
theorem k31 (op k x : Int) (hk : isK k = true) (hop : isOne op = true) (x0 : 0 ≤ x) (x1 : x ≤ mostV (ofW k)) :
    CallsA Tryz.prog 31 [.int .i64 op, .int .i64 k, .int .i64 x] F M (Same F M (pairV (oneK op k x))) := by
  refine callsA_of hm Tryz.func31 e31 (Nat.le_of_ble_eq_true rfl) ?_
  have kd := kinds hk
  have lw := isW_le (ofW_isW k)
  rcases one_cases hop with rfl | rfl | rfl
  · simp only [c31, go_sem, reduceCtorEq, reduceIte, Nat.reduceEqDiff, Nat.reduceAdd, Nat.reduceLeDiff, Nat.reduceMul, Int.reduceLT, Int.reduceLE, Int.reduceAdd, Int.reduceSub, Int.reduceMul, Int.reduceNeg, Int.reduceToNat, Int.reduceEq]
    refine callK_same (k27 F _ 9 k 0 x hk rfl (by omega) (by omega) x0 x1) ?_
    simp only [pairV, go_sem, reduceCtorEq, reduceIte, Nat.reduceEqDiff, Nat.reduceAdd, Nat.reduceLeDiff, Nat.reduceMul, Int.reduceLT, Int.reduceLE, Int.reduceAdd, Int.reduceSub, Int.reduceMul, Int.reduceNeg, Int.reduceToNat, Int.reduceEq]
    exact endK_same ⟨rfl, rfl, rfl⟩
  · obtain ⟨n, rfl, hn⟩ := nat_of x0 x1
    have hp := pow_lt63 lw.2
    have e := not_p (Nat.lt_trans hn hp)
    have esg : (if IntKind.i64.signed = true then (-1 : Int) else IntKind.i64.max) = -1 := rfl
    simp only [c31, go_sem, reduceCtorEq, reduceIte, Nat.reduceEqDiff, Nat.reduceAdd, Nat.reduceLeDiff, Nat.reduceMul, Int.reduceLT, Int.reduceLE, Int.reduceAdd, Int.reduceSub, Int.reduceMul, Int.reduceNeg, Int.reduceToNat, Int.reduceEq, esg, e]
    refine callK_same (k13 F _ k) ?_
    simp only [go_sem, reduceCtorEq, reduceIte, Nat.reduceEqDiff, Nat.reduceAdd, Nat.reduceLeDiff, Nat.reduceMul, Int.reduceLT, Int.reduceLE, Int.reduceAdd, Int.reduceSub, Int.reduceMul, Int.reduceNeg, Int.reduceToNat, Int.reduceEq, wK_of hk]
    refine callK_same (k35 F _ _ _ lw.1 lw.2) ?_
    simp only [go_sem, reduceCtorEq, reduceIte, Nat.reduceEqDiff, Nat.reduceAdd, Nat.reduceLeDiff, Nat.reduceMul, Int.reduceLT, Int.reduceLE, Int.reduceAdd, Int.reduceSub, Int.reduceMul, Int.reduceNeg, Int.reduceToNat, Int.reduceEq]
    refine endK_same ⟨?_, rfl, rfl⟩
    have : negN n = -(n : Int) - 1 := by unfold negN; omega
    rw [this]; rfl
  · simp only [c31, go_sem, reduceCtorEq, reduceIte, Nat.reduceEqDiff, Nat.reduceAdd, Nat.reduceLeDiff, Nat.reduceMul, Int.reduceLT, Int.reduceLE, Int.reduceAdd, Int.reduceSub, Int.reduceMul, Int.reduceNeg, Int.reduceToNat, Int.reduceEq]
    refine callK_same (k54 F _ _) ?_
    simp only [go_sem, reduceCtorEq, reduceIte, Nat.reduceEqDiff, Nat.reduceAdd, Nat.reduceLeDiff, Nat.reduceMul, Int.reduceLT, Int.reduceLE, Int.reduceAdd, Int.reduceSub, Int.reduceMul, Int.reduceNeg, Int.reduceToNat, Int.reduceEq]
    exact endK_same ⟨by simp only [pairV, oneK]; simp, rfl, rfl⟩
/-- What an operator of one set hands back. -/
def onP (op k : Int) (a : V) (F : Fz) (M : Hp) (v : Value) (F' : Fz) (M' : Hp) : Prop :=
  F' = F ∧ Keep M M' ∧ Old F M' ∧ ∃ z l q, v = .tuple #[z.val, q] ∧ OneR op k a z l ∧ l.Pairwise (· < ·) ∧ RowI M' q l
theorem k57 (op k : Int) (a : V) (hold : Old F M) (hop : isOne op = true) (hk : isK k = true) (ha : a.ok = true) (wa : a.w = ofW k) :
    CallsA Tryz.prog 57 [.int .i64 op, .int .i64 k, a.val] F M (onP op k a F M) := by
  refine callsA_of hm Tryz.func57 e57 (Nat.le_of_ble_eq_true rfl) ?_
  have hW := ofW_isW k
  have lw := isW_le hW
  have j0 := just_ok hW (isN_zero lw.1 lw.2)
  have jm := just_ok hW (isN_most lw.1 lw.2)
  simp only [c57, go_sem, reduceCtorEq, reduceIte, Nat.reduceEqDiff, Nat.reduceAdd, Nat.reduceLeDiff, Nat.reduceMul, Int.reduceLT, Int.reduceLE, Int.reduceAdd, Int.reduceSub, Int.reduceMul, Int.reduceNeg, Int.reduceToNat, Int.reduceEq]
  intro r5 hF5 hM5
  simp only [go_sem, reduceCtorEq, reduceIte, Nat.reduceEqDiff, Nat.reduceAdd, Nat.reduceLeDiff, Nat.reduceMul, Int.reduceLT, Int.reduceLE, Int.reduceAdd, Int.reduceSub, Int.reduceMul, Int.reduceNeg, Int.reduceToNat, Int.reduceEq]
  intro r6 hF6 hM6
  have g6 := fresh_of hM6
  have oo := fun e => (hold.upd hF5 (e := ⟨a.cs, 30, 6⟩)).upd hF6 (e := e)
  have kp := fun e => ((Keep.refl M).new hM5 (e := ⟨a.cs, 30, 6⟩)).new g6.2.2 (e := e)
  simp only [go_sem, reduceCtorEq, reduceIte, Nat.reduceEqDiff, Nat.reduceAdd, Nat.reduceLeDiff, Nat.reduceMul, Int.reduceLT, Int.reduceLE, Int.reduceAdd, Int.reduceSub, Int.reduceMul, Int.reduceNeg, Int.reduceToNat, Int.reduceEq, g6]
  refine callK_same (k59 F _ k hk) ?_
  have f6 := Hp.upd_same (M.upd r5 ⟨a.cs, 30, 6⟩) r6 ⟨[.int .i64 0, .bool false, .int .i64 0, .int .i64 0, .int .i64 0, .int .i64 0], 30, 6⟩
  rcases one_cases hop with rfl | rfl | rfl
  · simp only [go_sem, reduceCtorEq, reduceIte, Nat.reduceEqDiff, Nat.reduceAdd, Nat.reduceLeDiff, Nat.reduceMul, Int.reduceLT, Int.reduceLE, Int.reduceAdd, Int.reduceSub, Int.reduceMul, Int.reduceNeg, Int.reduceToNat, Int.reduceEq, g6]
    refine callK_same (k76 F _ _ 0) ?_
    simp only [go_sem, reduceCtorEq, reduceIte, Nat.reduceEqDiff, Nat.reduceAdd, Nat.reduceLeDiff, Nat.reduceMul, Int.reduceLT, Int.reduceLE, Int.reduceAdd, Int.reduceSub, Int.reduceMul, Int.reduceNeg, Int.reduceToNat, Int.reduceEq, g6]
    refine callK_of (k47 F _ 9 k (V.just (ofW k) 0) a (oo _) rfl hk j0 ha rfl wa) ?_
    rintro w G M2 ⟨z, l, q, rfl, hd, hpw, hr⟩
    have hl2 := can_len hd.can hd.nd
    have rd6 := fun e => rowR_apart (e := e) hr f6 (by omega)
    obtain ⟨hG, le, kq, oq, aq, cq, rfl, _⟩ := hr.le (f := intC) intC_len (by omega)
    rw [hG]
    refine ⟨fun _ => le, ?_⟩
    have f62 := kq _ _ f6
    have kp2 := (kp _).trans kq
    have o2 := oq (oo _)
    simp only [go_sem, reduceCtorEq, reduceIte, Nat.reduceEqDiff, Nat.reduceAdd, Nat.reduceLeDiff, Nat.reduceMul, Int.reduceLT, Int.reduceLE, Int.reduceAdd, Int.reduceSub, Int.reduceMul, Int.reduceNeg, Int.reduceToNat, Int.reduceEq, g6, f62]
    simp only [setH, go_sem, reduceCtorEq, reduceIte, Nat.reduceEqDiff, Nat.reduceAdd, Nat.reduceLeDiff, Nat.reduceMul, Int.reduceLT, Int.reduceLE, Int.reduceAdd, Int.reduceSub, Int.reduceMul, Int.reduceNeg, Int.reduceToNat, Int.reduceEq]
    exact endK_same ⟨rfl, kp2.new g6.2.2, o2.upd hF6, z, l, _, rfl, one_neg hk hd, hpw, rd6 _⟩
  · simp only [go_sem, reduceCtorEq, reduceIte, Nat.reduceEqDiff, Nat.reduceAdd, Nat.reduceLeDiff, Nat.reduceMul, Int.reduceLT, Int.reduceLE, Int.reduceAdd, Int.reduceSub, Int.reduceMul, Int.reduceNeg, Int.reduceToNat, Int.reduceEq, g6]
    refine callK_same (k65 F _ _ lw.1 lw.2) ?_
    simp only [go_sem, reduceCtorEq, reduceIte, Nat.reduceEqDiff, Nat.reduceAdd, Nat.reduceLeDiff, Nat.reduceMul, Int.reduceLT, Int.reduceLE, Int.reduceAdd, Int.reduceSub, Int.reduceMul, Int.reduceNeg, Int.reduceToNat, Int.reduceEq, g6]
    refine callK_same (k76 F _ _ _) ?_
    simp only [go_sem, reduceCtorEq, reduceIte, Nat.reduceEqDiff, Nat.reduceAdd, Nat.reduceLeDiff, Nat.reduceMul, Int.reduceLT, Int.reduceLE, Int.reduceAdd, Int.reduceSub, Int.reduceMul, Int.reduceNeg, Int.reduceToNat, Int.reduceEq, g6]
    refine callK_of (k47 F _ 15 k a (V.just (ofW k) (mostV (ofW k))) (oo _) rfl hk ha jm wa rfl) ?_
    rintro w G M2 ⟨z, l, q, rfl, hd, hpw, hr⟩
    have hl2 := can_len hd.can hd.nd
    have rd6 := fun e => rowR_apart (e := e) hr f6 (by omega)
    obtain ⟨hG, le, kq, oq, aq, cq, rfl, _⟩ := hr.le (f := intC) intC_len (by omega)
    rw [hG]
    refine ⟨fun _ => le, ?_⟩
    have f62 := kq _ _ f6
    have kp2 := (kp _).trans kq
    have o2 := oq (oo _)
    simp only [go_sem, reduceCtorEq, reduceIte, Nat.reduceEqDiff, Nat.reduceAdd, Nat.reduceLeDiff, Nat.reduceMul, Int.reduceLT, Int.reduceLE, Int.reduceAdd, Int.reduceSub, Int.reduceMul, Int.reduceNeg, Int.reduceToNat, Int.reduceEq, g6, f62]
    simp only [setH, go_sem, reduceCtorEq, reduceIte, Nat.reduceEqDiff, Nat.reduceAdd, Nat.reduceLeDiff, Nat.reduceMul, Int.reduceLT, Int.reduceLE, Int.reduceAdd, Int.reduceSub, Int.reduceMul, Int.reduceNeg, Int.reduceToNat, Int.reduceEq]
    exact endK_same ⟨rfl, kp2.new g6.2.2, o2.upd hF6, z, l, _, rfl, one_not hk ha wa hd, hpw, rd6 _⟩
  · simp only [go_sem, reduceCtorEq, reduceIte, Nat.reduceEqDiff, Nat.reduceAdd, Nat.reduceLeDiff, Nat.reduceMul, Int.reduceLT, Int.reduceLE, Int.reduceAdd, Int.reduceSub, Int.reduceMul, Int.reduceNeg, Int.reduceToNat, Int.reduceEq, g6]
    refine callK_same (k76 F _ _ 0) ?_
    simp only [go_sem, reduceCtorEq, reduceIte, Nat.reduceEqDiff, Nat.reduceAdd, Nat.reduceLeDiff, Nat.reduceMul, Int.reduceLT, Int.reduceLE, Int.reduceAdd, Int.reduceSub, Int.reduceMul, Int.reduceNeg, Int.reduceToNat, Int.reduceEq, g6]
    refine callK_of (k47 F _ 18 k a (V.just (ofW k) 0) (oo _) rfl hk ha j0 wa rfl) ?_
    rintro w G M2 ⟨z, l, q, rfl, hd, hpw, hr⟩
    have hl2 := can_len hd.can hd.nd
    have rd6 := fun e => rowR_apart (e := e) hr f6 (by omega)
    obtain ⟨hG, le, kq, oq, aq, cq, rfl, _⟩ := hr.le (f := intC) intC_len (by omega)
    rw [hG]
    refine ⟨fun _ => le, ?_⟩
    have f62 := kq _ _ f6
    have kp2 := (kp _).trans kq
    have o2 := oq (oo _)
    simp only [go_sem, reduceCtorEq, reduceIte, Nat.reduceEqDiff, Nat.reduceAdd, Nat.reduceLeDiff, Nat.reduceMul, Int.reduceLT, Int.reduceLE, Int.reduceAdd, Int.reduceSub, Int.reduceMul, Int.reduceNeg, Int.reduceToNat, Int.reduceEq, g6, f62]
    simp only [setH, go_sem, reduceCtorEq, reduceIte, Nat.reduceEqDiff, Nat.reduceAdd, Nat.reduceLeDiff, Nat.reduceMul, Int.reduceLT, Int.reduceLE, Int.reduceAdd, Int.reduceSub, Int.reduceMul, Int.reduceNeg, Int.reduceToNat, Int.reduceEq]
    exact endK_same ⟨rfl, kp2.new g6.2.2, o2.upd hF6, z, l, _, rfl, one_zero hk hd, hpw, rd6 _⟩
def okO (op k : Int) (a : V) : Bool := isOne op && fitB k a
def oneP (op k : Int) (a : V) (F : Fz) (M : Hp) (v : Value) (F' : Fz) (M' : Hp) : Prop :=
  F' = F ∧ Keep M M' ∧ Old F M' ∧ ((okO op k a = true ∧ ∃ z l q, v = .tuple #[z.val, q, .int .i64 0] ∧ OneR op k a z l ∧ l.Pairwise (· < ·) ∧ RowI M' q l) ∨ (okO op k a = false ∧ v = .tuple #[V.zero.val, .slice none 0 0, .int .i64 1]))
theorem RowI_other {M : Hp} {q : Value} {l : List Int} (h : RowI M q l) {r : Nat} {x e : Ent} (hr : M r = some x) (hx : ¬ x.elem = 3) : RowI (M.upd r e) q l := by
  rcases h with h | ⟨g, cap, n, h1, h2⟩
  · exact .inl h
  · refine .inr ⟨g, cap, n, h1, ?_⟩
    rw [Hp.upd_ne']
    · exact h2
    · rintro rfl
      rw [hr] at h2
      cases h2
      exact hx rfl
theorem k29 (op k : Int) (a : V) (hold : Old F M) : CallsA Tryz.prog 29 [.int .i64 op, .int .i64 k, a.val] F M (oneP op k a F M) := by
  refine callsA_of hm Tryz.func29 e29 (Nat.le_of_ble_eq_true rfl) ?_
  simp only [c29, go_sem, reduceCtorEq, reduceIte, Nat.reduceEqDiff, Nat.reduceAdd, Nat.reduceLeDiff, Nat.reduceMul, Int.reduceLT, Int.reduceLE, Int.reduceAdd, Int.reduceSub, Int.reduceMul, Int.reduceNeg, Int.reduceToNat, Int.reduceEq]
  intro r5 hF5 hM5
  simp only [go_sem, reduceCtorEq, reduceIte, Nat.reduceEqDiff, Nat.reduceAdd, Nat.reduceLeDiff, Nat.reduceMul, Int.reduceLT, Int.reduceLE, Int.reduceAdd, Int.reduceSub, Int.reduceMul, Int.reduceNeg, Int.reduceToNat, Int.reduceEq]
  intro r6 hF6 hM6
  have g6 := fresh_of hM6
  have oo := fun e => (hold.upd hF5 (e := ⟨a.cs, 30, 6⟩)).upd hF6 (e := e)
  have kp := fun e => ((Keep.refl M).new hM5 (e := ⟨a.cs, 30, 6⟩)).new g6.2.2 (e := e)
  simp only [go_sem, reduceCtorEq, reduceIte, Nat.reduceEqDiff, Nat.reduceAdd, Nat.reduceLeDiff, Nat.reduceMul, Int.reduceLT, Int.reduceLE, Int.reduceAdd, Int.reduceSub, Int.reduceMul, Int.reduceNeg, Int.reduceToNat, Int.reduceEq, g6]
  refine callK_same (k56 F _ op) ?_
  cases h1 : isOne op
  · simp only [go_sem, reduceCtorEq, reduceIte, Nat.reduceEqDiff, Nat.reduceAdd, Nat.reduceLeDiff, Nat.reduceMul, Int.reduceLT, Int.reduceLE, Int.reduceAdd, Int.reduceSub, Int.reduceMul, Int.reduceNeg, Int.reduceToNat, Int.reduceEq, g6]
    exact endK_same ⟨rfl, kp _, oo _, .inr ⟨by simp [okO, h1], rfl⟩⟩
  simp only [go_sem, reduceCtorEq, reduceIte, Nat.reduceEqDiff, Nat.reduceAdd, Nat.reduceLeDiff, Nat.reduceMul, Int.reduceLT, Int.reduceLE, Int.reduceAdd, Int.reduceSub, Int.reduceMul, Int.reduceNeg, Int.reduceToNat, Int.reduceEq, g6]
  refine callK_same (k36 F _ k a) ?_
  cases h2 : fitB k a
  · simp only [go_sem, reduceCtorEq, reduceIte, Nat.reduceEqDiff, Nat.reduceAdd, Nat.reduceLeDiff, Nat.reduceMul, Int.reduceLT, Int.reduceLE, Int.reduceAdd, Int.reduceSub, Int.reduceMul, Int.reduceNeg, Int.reduceToNat, Int.reduceEq, g6]
    exact endK_same ⟨rfl, kp _, oo _, .inr ⟨by simp [okO, h2], rfl⟩⟩
  obtain ⟨hk, ha, wa⟩ := fitB_of h2
  have f6 := Hp.upd_same (M.upd r5 ⟨a.cs, 30, 6⟩) r6 ⟨[.int .i64 0, .bool false, .int .i64 0, .int .i64 0, .int .i64 0, .int .i64 0], 30, 6⟩
  simp only [go_sem, reduceCtorEq, reduceIte, Nat.reduceEqDiff, Nat.reduceAdd, Nat.reduceLeDiff, Nat.reduceMul, Int.reduceLT, Int.reduceLE, Int.reduceAdd, Int.reduceSub, Int.reduceMul, Int.reduceNeg, Int.reduceToNat, Int.reduceEq, g6]
  refine callK_of (k57 F _ op k a (oo _) h1 hk ha wa) ?_
  rintro w G M2 ⟨hG, kq, o2, z, l, q, rfl, hd, hpw, row⟩
  rw [hG]
  refine ⟨(fun h => by cases h), ?_⟩
  have f62 := kq _ _ f6
  have kp2 := (kp _).trans kq
  obtain ⟨aq, cq, eq⟩ := row.shape
  subst eq
  simp only [go_sem, reduceCtorEq, reduceIte, Nat.reduceEqDiff, Nat.reduceAdd, Nat.reduceLeDiff, Nat.reduceMul, Int.reduceLT, Int.reduceLE, Int.reduceAdd, Int.reduceSub, Int.reduceMul, Int.reduceNeg, Int.reduceToNat, Int.reduceEq, f62]
  simp only [setH, Hp.upd_upd, go_sem, reduceCtorEq, reduceIte, Nat.reduceEqDiff, Nat.reduceAdd, Nat.reduceLeDiff, Nat.reduceMul, Int.reduceLT, Int.reduceLE, Int.reduceAdd, Int.reduceSub, Int.reduceMul, Int.reduceNeg, Int.reduceToNat, Int.reduceEq]
  exact endK_same ⟨rfl, kp2.new g6.2.2, o2.upd hF6, .inl ⟨by simp [okO, h1, h2], z, l, _, rfl, hd, hpw, RowI_other row f62 (by decide)⟩⟩
end Go.Proofs.Tryz.K

/- Contracts: an operator of one, of all kinds, played. -/
namespace Go.Proofs.Tryz.K
open Go Go.Ax Go.Proofs.Tryz.S
set_option maxRecDepth 100000
set_option linter.unusedSimpArgs false
set_option linter.unusedVariables false
set_option maxHeartbeats 4000000
variable (F : Fz) (M : Hp)

def t1B (F0 : Fz) (M0 : Hp) (r2 : Nat) (ask : List Value) (op : Int) (k : Nat) (sl : Value) (L : List V) (i : Nat) (σ : Env) (F : Fz) (M : Hp) : Prop :=
  T1 F0 M0 r2 ask op k sl L σ F M ∧ Ax.look σ 7 = some (.int .i64 i)
/-- In a round: a set. -/
structure O2 (F0 : Fz) (M0 : Hp) (r2 : Nat) (ask : List Value) (op : Int) (k : Nat) (sl : Value) (L : List V) (i : Nat) (a : V) (σ : Env) (F : Fz) (M : Hp) : Prop extends T1 F0 M0 r2 ask op k sl L σ F M where
  h7 : Ax.look σ 7 = some (.int .i64 i)
  h8 : ∃ r8, Ax.look σ 8 = some (.pointer (some ⟨r8, 0, none⟩)) ∧ M r8 = some ⟨a.cs, 30, 6⟩
structure O3 (F0 : Fz) (M0 : Hp) (r2 : Nat) (ask : List Value) (op : Int) (k : Nat) (sl : Value) (L : List V) (i : Nat) (a z : V) (l : List Int) (σ : Env) (F : Fz) (M : Hp) : Prop extends O2 F0 M0 r2 ask op k sl L i a σ F M where
  h9 : ∃ r9, Ax.look σ 9 = some (.pointer (some ⟨r9, 0, none⟩)) ∧ M r9 = some ⟨z.cs, 30, 6⟩
  h10 : ∃ q, Ax.look σ 10 = some q ∧ RowI M q l
structure O5 (F0 : Fz) (M0 : Hp) (r2 : Nat) (ask : List Value) (op : Int) (k : Nat) (sl : Value) (L : List V) (i : Nat) (a z : V) (l lu : List Int) (σ : Env) (F : Fz) (M : Hp) : Prop extends O3 F0 M0 r2 ask op k sl L i a z l σ F M where
  h13 : ∃ q, Ax.look σ 13 = some q ∧ RowI M q lu
section
variable {F0 : Fz} {M0 : Hp} {r2 : Nat} {ask : List Value} {op : Int} {k : Nat} {sl : Value} {L : List V} {i : Nat} {a z : V} {l lu : List Int} {σ σ' : Env} {F : Fz} {M M' : Hp}
theorem O2.ext (s : O2 F0 M0 r2 ask op k sl L i a σ F M) (e1 : Ax.look σ' 1 = Ax.look σ 1) (e2 : Ax.look σ' 2 = Ax.look σ 2) (e5 : Ax.look σ' 5 = Ax.look σ 5) (e6 : Ax.look σ' 6 = Ax.look σ 6) (e7 : Ax.look σ' 7 = Ax.look σ 7) (e8 : Ax.look σ' 8 = Ax.look σ 8) : O2 F0 M0 r2 ask op k sl L i a σ' F M := by
  obtain ⟨r8, h8, f8⟩ := s.h8
  exact ⟨s.toT1.ext4 e1 e2 e5 e6, e7.trans s.h7, ⟨r8, e8.trans h8, f8⟩⟩
theorem O2.grow (s : O2 F0 M0 r2 ask op k sl L i a σ F M) (kp : Keep M M') (o : Old F0 M') : O2 F0 M0 r2 ask op k sl L i a σ F M' := by
  obtain ⟨r8, h8, f8⟩ := s.h8
  exact ⟨s.toT1.grow4 kp o, s.h7, ⟨r8, h8, kp _ _ f8⟩⟩
theorem O3.ext (s : O3 F0 M0 r2 ask op k sl L i a z l σ F M) (e1 : Ax.look σ' 1 = Ax.look σ 1) (e2 : Ax.look σ' 2 = Ax.look σ 2) (e5 : Ax.look σ' 5 = Ax.look σ 5) (e6 : Ax.look σ' 6 = Ax.look σ 6) (e7 : Ax.look σ' 7 = Ax.look σ 7) (e8 : Ax.look σ' 8 = Ax.look σ 8) (e9 : Ax.look σ' 9 = Ax.look σ 9) (e10 : Ax.look σ' 10 = Ax.look σ 10) : O3 F0 M0 r2 ask op k sl L i a z l σ' F M := by
  obtain ⟨r9, h9, f9⟩ := s.h9
  obtain ⟨q, h10, f10⟩ := s.h10
  exact ⟨s.toO2.ext e1 e2 e5 e6 e7 e8, ⟨r9, e9.trans h9, f9⟩, ⟨q, e10.trans h10, f10⟩⟩
theorem O3.grow (s : O3 F0 M0 r2 ask op k sl L i a z l σ F M) (kp : Keep M M') (o : Old F0 M') : O3 F0 M0 r2 ask op k sl L i a z l σ F M' := by
  obtain ⟨r9, h9, f9⟩ := s.h9
  obtain ⟨q, h10, f10⟩ := s.h10
  exact ⟨s.toO2.grow kp o, ⟨r9, h9, kp _ _ f9⟩, ⟨q, h10, f10.keep kp⟩⟩
theorem O5.ext (s : O5 F0 M0 r2 ask op k sl L i a z l lu σ F M) (e1 : Ax.look σ' 1 = Ax.look σ 1) (e2 : Ax.look σ' 2 = Ax.look σ 2) (e5 : Ax.look σ' 5 = Ax.look σ 5) (e6 : Ax.look σ' 6 = Ax.look σ 6) (e7 : Ax.look σ' 7 = Ax.look σ 7) (e8 : Ax.look σ' 8 = Ax.look σ 8) (e9 : Ax.look σ' 9 = Ax.look σ 9) (e10 : Ax.look σ' 10 = Ax.look σ 10) (e13 : Ax.look σ' 13 = Ax.look σ 13) : O5 F0 M0 r2 ask op k sl L i a z l lu σ' F M := by
  obtain ⟨q, h13, f13⟩ := s.h13
  exact ⟨s.toO3.ext e1 e2 e5 e6 e7 e8 e9 e10, ⟨q, e13.trans h13, f13⟩⟩
theorem O2.ti (s : O2 F0 M0 r2 ask op k sl L i a σ F M) : t1B F0 M0 r2 ask op k sl L i σ F M := ⟨s.toT1, s.h7⟩
end
def O2e (F0 : Fz) (M0 : Hp) (r2 : Nat) (ask : List Value) (op : Int) (k : Nat) (sl : Value) (L : List V) (i : Nat) (σ : Env) (F : Fz) (M : Hp) : Prop := ∃ a, O2 F0 M0 r2 ask op k sl L i a σ F M
def O3e (F0 : Fz) (M0 : Hp) (r2 : Nat) (ask : List Value) (op : Int) (k : Nat) (sl : Value) (L : List V) (i : Nat) (a : V) (σ : Env) (F : Fz) (M : Hp) : Prop :=
  ∃ z l, O3 F0 M0 r2 ask op k sl L i a z l σ F M ∧ ((okO op k a = true ∧ Ax.look σ 11 = some (.int .i64 0) ∧ OneR op k a z l ∧ l.Pairwise (· < ·)) ∨ (okO op k a = false ∧ Ax.look σ 11 = some (.int .i64 1)))
def O4 (F0 : Fz) (M0 : Hp) (r2 : Nat) (ask : List Value) (op : Int) (k : Nat) (sl : Value) (L : List V) (i : Nat) (a z : V) (l : List Int) (σ : Env) (F : Fz) (M : Hp) : Prop :=
  O3 F0 M0 r2 ask op k sl L i a z l σ F M ∧ Ax.look σ 11 = some (.int .i64 (if okO op k a then 0 else 1)) ∧ Ax.look σ 12 = some (.int .i64 (if okO op k a then 0 else 1))
def O5e (F0 : Fz) (M0 : Hp) (r2 : Nat) (ask : List Value) (op : Int) (k : Nat) (sl : Value) (L : List V) (i : Nat) (a z : V) (l : List Int) (σ : Env) (F : Fz) (M : Hp) : Prop :=
  ∃ lu, O5 F0 M0 r2 ask op k sl L i a z l lu σ F M ∧ lu.length ≤ 1000 ∧ (lu = [] → a.nextR 0 < 0) ∧ (∀ y ∈ lu, 0 ≤ y ∧ y ≤ mostV a.w ∧ a.has y = true)
def o4S (F0 : Fz) (M0 : Hp) (r2 : Nat) (ask : List Value) (op : Int) (k : Nat) (sl : Value) (L : List V) (i : Nat) (a z : V) (l lu : List Int) (m : Nat) (σ : Env) (F : Fz) (M : Hp) : Prop :=
  O5 F0 M0 r2 ask op k sl L i a z l lu σ F M ∧ ∃ s : Nat, s + m = lu.length ∧ Ax.look σ 14 = some (.int .i64 s)
theorem k9 (op : Int) (uV uN : Value) (lv : List V) (ln : List Int) (hold : Old F M) (hV : RdV F M uV lv) (hN : RdI F M uN ln) :
    CallsA Tryz.prog 9 [.agg #[uV, uN], .int .i64 op] F M (Same F M (.bool true)) := by
  refine callsA_of hm Tryz.func9 e9 (Nat.le_of_ble_eq_true rfl) ?_
  have hV0 := hV
  have hN0 := hN
  obtain ⟨hlv, aV, cV, hcV, rfl, _⟩ := hV
  obtain ⟨hln, aN, cN, rfl, _⟩ := hN
  simp only [c9, go_sem, reduceCtorEq, reduceIte, Nat.reduceEqDiff, Nat.reduceAdd, Nat.reduceLeDiff, Nat.reduceMul, Int.reduceLT, Int.reduceLE, Int.reduceAdd, Int.reduceSub, Int.reduceMul, Int.reduceNeg, Int.reduceToNat, Int.reduceEq]
  intro r2 hF2 hM2
  simp only [go_sem, reduceCtorEq, reduceIte, Nat.reduceEqDiff, Nat.reduceAdd, Nat.reduceLeDiff, Nat.reduceMul, Int.reduceLT, Int.reduceLE, Int.reduceAdd, Int.reduceSub, Int.reduceMul, Int.reduceNeg, Int.reduceToNat, Int.reduceEq]
  refine callK_same (k10 _ _ aV aN lv.length ln.length cV cN) ?_
  cases hh : (decide (100 < (lv.length : Int)) || decide (100 < (ln.length : Int)))
  rotate_left
  · simp only [go_sem, reduceCtorEq, reduceIte, Nat.reduceEqDiff, Nat.reduceAdd, Nat.reduceLeDiff, Nat.reduceMul, Int.reduceLT, Int.reduceLE, Int.reduceAdd, Int.reduceSub, Int.reduceMul, Int.reduceNeg, Int.reduceToNat, Int.reduceEq]
    exact endK_drop hM2 (endK_same ⟨rfl, rfl, rfl⟩)
  simp only [go_sem, reduceCtorEq, reduceIte, Nat.reduceEqDiff, Nat.reduceAdd, Nat.reduceLeDiff, Nat.reduceMul, Int.reduceLT, Int.reduceLE, Int.reduceAdd, Int.reduceSub, Int.reduceMul, Int.reduceNeg, Int.reduceToNat, Int.reduceEq]
  refine loop_of (tkI F M r2 [.slice aV lv.length cV, .slice aN ln.length cN] op) 8 ?_ ?_
  · exact ⟨⟨rfl, (Keep.refl M).new hM2, hold.upd hF2, Hp.upd_same _ _ _, by simp only [go_sem, reduceCtorEq, reduceIte, Nat.reduceEqDiff], by simp only [go_sem, reduceCtorEq, reduceIte, Nat.reduceEqDiff]⟩, 0, by omega, by simp only [go_sem, reduceCtorEq, reduceIte, Nat.reduceEqDiff] <;> rfl⟩
  rintro mk σ F' M' ⟨s, k, hk, h5⟩
  obtain rfl := s.f
  by_cases hk7 : (k : Int) ≤ 7
  rotate_left
  · simp only [go_sem, reduceCtorEq, reduceIte, Nat.reduceEqDiff, Nat.reduceAdd, Nat.reduceLeDiff, Nat.reduceMul, Int.reduceLT, Int.reduceLE, Int.reduceAdd, Int.reduceSub, Int.reduceMul, Int.reduceNeg, Int.reduceToNat, Int.reduceEq, s.h1, s.h2, h5, hk7]
    refine callK_same (k23 _ _ s.old) ?_
    simp only [go_sem, reduceCtorEq, reduceIte, Nat.reduceEqDiff, Nat.reduceAdd, Nat.reduceLeDiff, Nat.reduceMul, Int.reduceLT, Int.reduceLE, Int.reduceAdd, Int.reduceSub, Int.reduceMul, Int.reduceNeg, Int.reduceToNat, Int.reduceEq]
    exact endK_keep s.kp ⟨rfl, rfl, rfl⟩
  have ek : IntKind.i64.wrap ((k : Int) + 1) = k + 1 := w64 (by omega) (by omega)
  have br := blk_M (F := F') s.fr
  simp only [go_sem, reduceCtorEq, reduceIte, Nat.reduceEqDiff, Nat.reduceAdd, Nat.reduceLeDiff, Nat.reduceMul, Int.reduceLT, Int.reduceLE, Int.reduceAdd, Int.reduceSub, Int.reduceMul, Int.reduceNeg, Int.reduceToNat, Int.reduceEq, s.h1, s.h2, h5, hk7, br]
  refine callK_of (k11 _ _ k _ _ lv ln s.old (hV0.keep s.kp s.old) (hN0.keep s.kp s.old)) ?_
  rintro u G M2 ⟨hG, L, g, cap, hL, hLc, rfl, hFg, hMg, hM2'⟩
  rw [hG, hM2']
  refine ⟨fun _ => Le.upd hFg hMg, ?_⟩
  have gg := ne_of_none hMg s.fr
  have kp2 := s.kp.new (s.kp.free hMg) (e := ⟨L.flatMap V.cs, 30, cap * 6⟩)
  have old2 := s.old.upd (e := ⟨L.flatMap V.cs, 30, cap * 6⟩) hFg
  have fr2 : (M'.upd g ⟨L.flatMap V.cs, 30, cap * 6⟩) r2 = some ⟨[.slice aV lv.length cV, .slice aN ln.length cN], 25, 2⟩ := by rw [Hp.upd_ne' gg.1]; exact s.fr
  have rd2 : RdV F' (M'.upd g ⟨L.flatMap V.cs, 30, cap * 6⟩) (.slice (some ⟨g, 0, none⟩) L.length cap) L := rdV_flat (by omega) hLc blk_upd_same
  simp only [go_sem, reduceCtorEq, reduceIte, Nat.reduceEqDiff, Nat.reduceAdd, Nat.reduceLeDiff, Nat.reduceMul, Int.reduceLT, Int.reduceLE, Int.reduceAdd, Int.reduceSub, Int.reduceMul, Int.reduceNeg, Int.reduceToNat, Int.reduceEq, s.h1, s.h2, h5]
  refine loop_of (tiI F' M r2 [.slice aV lv.length cV, .slice aN ln.length cN] op k (.slice (some ⟨g, 0, none⟩) L.length cap) L) L.length ?_ ?_
  · exact ⟨⟨⟨rfl, kp2, old2, fr2, by simp only [go_sem, reduceCtorEq, reduceIte, Nat.reduceEqDiff, s.h1], by simp only [go_sem, reduceCtorEq, reduceIte, Nat.reduceEqDiff, s.h2]⟩, by simp only [go_sem, reduceCtorEq, reduceIte, Nat.reduceEqDiff, h5], by simp only [go_sem, reduceCtorEq, reduceIte, Nat.reduceEqDiff], rd2⟩, 0, by omega, by simp only [go_sem, reduceCtorEq, reduceIte, Nat.reduceEqDiff] <;> rfl⟩
  generalize hsl : Value.slice (some ⟨g, 0, none⟩) L.length cap = sl at *
  clear kp2 old2 fr2 rd2 gg s br h5 hM2' hG hMg hFg
  rintro mi σ F'' M'' ⟨s, i, hi, h7⟩
  obtain rfl := s.f
  by_cases hil : (i : Int) < L.length
  rotate_left
  · simp only [go_sem, reduceCtorEq, reduceIte, Nat.reduceEqDiff, Nat.reduceAdd, Nat.reduceLeDiff, Nat.reduceMul, Int.reduceLT, Int.reduceLE, Int.reduceAdd, Int.reduceSub, Int.reduceMul, Int.reduceNeg, Int.reduceToNat, Int.reduceEq, s.h1, s.h2, s.h5, s.h6, ← hsl, h7, hil, ek]
    exact ⟨mk - 1, by omega, s.toT0.ext (by simp only [go_sem, reduceCtorEq, reduceIte, Nat.reduceEqDiff]) (by simp only [go_sem, reduceCtorEq, reduceIte, Nat.reduceEqDiff]), k + 1, by omega, by simp only [go_sem, reduceCtorEq, reduceIte, Nat.reduceEqDiff]; rfl⟩
  have ei : IntKind.i64.wrap ((i : Int) + 1) = i + 1 := w64 (by omega) (by omega)
  have h6 := s.h6
  rw [← hsl] at h6
  clear h6
  refine cut (t1B F'' M r2 [.slice aV lv.length cV, .slice aN ln.length cN] op k sl L i) ?_ ?_
  · have h6 := s.h6
    rw [← hsl] at h6
    simp only [go_sem, reduceCtorEq, reduceIte, Nat.reduceEqDiff, Nat.reduceAdd, Nat.reduceLeDiff, Nat.reduceMul, Int.reduceLT, Int.reduceLE, Int.reduceAdd, Int.reduceSub, Int.reduceMul, Int.reduceNeg, Int.reduceToNat, Int.reduceEq, s.h1, s.h2, s.h5, h6, h7, hil]
    exact ⟨s.ext4 (by simp only [go_sem, reduceCtorEq, reduceIte, Nat.reduceEqDiff]) (by simp only [go_sem, reduceCtorEq, reduceIte, Nat.reduceEqDiff]) (by simp only [go_sem, reduceCtorEq, reduceIte, Nat.reduceEqDiff]) (by simp only [go_sem, reduceCtorEq, reduceIte, Nat.reduceEqDiff, s.h6, h6]), by simp only [go_sem, reduceCtorEq, reduceIte, Nat.reduceEqDiff, h7]⟩
  clear s h7
  rintro σ F4 M4 ⟨s, h7⟩
  obtain rfl := s.f
  refine cut (t1B F4 M r2 [.slice aV lv.length cV, .slice aN ln.length cN] op k sl L i) ?_ ?_
  rotate_left
  · rintro σ F5 M5 ⟨s, h7⟩
    obtain rfl := s.f
    simp only [go_sem, reduceCtorEq, reduceIte, Nat.reduceEqDiff, Nat.reduceAdd, Nat.reduceLeDiff, Nat.reduceMul, Int.reduceLT, Int.reduceLE, Int.reduceAdd, Int.reduceSub, Int.reduceMul, Int.reduceNeg, Int.reduceToNat, Int.reduceEq, s.h1, s.h2, s.h5, s.h6, h7, ei]
    exact ⟨mi - 1, by omega, s.ext4 (by simp only [go_sem, reduceCtorEq, reduceIte, Nat.reduceEqDiff]) (by simp only [go_sem, reduceCtorEq, reduceIte, Nat.reduceEqDiff]) (by simp only [go_sem, reduceCtorEq, reduceIte, Nat.reduceEqDiff]) (by simp only [go_sem, reduceCtorEq, reduceIte, Nat.reduceEqDiff, s.h6]), i + 1, by omega, by simp only [go_sem, reduceCtorEq, reduceIte, Nat.reduceEqDiff]; rfl⟩
  rw [W_block]
  generalize hask : [Value.slice aV lv.length cV, .slice aN ln.length cN] = ask at *
  refine cut (O2e F4 M r2 ask op k sl L i) ?_ ?_
  · have h6 := s.h6
    rw [← hsl] at h6
    obtain ⟨_, ad', cap', _, esl, hread⟩ := s.rd
    rw [← hsl] at esl
    cases esl
    rcases hread with h | ⟨b, o, cs, eb, hb, hc⟩
    · rw [h] at hil; simp at hil; omega
    cases eb
    have hi0 : (0 : Int) ≤ i := by omega
    have hi' : i < L.length := by omega
    obtain ⟨d1, d2⟩ := hc i hi'
    generalize L[i] = va at *
    simp only [Nat.zero_add] at d1 d2
    simp only [go_sem, reduceCtorEq, reduceIte, Nat.reduceEqDiff, Nat.reduceAdd, Nat.reduceLeDiff, Nat.reduceMul, Int.reduceLT, Int.reduceLE, Int.reduceAdd, Int.reduceSub, Int.reduceMul, Int.reduceNeg, Int.reduceToNat, Int.reduceEq, s.h1, s.h2, s.h5, h6, h7, hil, hi0, Int.toNat_natCast, Nat.zero_add, hb, d1, d2]
    intro r8 hF8 hM8
    have kp := (Keep.refl M4).new hM8 (e := ⟨va.cs, 30, 6⟩)
    have oo := s.old.upd hF8 (e := ⟨va.cs, 30, 6⟩)
    simp only [go_sem, reduceCtorEq, reduceIte, Nat.reduceEqDiff, Nat.reduceAdd, Nat.reduceLeDiff, Nat.reduceMul, Int.reduceLT, Int.reduceLE, Int.reduceAdd, Int.reduceSub, Int.reduceMul, Int.reduceNeg, Int.reduceToNat, Int.reduceEq, s.h1, s.h2, s.h5, h6, h7]
    exact ⟨va, ⟨(s.grow4 kp oo).ext4 (by simp only [go_sem, reduceCtorEq, reduceIte, Nat.reduceEqDiff]) (by simp only [go_sem, reduceCtorEq, reduceIte, Nat.reduceEqDiff]) (by simp only [go_sem, reduceCtorEq, reduceIte, Nat.reduceEqDiff]) (by simp only [go_sem, reduceCtorEq, reduceIte, Nat.reduceEqDiff, s.h6, h6]), by simp only [go_sem, reduceCtorEq, reduceIte, Nat.reduceEqDiff, h7], ⟨r8, by simp only [go_sem, reduceCtorEq, reduceIte, Nat.reduceEqDiff], Hp.upd_same _ _ _⟩⟩⟩
  clear s h7
  rintro σ F5 M5 ⟨a, s⟩
  obtain rfl := s.f
  refine cut (O3e F5 M r2 ask op k sl L i a) ?_ ?_
  · obtain ⟨r8, h8, f8⟩ := s.h8
    have b8 := blk_M (F := F5) f8
    simp only [go_sem, reduceCtorEq, reduceIte, Nat.reduceEqDiff, Nat.reduceAdd, Nat.reduceLeDiff, Nat.reduceMul, Int.reduceLT, Int.reduceLE, Int.reduceAdd, Int.reduceSub, Int.reduceMul, Int.reduceNeg, Int.reduceToNat, Int.reduceEq, s.h1, s.h2, s.h5, s.h7, h8, b8]
    refine callK_of (k29 F5 M5 op k a s.old) ?_
    rintro w G M6 ⟨hG, kp, oo, hw⟩
    rw [hG]
    refine ⟨(fun h => by cases h), ?_⟩
    rcases hw with ⟨hok, z, l, q, rfl, hd, hr, row⟩ | ⟨hok, rfl⟩
    · simp only [go_sem, reduceCtorEq, reduceIte, Nat.reduceEqDiff, Nat.reduceAdd, Nat.reduceLeDiff, Nat.reduceMul, Int.reduceLT, Int.reduceLE, Int.reduceAdd, Int.reduceSub, Int.reduceMul, Int.reduceNeg, Int.reduceToNat, Int.reduceEq, s.h1, s.h2, s.h5, s.h7, h8]
      intro r9 hF9 hM9
      have kp2 := kp.trans ((Keep.refl M6).new hM9 (e := ⟨z.cs, 30, 6⟩))
      have o2 := oo.upd hF9 (e := ⟨z.cs, 30, 6⟩)
      simp only [go_sem, reduceCtorEq, reduceIte, Nat.reduceEqDiff, Nat.reduceAdd, Nat.reduceLeDiff, Nat.reduceMul, Int.reduceLT, Int.reduceLE, Int.reduceAdd, Int.reduceSub, Int.reduceMul, Int.reduceNeg, Int.reduceToNat, Int.reduceEq, s.h1, s.h2, s.h5, s.h7, h8]
      exact ⟨z, l, ⟨(s.grow kp2 o2).ext (by simp only [go_sem, reduceCtorEq, reduceIte, Nat.reduceEqDiff]) (by simp only [go_sem, reduceCtorEq, reduceIte, Nat.reduceEqDiff]) (by simp only [go_sem, reduceCtorEq, reduceIte, Nat.reduceEqDiff]) (by simp only [go_sem, reduceCtorEq, reduceIte, Nat.reduceEqDiff]) (by simp only [go_sem, reduceCtorEq, reduceIte, Nat.reduceEqDiff]) (by simp only [go_sem, reduceCtorEq, reduceIte, Nat.reduceEqDiff, h8]), ⟨r9, by simp only [go_sem, reduceCtorEq, reduceIte, Nat.reduceEqDiff], Hp.upd_same _ _ _⟩, ⟨q, by simp only [go_sem, reduceCtorEq, reduceIte, Nat.reduceEqDiff], row.keep ((Keep.refl M6).new hM9)⟩⟩, .inl ⟨hok, by simp only [go_sem, reduceCtorEq, reduceIte, Nat.reduceEqDiff], hd, hr⟩⟩
    · simp only [go_sem, reduceCtorEq, reduceIte, Nat.reduceEqDiff, Nat.reduceAdd, Nat.reduceLeDiff, Nat.reduceMul, Int.reduceLT, Int.reduceLE, Int.reduceAdd, Int.reduceSub, Int.reduceMul, Int.reduceNeg, Int.reduceToNat, Int.reduceEq, s.h1, s.h2, s.h5, s.h7, h8]
      intro r9 hF9 hM9
      have kp2 := kp.trans ((Keep.refl M6).new hM9 (e := ⟨V.zero.cs, 30, 6⟩))
      have o2 := oo.upd hF9 (e := ⟨V.zero.cs, 30, 6⟩)
      simp only [go_sem, reduceCtorEq, reduceIte, Nat.reduceEqDiff, Nat.reduceAdd, Nat.reduceLeDiff, Nat.reduceMul, Int.reduceLT, Int.reduceLE, Int.reduceAdd, Int.reduceSub, Int.reduceMul, Int.reduceNeg, Int.reduceToNat, Int.reduceEq, s.h1, s.h2, s.h5, s.h7, h8]
      exact ⟨V.zero, [], ⟨(s.grow kp2 o2).ext (by simp only [go_sem, reduceCtorEq, reduceIte, Nat.reduceEqDiff]) (by simp only [go_sem, reduceCtorEq, reduceIte, Nat.reduceEqDiff]) (by simp only [go_sem, reduceCtorEq, reduceIte, Nat.reduceEqDiff]) (by simp only [go_sem, reduceCtorEq, reduceIte, Nat.reduceEqDiff]) (by simp only [go_sem, reduceCtorEq, reduceIte, Nat.reduceEqDiff]) (by simp only [go_sem, reduceCtorEq, reduceIte, Nat.reduceEqDiff, h8]), ⟨r9, by simp only [go_sem, reduceCtorEq, reduceIte, Nat.reduceEqDiff], Hp.upd_same _ _ _⟩, ⟨_, by simp only [go_sem, reduceCtorEq, reduceIte, Nat.reduceEqDiff], .inl ⟨rfl, rfl⟩⟩⟩, .inr ⟨hok, by simp only [go_sem, reduceCtorEq, reduceIte, Nat.reduceEqDiff]⟩⟩
  clear s
  rintro σ F5 M5 ⟨z, l, s, hw⟩
  obtain rfl := s.f
  rw [Go.Ax.seq_assoc]
  have h11 : Ax.look σ 11 = some (.int .i64 (if okO op k a then 0 else 1)) := by
    rcases hw with ⟨h1, h2, _⟩ | ⟨h1, h2⟩
    · rw [h2, h1]; rfl
    · rw [h2, h1]; rfl
  replace hw : okO op k a = true → OneR op k a z l ∧ l.Pairwise (· < ·) := fun h => by
    rcases hw with ⟨_, _, h3, h4⟩ | ⟨h1, _⟩
    · exact ⟨h3, h4⟩
    · rw [h] at h1; cases h1
  refine cut (O4 F5 M r2 ask op k sl L i a z l) ?_ ?_
  · obtain ⟨r8, h8, f8⟩ := s.h8
    obtain ⟨r9, h9, f9⟩ := s.h9
    obtain ⟨q, h10, f10⟩ := s.h10
    have b8 := blk_M (F := F5) f8
    have fin : ∀ {σ' : Env} {n : Int}, n = (if okO op k a then 0 else 1) → Ax.look σ' 1 = Ax.look σ 1 → Ax.look σ' 2 = Ax.look σ 2 → Ax.look σ' 5 = Ax.look σ 5 → Ax.look σ' 6 = Ax.look σ 6 → Ax.look σ' 7 = Ax.look σ 7 → Ax.look σ' 8 = Ax.look σ 8 → Ax.look σ' 9 = Ax.look σ 9 → Ax.look σ' 10 = Ax.look σ 10 → Ax.look σ' 11 = Ax.look σ 11 → Ax.look σ' 12 = some (.int .i64 n) → O4 F5 M r2 ask op k sl L i a z l σ' F5 M5 :=
      fun {σ' n} hn e1 e2 e5 e6 e7 e8 e9 e10 e11 e12 => ⟨s.ext e1 e2 e5 e6 e7 e8 e9 e10, e11.trans h11, by rw [e12, hn]⟩
    simp only [go_sem, reduceCtorEq, reduceIte, Nat.reduceEqDiff, Nat.reduceAdd, Nat.reduceLeDiff, Nat.reduceMul, Int.reduceLT, Int.reduceLE, Int.reduceAdd, Int.reduceSub, Int.reduceMul, Int.reduceNeg, Int.reduceToNat, Int.reduceEq, s.h1, s.h2, s.h5, s.h7, h8, h9, h10, b8]
    refine callK_same (k30 F5 _ op k) ?_
    cases c1 : (isOne op && isK k)
    · have hn : okO op k a = false := by
        cases h1 : isOne op
        · simp [okO, h1]
        · rw [h1] at c1
          simp at c1
          simp [okO, fitB, c1]
      simp only [go_sem, reduceCtorEq, reduceIte, Nat.reduceEqDiff, Nat.reduceAdd, Nat.reduceLeDiff, Nat.reduceMul, Int.reduceLT, Int.reduceLE, Int.reduceAdd, Int.reduceSub, Int.reduceMul, Int.reduceNeg, Int.reduceToNat, Int.reduceEq, s.h1, s.h2, s.h5, s.h7, h8, h9, h10]
      exact fin (n := 1) (by simp [hn]) (by simp only [go_sem, reduceCtorEq, reduceIte, Nat.reduceEqDiff]) (by simp only [go_sem, reduceCtorEq, reduceIte, Nat.reduceEqDiff]) (by simp only [go_sem, reduceCtorEq, reduceIte, Nat.reduceEqDiff]) (by simp only [go_sem, reduceCtorEq, reduceIte, Nat.reduceEqDiff]) (by simp only [go_sem, reduceCtorEq, reduceIte, Nat.reduceEqDiff]) (by simp only [go_sem, reduceCtorEq, reduceIte, Nat.reduceEqDiff, h8]) (by simp only [go_sem, reduceCtorEq, reduceIte, Nat.reduceEqDiff, h9]) (by simp only [go_sem, reduceCtorEq, reduceIte, Nat.reduceEqDiff, h10]) (by simp only [go_sem, reduceCtorEq, reduceIte, Nat.reduceEqDiff]) (by simp only [go_sem, reduceCtorEq, reduceIte, Nat.reduceEqDiff])
    rw [Bool.and_eq_true] at c1
    simp only [go_sem, reduceCtorEq, reduceIte, Nat.reduceEqDiff, Nat.reduceAdd, Nat.reduceLeDiff, Nat.reduceMul, Int.reduceLT, Int.reduceLE, Int.reduceAdd, Int.reduceSub, Int.reduceMul, Int.reduceNeg, Int.reduceToNat, Int.reduceEq, s.h1, s.h2, s.h5, s.h7, h8, h9, h10, b8]
    refine callK_same (k14 F5 _ a) ?_
    cases c2 : a.ok
    · have hn : okO op k a = false := by simp [okO, fitB, c2]
      simp only [go_sem, reduceCtorEq, reduceIte, Nat.reduceEqDiff, Nat.reduceAdd, Nat.reduceLeDiff, Nat.reduceMul, Int.reduceLT, Int.reduceLE, Int.reduceAdd, Int.reduceSub, Int.reduceMul, Int.reduceNeg, Int.reduceToNat, Int.reduceEq, s.h1, s.h2, s.h5, s.h7, h8, h9, h10]
      exact fin (n := 1) (by simp [hn]) (by simp only [go_sem, reduceCtorEq, reduceIte, Nat.reduceEqDiff]) (by simp only [go_sem, reduceCtorEq, reduceIte, Nat.reduceEqDiff]) (by simp only [go_sem, reduceCtorEq, reduceIte, Nat.reduceEqDiff]) (by simp only [go_sem, reduceCtorEq, reduceIte, Nat.reduceEqDiff]) (by simp only [go_sem, reduceCtorEq, reduceIte, Nat.reduceEqDiff]) (by simp only [go_sem, reduceCtorEq, reduceIte, Nat.reduceEqDiff, h8]) (by simp only [go_sem, reduceCtorEq, reduceIte, Nat.reduceEqDiff, h9]) (by simp only [go_sem, reduceCtorEq, reduceIte, Nat.reduceEqDiff, h10]) (by simp only [go_sem, reduceCtorEq, reduceIte, Nat.reduceEqDiff]) (by simp only [go_sem, reduceCtorEq, reduceIte, Nat.reduceEqDiff])
    simp only [go_sem, reduceCtorEq, reduceIte, Nat.reduceEqDiff, Nat.reduceAdd, Nat.reduceLeDiff, Nat.reduceMul, Int.reduceLT, Int.reduceLE, Int.reduceAdd, Int.reduceSub, Int.reduceMul, Int.reduceNeg, Int.reduceToNat, Int.reduceEq, s.h1, s.h2, s.h5, s.h7, h8, h9, h10, b8]
    refine callK_same (k13 F5 _ k) ?_
    rw [wK_of c1.2]
    by_cases c4 : a.w = ofW k
    · have hn : okO op k a = true := by simp [okO, fitB, c1.1, c1.2, c2, c4]
      simp only [go_sem, reduceCtorEq, reduceIte, Nat.reduceEqDiff, Nat.reduceAdd, Nat.reduceLeDiff, Nat.reduceMul, Int.reduceLT, Int.reduceLE, Int.reduceAdd, Int.reduceSub, Int.reduceMul, Int.reduceNeg, Int.reduceToNat, Int.reduceEq, s.h1, s.h2, s.h5, s.h7, h8, h9, h10, b8, c4]
      exact fin (n := 0) (by simp [hn]) (by simp only [go_sem, reduceCtorEq, reduceIte, Nat.reduceEqDiff]) (by simp only [go_sem, reduceCtorEq, reduceIte, Nat.reduceEqDiff]) (by simp only [go_sem, reduceCtorEq, reduceIte, Nat.reduceEqDiff]) (by simp only [go_sem, reduceCtorEq, reduceIte, Nat.reduceEqDiff]) (by simp only [go_sem, reduceCtorEq, reduceIte, Nat.reduceEqDiff]) (by simp only [go_sem, reduceCtorEq, reduceIte, Nat.reduceEqDiff, h8]) (by simp only [go_sem, reduceCtorEq, reduceIte, Nat.reduceEqDiff, h9]) (by simp only [go_sem, reduceCtorEq, reduceIte, Nat.reduceEqDiff, h10]) (by simp only [go_sem, reduceCtorEq, reduceIte, Nat.reduceEqDiff]) (by simp only [go_sem, reduceCtorEq, reduceIte, Nat.reduceEqDiff])
    · have hn : okO op k a = false := by simp [okO, fitB, c4]
      simp only [go_sem, reduceCtorEq, reduceIte, Nat.reduceEqDiff, Nat.reduceAdd, Nat.reduceLeDiff, Nat.reduceMul, Int.reduceLT, Int.reduceLE, Int.reduceAdd, Int.reduceSub, Int.reduceMul, Int.reduceNeg, Int.reduceToNat, Int.reduceEq, s.h1, s.h2, s.h5, s.h7, h8, h9, h10, b8, c4]
      exact fin (n := 1) (by simp [hn]) (by simp only [go_sem, reduceCtorEq, reduceIte, Nat.reduceEqDiff]) (by simp only [go_sem, reduceCtorEq, reduceIte, Nat.reduceEqDiff]) (by simp only [go_sem, reduceCtorEq, reduceIte, Nat.reduceEqDiff]) (by simp only [go_sem, reduceCtorEq, reduceIte, Nat.reduceEqDiff]) (by simp only [go_sem, reduceCtorEq, reduceIte, Nat.reduceEqDiff]) (by simp only [go_sem, reduceCtorEq, reduceIte, Nat.reduceEqDiff, h8]) (by simp only [go_sem, reduceCtorEq, reduceIte, Nat.reduceEqDiff, h9]) (by simp only [go_sem, reduceCtorEq, reduceIte, Nat.reduceEqDiff, h10]) (by simp only [go_sem, reduceCtorEq, reduceIte, Nat.reduceEqDiff]) (by simp only [go_sem, reduceCtorEq, reduceIte, Nat.reduceEqDiff])
  clear s h11
  rintro σ F5 M5 ⟨s, h11, h12⟩
  obtain rfl := s.f
  cases hok : okO op k a
  · rw [hok] at h11 h12
    simp only [Bool.false_eq_true, if_false] at h11 h12
    obtain ⟨r8, h8, f8⟩ := s.h8
    simp only [go_sem, reduceCtorEq, reduceIte, Nat.reduceEqDiff, Nat.reduceAdd, Nat.reduceLeDiff, Nat.reduceMul, Int.reduceLT, Int.reduceLE, Int.reduceAdd, Int.reduceSub, Int.reduceMul, Int.reduceNeg, Int.reduceToNat, Int.reduceEq, s.h1, s.h2, s.h5, s.h7, h8, h11, h12]
    refine callK_same (k15 F5 _ 1) ?_
    simp only [go_sem, reduceCtorEq, reduceIte, Nat.reduceEqDiff, Nat.reduceAdd, Nat.reduceLeDiff, Nat.reduceMul, Int.reduceLT, Int.reduceLE, Int.reduceAdd, Int.reduceSub, Int.reduceMul, Int.reduceNeg, Int.reduceToNat, Int.reduceEq, s.h1, s.h2, s.h5, s.h7, h8, h11, h12]
    exact (s.toO2.ext (by simp only [go_sem, reduceCtorEq, reduceIte, Nat.reduceEqDiff]) (by simp only [go_sem, reduceCtorEq, reduceIte, Nat.reduceEqDiff]) (by simp only [go_sem, reduceCtorEq, reduceIte, Nat.reduceEqDiff]) (by simp only [go_sem, reduceCtorEq, reduceIte, Nat.reduceEqDiff]) (by simp only [go_sem, reduceCtorEq, reduceIte, Nat.reduceEqDiff]) (by simp only [go_sem, reduceCtorEq, reduceIte, Nat.reduceEqDiff, h8])).ti
  obtain ⟨hd, hri⟩ := hw hok
  rw [hok] at h11 h12
  simp only [if_true] at h11 h12
  have hok' := hok
  simp only [okO, Bool.and_eq_true] at hok'
  obtain ⟨hop, hfa⟩ := hok'
  obtain ⟨hkk, ha, wa⟩ := fitB_of hfa
  have hl2 := can_len hd.can hd.nd
  rw [Go.Ax.seq_assoc, Go.Ax.seq_assoc]
  refine cut (O5e F5 M r2 ask op k sl L i a z l) ?_ ?_
  · obtain ⟨r8, h8, f8⟩ := s.h8
    obtain ⟨r9, h9, f9⟩ := s.h9
    obtain ⟨q, h10, f10⟩ := s.h10
    have b8 := blk_M (F := F5) f8
    simp only [go_sem, reduceCtorEq, reduceIte, Nat.reduceEqDiff, Nat.reduceAdd, Nat.reduceLeDiff, Nat.reduceMul, Int.reduceLT, Int.reduceLE, Int.reduceAdd, Int.reduceSub, Int.reduceMul, Int.reduceNeg, Int.reduceToNat, Int.reduceEq, s.h1, s.h2, s.h5, s.h7, h8, h9, h10, h11, h12]
    refine callK_same (k15 F5 _ 0) ?_
    simp only [go_sem, reduceCtorEq, reduceIte, Nat.reduceEqDiff, Nat.reduceAdd, Nat.reduceLeDiff, Nat.reduceMul, Int.reduceLT, Int.reduceLE, Int.reduceAdd, Int.reduceSub, Int.reduceMul, Int.reduceNeg, Int.reduceToNat, Int.reduceEq, s.h1, s.h2, s.h5, s.h7, h8, h9, h10, h11, h12, b8]
    refine callK_of (k16_genN F5 M5 a i 30 10 15 (by decide) (by decide) (by decide) (by decide) (by decide) ha) ?_
    rintro w G M6 hsu
    obtain ⟨hG, le1, k1, o1, lu, hlu, hnu, hmu, ru⟩ := hsu.row
    rw [hG]
    refine ⟨(fun h => by cases h), ?_⟩
    simp only [go_sem, reduceCtorEq, reduceIte, Nat.reduceEqDiff, Nat.reduceAdd, Nat.reduceLeDiff, Nat.reduceMul, Int.reduceLT, Int.reduceLE, Int.reduceAdd, Int.reduceSub, Int.reduceMul, Int.reduceNeg, Int.reduceToNat, Int.reduceEq, s.h1, s.h2, s.h5, s.h7, h8, h9, h10]
    exact ⟨lu, ⟨(s.grow k1 (o1 s.old)).ext (by simp only [go_sem, reduceCtorEq, reduceIte, Nat.reduceEqDiff]) (by simp only [go_sem, reduceCtorEq, reduceIte, Nat.reduceEqDiff]) (by simp only [go_sem, reduceCtorEq, reduceIte, Nat.reduceEqDiff]) (by simp only [go_sem, reduceCtorEq, reduceIte, Nat.reduceEqDiff]) (by simp only [go_sem, reduceCtorEq, reduceIte, Nat.reduceEqDiff]) (by simp only [go_sem, reduceCtorEq, reduceIte, Nat.reduceEqDiff, h8]) (by simp only [go_sem, reduceCtorEq, reduceIte, Nat.reduceEqDiff, h9]) (by simp only [go_sem, reduceCtorEq, reduceIte, Nat.reduceEqDiff, h10]), ⟨w, by simp only [go_sem, reduceCtorEq, reduceIte, Nat.reduceEqDiff], ru⟩⟩, hlu, hnu, hmu⟩
  clear s h11 h12
  rintro σ F5 M5 ⟨lu, s, hlu, hnu, hmu⟩
  obtain rfl := s.f
  refine cut (O5 F5 M r2 ask op k sl L i a z l lu) ?_ ?_
  · obtain ⟨r8, h8, f8⟩ := s.h8
    obtain ⟨r9, h9, f9⟩ := s.h9
    obtain ⟨q, h10, f10⟩ := s.h10
    obtain ⟨qu, h13, f13⟩ := s.h13
    obtain ⟨a13, c13, e13⟩ := f13.shape
    obtain ⟨a10, c10, e10⟩ := f10.shape
    have h13' := h13
    rw [e13] at h13'
    have h10' := h10
    rw [e10] at h10'
    have b9 := blk_M (F := F5) f9
    have lwz := isW_le (ok_in hd.ok).w
    simp only [go_sem, reduceCtorEq, reduceIte, Nat.reduceEqDiff, Nat.reduceAdd, Nat.reduceLeDiff, Nat.reduceMul, Int.reduceLT, Int.reduceLE, Int.reduceAdd, Int.reduceSub, Int.reduceMul, Int.reduceNeg, Int.reduceToNat, Int.reduceEq, s.h1, s.h2, s.h5, s.h7, h8, h9, h10', h13', b9]
    rw [← e10]
    refine callK_same (k26 F5 _ op k z q l hkk f10 (by omega) hd.ok hd.w hd.can hri) ?_
    by_cases hu0 : lu = []
    · obtain ⟨hv1, hv2⟩ := hd.void (hnu hu0)
      have hv1' : ¬ 0 ≤ z.nextR 0 := by omega
      have hz0 : (lu.length : Int) = 0 := by rw [hu0]; rfl
      have hz1 : (l.length : Int) = 0 := by rw [hv2]; rfl
      simp only [go_sem, reduceCtorEq, reduceIte, Nat.reduceEqDiff, Nat.reduceAdd, Nat.reduceLeDiff, Nat.reduceMul, Int.reduceLT, Int.reduceLE, Int.reduceAdd, Int.reduceSub, Int.reduceMul, Int.reduceNeg, Int.reduceToNat, Int.reduceEq, s.h1, s.h2, s.h5, s.h7, h8, h9, h10', h13', b9, hz0]
      refine callK_same (k17 F5 _ z 0 lwz.1 lwz.2) ?_
      simp only [go_sem, reduceCtorEq, reduceIte, Nat.reduceEqDiff, Nat.reduceAdd, Nat.reduceLeDiff, Nat.reduceMul, Int.reduceLT, Int.reduceLE, Int.reduceAdd, Int.reduceSub, Int.reduceMul, Int.reduceNeg, Int.reduceToNat, Int.reduceEq, s.h1, s.h2, s.h5, s.h7, h8, h9, h10', h13', hv1', hz1]
      exact s.ext (by simp only [go_sem, reduceCtorEq, reduceIte, Nat.reduceEqDiff]) (by simp only [go_sem, reduceCtorEq, reduceIte, Nat.reduceEqDiff]) (by simp only [go_sem, reduceCtorEq, reduceIte, Nat.reduceEqDiff]) (by simp only [go_sem, reduceCtorEq, reduceIte, Nat.reduceEqDiff]) (by simp only [go_sem, reduceCtorEq, reduceIte, Nat.reduceEqDiff]) (by simp only [go_sem, reduceCtorEq, reduceIte, Nat.reduceEqDiff, h8]) (by simp only [go_sem, reduceCtorEq, reduceIte, Nat.reduceEqDiff, h9]) (by simp only [go_sem, reduceCtorEq, reduceIte, Nat.reduceEqDiff, h10', h10, e10]) (by simp only [go_sem, reduceCtorEq, reduceIte, Nat.reduceEqDiff, h13', h13, e13])
    · have hu1 : ¬ (lu.length : Int) = 0 := by
        intro h
        exact hu0 (List.length_eq_zero_iff.1 (by omega))
      simp only [go_sem, reduceCtorEq, reduceIte, Nat.reduceEqDiff, Nat.reduceAdd, Nat.reduceLeDiff, Nat.reduceMul, Int.reduceLT, Int.reduceLE, Int.reduceAdd, Int.reduceSub, Int.reduceMul, Int.reduceNeg, Int.reduceToNat, Int.reduceEq, s.h1, s.h2, s.h5, s.h7, h8, h9, h10', h13', b9, hu1]
      exact s.ext (by simp only [go_sem, reduceCtorEq, reduceIte, Nat.reduceEqDiff]) (by simp only [go_sem, reduceCtorEq, reduceIte, Nat.reduceEqDiff]) (by simp only [go_sem, reduceCtorEq, reduceIte, Nat.reduceEqDiff]) (by simp only [go_sem, reduceCtorEq, reduceIte, Nat.reduceEqDiff]) (by simp only [go_sem, reduceCtorEq, reduceIte, Nat.reduceEqDiff]) (by simp only [go_sem, reduceCtorEq, reduceIte, Nat.reduceEqDiff, h8]) (by simp only [go_sem, reduceCtorEq, reduceIte, Nat.reduceEqDiff, h9]) (by simp only [go_sem, reduceCtorEq, reduceIte, Nat.reduceEqDiff, h10', h10, e10]) (by simp only [go_sem, reduceCtorEq, reduceIte, Nat.reduceEqDiff, h13', h13, e13])
  clear s
  rintro σ F5 M5 s
  obtain rfl := s.f
  obtain ⟨r8, h8, f8⟩ := s.h8
  obtain ⟨r9, h9, f9⟩ := s.h9
  obtain ⟨q, h10, f10⟩ := s.h10
  obtain ⟨qu, h13, f13⟩ := s.h13
  obtain ⟨a13, c13, e13⟩ := f13.shape
  have h13' := h13
  rw [e13] at h13'
  simp only [go_sem, reduceCtorEq, reduceIte, Nat.reduceEqDiff, Nat.reduceAdd, Nat.reduceLeDiff, Nat.reduceMul, Int.reduceLT, Int.reduceLE, Int.reduceAdd, Int.reduceSub, Int.reduceMul, Int.reduceNeg, Int.reduceToNat, Int.reduceEq, s.h1, s.h2, s.h5, s.h7, h8, h9, h10, h13']
  refine loop_of (o4S F5 M r2 ask op k sl L i a z l lu) lu.length ?_ ?_
  · exact ⟨s.ext (by simp only [go_sem, reduceCtorEq, reduceIte, Nat.reduceEqDiff]) (by simp only [go_sem, reduceCtorEq, reduceIte, Nat.reduceEqDiff]) (by simp only [go_sem, reduceCtorEq, reduceIte, Nat.reduceEqDiff]) (by simp only [go_sem, reduceCtorEq, reduceIte, Nat.reduceEqDiff]) (by simp only [go_sem, reduceCtorEq, reduceIte, Nat.reduceEqDiff]) (by simp only [go_sem, reduceCtorEq, reduceIte, Nat.reduceEqDiff, h8]) (by simp only [go_sem, reduceCtorEq, reduceIte, Nat.reduceEqDiff, h9]) (by simp only [go_sem, reduceCtorEq, reduceIte, Nat.reduceEqDiff, h10]) (by simp only [go_sem, reduceCtorEq, reduceIte, Nat.reduceEqDiff, h13', h13, e13]), 0, by omega, by simp only [go_sem, reduceCtorEq, reduceIte, Nat.reduceEqDiff] <;> rfl⟩
  clear h8 h9 h10 h13 h13' f8 f9 f10 f13 e13
  clear s r8 r9 q qu
  rintro ms σ F6 M6 ⟨s, ns, hns, h14⟩
  obtain rfl := s.f
  obtain ⟨r8, h8, f8⟩ := s.h8
  obtain ⟨r9, h9, f9⟩ := s.h9
  obtain ⟨q, h10, f10⟩ := s.h10
  obtain ⟨qu, h13, f13⟩ := s.h13
  obtain ⟨a13, c13, e13⟩ := f13.shape
  have h13' := h13
  rw [e13] at h13'
  by_cases hnl : (ns : Int) < lu.length
  rotate_left
  · simp only [go_sem, reduceCtorEq, reduceIte, Nat.reduceEqDiff, Nat.reduceAdd, Nat.reduceLeDiff, Nat.reduceMul, Int.reduceLT, Int.reduceLE, Int.reduceAdd, Int.reduceSub, Int.reduceMul, Int.reduceNeg, Int.reduceToNat, Int.reduceEq, s.h1, s.h2, s.h5, s.h7, h8, h9, h10, h13', h14, hnl]
    exact (s.toO2.ext (by simp only [go_sem, reduceCtorEq, reduceIte, Nat.reduceEqDiff]) (by simp only [go_sem, reduceCtorEq, reduceIte, Nat.reduceEqDiff]) (by simp only [go_sem, reduceCtorEq, reduceIte, Nat.reduceEqDiff]) (by simp only [go_sem, reduceCtorEq, reduceIte, Nat.reduceEqDiff]) (by simp only [go_sem, reduceCtorEq, reduceIte, Nat.reduceEqDiff]) (by simp only [go_sem, reduceCtorEq, reduceIte, Nat.reduceEqDiff, h8])).ti
  have ens : IntKind.i64.wrap ((ns : Int) + 1) = ns + 1 := w64 (by omega) (by omega)
  have hns0 : (0 : Int) ≤ ns := by omega
  have hns' : ns < lu.length := by omega
  obtain ⟨gu, cu, eu, bu, du⟩ := f13.get (F := F6) hns'
  have h13'' := h13
  rw [eu] at h13''
  obtain ⟨u1, u2, u3⟩ := hmu lu[ns] (List.getElem_mem _)
  generalize lu[ns] = pu at *
  have b8 := blk_M (F := F6) f8
  have b9 := blk_M (F := F6) f9
  have hall := hd.all pu u1 u2 u3
  have hO1 : onlyA a = .tuple #[.int .i64 (a.nextR 0), .bool a.is1] := rfl
  simp only [go_sem, reduceCtorEq, reduceIte, Nat.reduceEqDiff, Nat.reduceAdd, Nat.reduceLeDiff, Nat.reduceMul, Int.reduceLT, Int.reduceLE, Int.reduceAdd, Int.reduceSub, Int.reduceMul, Int.reduceNeg, Int.reduceToNat, Int.reduceEq, s.h1, s.h2, s.h5, s.h7, h8, h9, h10, h13'', h14, hnl, hns0, Int.toNat_natCast, Nat.mul_one, Nat.zero_add, bu, du, b8, b9]
  refine callK_same (k31 F6 _ op k pu hkk hop u1 (by rw [← wa]; exact u2)) ?_
  simp only [pairV, go_sem, reduceCtorEq, reduceIte, Nat.reduceEqDiff, Nat.reduceAdd, Nat.reduceLeDiff, Nat.reduceMul, Int.reduceLT, Int.reduceLE, Int.reduceAdd, Int.reduceSub, Int.reduceMul, Int.reduceNeg, Int.reduceToNat, Int.reduceEq, s.h1, s.h2, s.h5, s.h7, h8, h9, h10, h13'', h14, b8, b9]
  refine callK_same (k28 F6 _ z q l (oneK op k pu) f10 (by omega) hall) ?_
  simp only [go_sem, reduceCtorEq, reduceIte, Nat.reduceEqDiff, Nat.reduceAdd, Nat.reduceLeDiff, Nat.reduceMul, Int.reduceLT, Int.reduceLE, Int.reduceAdd, Int.reduceSub, Int.reduceMul, Int.reduceNeg, Int.reduceToNat, Int.reduceEq, s.h1, s.h2, s.h5, s.h7, h8, h9, h10, h13'', h14, b8, b9]
  refine callK_same (k20 F6 _ a ha) ?_
  cases i1 : a.is1
  · simp only [hO1, go_sem, reduceCtorEq, reduceIte, Nat.reduceEqDiff, Nat.reduceAdd, Nat.reduceLeDiff, Nat.reduceMul, Int.reduceLT, Int.reduceLE, Int.reduceAdd, Int.reduceSub, Int.reduceMul, Int.reduceNeg, Int.reduceToNat, Int.reduceEq, s.h1, s.h2, s.h5, s.h7, h8, h9, h10, h13'', h14, b8, b9, i1, ens]
    exact ⟨ms - 1, by omega, s.ext (by simp only [go_sem, reduceCtorEq, reduceIte, Nat.reduceEqDiff]) (by simp only [go_sem, reduceCtorEq, reduceIte, Nat.reduceEqDiff]) (by simp only [go_sem, reduceCtorEq, reduceIte, Nat.reduceEqDiff]) (by simp only [go_sem, reduceCtorEq, reduceIte, Nat.reduceEqDiff]) (by simp only [go_sem, reduceCtorEq, reduceIte, Nat.reduceEqDiff]) (by simp only [go_sem, reduceCtorEq, reduceIte, Nat.reduceEqDiff, h8]) (by simp only [go_sem, reduceCtorEq, reduceIte, Nat.reduceEqDiff, h9]) (by simp only [go_sem, reduceCtorEq, reduceIte, Nat.reduceEqDiff, h10]) (by simp only [go_sem, reduceCtorEq, reduceIte, Nat.reduceEqDiff, h13'', h13, eu]), ns + 1, by omega, by simp only [go_sem, reduceCtorEq, reduceIte, Nat.reduceEqDiff]; rfl⟩
  have hma := is1_mem ha i1
  have ep : pu = a.nextR 0 := hma.2.2.2 _ u1 u2 u3
  have hone := hd.one i1
  rw [← ep] at hone
  simp only [hO1, go_sem, reduceCtorEq, reduceIte, Nat.reduceEqDiff, Nat.reduceAdd, Nat.reduceLeDiff, Nat.reduceMul, Int.reduceLT, Int.reduceLE, Int.reduceAdd, Int.reduceSub, Int.reduceMul, Int.reduceNeg, Int.reduceToNat, Int.reduceEq, s.h1, s.h2, s.h5, s.h7, h8, h9, h10, h13'', h14, b8, b9, i1]
  refine callK_same (k21 F6 _ z q l (oneK op k pu) hd.ok f10 hone) ?_
  simp only [go_sem, reduceCtorEq, reduceIte, Nat.reduceEqDiff, Nat.reduceAdd, Nat.reduceLeDiff, Nat.reduceMul, Int.reduceLT, Int.reduceLE, Int.reduceAdd, Int.reduceSub, Int.reduceMul, Int.reduceNeg, Int.reduceToNat, Int.reduceEq, s.h1, s.h2, s.h5, s.h7, h8, h9, h10, h13'', h14, ens]
  exact ⟨ms - 1, by omega, s.ext (by simp only [go_sem, reduceCtorEq, reduceIte, Nat.reduceEqDiff]) (by simp only [go_sem, reduceCtorEq, reduceIte, Nat.reduceEqDiff]) (by simp only [go_sem, reduceCtorEq, reduceIte, Nat.reduceEqDiff]) (by simp only [go_sem, reduceCtorEq, reduceIte, Nat.reduceEqDiff]) (by simp only [go_sem, reduceCtorEq, reduceIte, Nat.reduceEqDiff]) (by simp only [go_sem, reduceCtorEq, reduceIte, Nat.reduceEqDiff, h8]) (by simp only [go_sem, reduceCtorEq, reduceIte, Nat.reduceEqDiff, h9]) (by simp only [go_sem, reduceCtorEq, reduceIte, Nat.reduceEqDiff, h10]) (by simp only [go_sem, reduceCtorEq, reduceIte, Nat.reduceEqDiff, h13'', h13, eu]), ns + 1, by omega, by simp only [go_sem, reduceCtorEq, reduceIte, Nat.reduceEqDiff]; rfl⟩
end Go.Proofs.Tryz.K

/- Contracts: a set's numbers as another kind's. -/
namespace Go.Proofs.Tryz.K
open Go Go.Ax Go.Proofs.Tryz.S
set_option maxRecDepth 100000
set_option linter.unusedSimpArgs false
set_option linter.unusedVariables false
set_option maxHeartbeats 4000000

def castK (f t x : Int) : Int := seenV f x % 2 ^ (ofW t).toNat
structure TurnR (f t : Int) (a z : V) : Prop where
  ok : z.ok = true
  w : z.w = ofW t
  all : ∀ x, 0 ≤ x → x ≤ mostV a.w → a.has x = true → z.has (castK f t x) = true
  void : a.nextR 0 < 0 → z.nextR 0 < 0
  one : a.is1 = true → z.nextR 0 = castK f t (a.nextR 0) ∧ z.is1 = true
theorem castK_isN (f t x : Int) : isN (castK f t x) (ofW t) = true := mod_isN (ofW_isW t)
def castL (f t : Int) (x : List Int) : List (Int × Int) := x.map fun v => (castK f t v, 0)
theorem turn_few {f t : Int} {a z : V} {l : List Int} (ha : a.ok = true) (h1 : (a.members 16).length ≤ 16) (s : AddI (ofW t) (castL f t (a.members 16)) z l) : TurnR f t a z := by
  refine ⟨s.ok, s.w, fun x x0 x1 hx => ?_, fun h => ?_, fun i1 => ?_⟩
  · have hu : x ∈ a.members 16 := mem_all ha 17 0 (by omega) (Nat.lt_succ_of_le h1) x x0 x1 hx
    exact s.num (castK f t x, 0) (List.mem_map.2 ⟨x, hu, rfl⟩) rfl
  · rw [members_void h] at s
    refine void_of s.ok fun n n0 n1 => ?_
    cases hz : z.has n
    · rfl
    · rw [s.w] at n1
      have e0 := s.one 0 (by simp [castL]) n n0 n1 hz
      have e1 := s.one 1 (by simp [castL]) n n0 n1 hz
      omega
  · rw [members_one i1] at s
    have hn := isN_le (castK_isN f t (a.nextR 0))
    exact single_of s.ok hn.1 (by rw [s.w]; exact hn.2) (s.num (castK f t (a.nextR 0), 0) (by simp [castL]) rfl) (by rw [s.w]; exact s.one _ (fun r hr _ => by simp [castL] at hr; rw [hr]))
theorem turn_many {f t lo hi : Int} {a z : V} (wa : a.w = ofW f) (ha : a.ok = true) (s : SeenR f a lo hi) (na : ¬ (a.members 16).length ≤ 16)
    (hz : (mostV (ofW t) ≤ hi - lo ∧ z = V.whole (ofW t)) ∨ (hi - lo < mostV (ofW t) ∧ z = V.span (ofW t) (lo % 2 ^ (ofW t).toNat) (hi % 2 ^ (ofW t).toNat))) : TurnR f t a z := by
  have hW := ofW_isW t
  have nv : ¬ a.nextR 0 < 0 := fun h => na (by rw [members_void h]; simp)
  have n1 : a.is1 = true → False := fun h => na (by rw [members_one h]; simp)
  rcases hz with ⟨h, rfl⟩ | ⟨h, rfl⟩
  · exact ⟨whole_ok hW, rfl, fun x _ _ _ => whole_has hW (castK_isN f t x), fun h => absurd h nv, fun h => (n1 h).elim⟩
  · obtain ⟨so, sw⟩ := span_ok (l := lo % 2 ^ (ofW t).toNat) (h := hi % 2 ^ (ofW t).toNat) hW (mod_isN hW) (mod_isN hW)
    refine ⟨so, sw, fun x x0 x1 hx => ?_, fun h => absurd h nv, fun h => (n1 h).elim⟩
    have := s.all x x0 x1 hx
    exact span_mod hW this.1 this.2 h
variable (F : Fz) (M : Hp)
structure TL (f t : Int) (r r6 : Nat) (q : Value) (x : List Int) (Mb : Hp) (R : List (Int × Int)) (F0 : Fz) (σ : Env) (F : Fz) (M : Hp) : Prop where
  ff : F = F0
  held : ∃ z u l, Held F0 Mb M r z u l ∧ AddI (ofW t) R z l
  h0 : Ax.look σ 0 = some (.int .i64 f)
  h1 : Ax.look σ 1 = some (.int .i64 t)
  h6 : Ax.look σ 6 = some (.pointer (some ⟨r6, 0, none⟩))
  h10 : Ax.look σ 10 = some (.pointer (some ⟨r, 0, none⟩))
  h27 : Ax.look σ 27 = some q
  h28 : Ax.look σ 28 = some (.int .i64 x.length)
def tI (f t : Int) (r r6 : Nat) (q : Value) (x : List Int) (Mb : Hp) (F0 : Fz) (m : Nat) (σ : Env) (F : Fz) (M : Hp) : Prop :=
  ∃ i : Nat, TL f t r r6 q x Mb (castL f t (x.take i)) F0 σ F M ∧ i + m = x.length ∧ Ax.look σ 29 = some (.int .i64 i)
theorem k38 (f t : Int) (a : V) (hold : Old F M) (hf : isK f = true) (ht : isK t = true) (ha : a.ok = true) (wa : a.w = ofW f) :
    CallsA Tryz.prog 38 [.int .i64 f, .int .i64 t, a.val] F M (fun v F' M' => F' = F ∧ M' = M ∧ ∃ z, v = V.val z ∧ TurnR f t a z) := by
  refine callsA_of hm Tryz.func38 e38 (Nat.le_of_ble_eq_true rfl) ?_
  have hW := ofW_isW t
  have lw := isW_le hW
  have kd := kinds hf
  simp only [c38, go_sem, reduceCtorEq, reduceIte, Nat.reduceEqDiff, Nat.reduceAdd, Nat.reduceLeDiff, Nat.reduceMul, Int.reduceLT, Int.reduceLE, Int.reduceAdd, Int.reduceSub, Int.reduceMul, Int.reduceNeg, Int.reduceToNat, Int.reduceEq]
  intro r5 hF5 hM5
  simp only [go_sem, reduceCtorEq, reduceIte, Nat.reduceEqDiff, Nat.reduceAdd, Nat.reduceLeDiff, Nat.reduceMul, Int.reduceLT, Int.reduceLE, Int.reduceAdd, Int.reduceSub, Int.reduceMul, Int.reduceNeg, Int.reduceToNat, Int.reduceEq]
  intro r6 hF6 hM6
  have g6 := fresh_of hM6
  have oo := fun e => (hold.upd hF5 (e := ⟨a.cs, 30, 6⟩)).upd hF6 (e := e)
  have kp := fun e => ((Keep.refl M).new hM5 (e := ⟨a.cs, 30, 6⟩)).new g6.2.2 (e := e)
  simp only [go_sem, reduceCtorEq, reduceIte, Nat.reduceEqDiff, Nat.reduceAdd, Nat.reduceLeDiff, Nat.reduceMul, Int.reduceLT, Int.reduceLE, Int.reduceAdd, Int.reduceSub, Int.reduceMul, Int.reduceNeg, Int.reduceToNat, Int.reduceEq, g6]
  refine callK_same (k59 F _ t ht) ?_
  simp only [go_sem, reduceCtorEq, reduceIte, Nat.reduceEqDiff, Nat.reduceAdd, Nat.reduceLeDiff, Nat.reduceMul, Int.reduceLT, Int.reduceLE, Int.reduceAdd, Int.reduceSub, Int.reduceMul, Int.reduceNeg, Int.reduceToNat, Int.reduceEq, g6]
  refine callK_of (k60 F _ a 16 ha (by decide)) ?_
  have f6 := Hp.upd_same (M.upd r5 ⟨a.cs, 30, 6⟩) r6 ⟨[.int .i64 0, .bool false, .int .i64 0, .int .i64 0, .int .i64 0, .int .i64 0], 30, 6⟩
  have f5 : ((M.upd r5 ⟨a.cs, 30, 6⟩).upd r6 ⟨[.int .i64 0, .bool false, .int .i64 0, .int .i64 0, .int .i64 0, .int .i64 0], 30, 6⟩) r5 = some ⟨a.cs, 30, 6⟩ := by
    rw [Hp.upd_ne' g6.2.1]; exact Hp.upd_same _ _ _
  have oo0 := oo ⟨[.int .i64 0, .bool false, .int .i64 0, .int .i64 0, .int .i64 0, .int .i64 0], 30, 6⟩
  have kp0 := kp ⟨[.int .i64 0, .bool false, .int .i64 0, .int .i64 0, .int .i64 0, .int .i64 0], 30, 6⟩
  clear oo kp
  generalize (M.upd r5 ⟨a.cs, 30, 6⟩).upd r6 ⟨[.int .i64 0, .bool false, .int .i64 0, .int .i64 0, .int .i64 0, .int .i64 0], 30, 6⟩ = M1 at *
  rintro w G M2 hm
  obtain ⟨hG, le, kq, oq, q, ok, rfl, hx⟩ := hm.row
  rw [hG]
  refine ⟨(fun h => by cases h), ?_⟩
  have o2 := oq oo0
  have kp2 := kp0.trans kq
  have f62 := kq _ _ f6
  have f52 := kq _ _ f5
  have b5 := blk_M (F := F) f52
  have n6 : M r6 = none := g6.2.2
  have fin : ∀ {z : V} {M' : Hp}, Keep M M' → M' r6 = some ⟨[.int .i64 0, .bool false, .int .i64 0, .int .i64 0, .int .i64 0, .int .i64 0], 30, 6⟩ → TurnR f t a z → endK F (M'.upd r6 ⟨z.cs, 30, 6⟩) (fun v F' M' => F' = F ∧ M' = M ∧ ∃ z, v = V.val z ∧ TurnR f t a z) z.val := fun {z M'} k1 _ h => endK_keep (k1.new n6) ⟨rfl, rfl, z, rfl, h⟩
  rcases hx with ⟨rfl, hx16, rx⟩ | ⟨rfl, hx16⟩
  rotate_left
  · have nv : ¬ a.nextR 0 < 0 := fun h => hx16 (by rw [members_void h]; simp)
    simp only [go_sem, reduceCtorEq, reduceIte, Nat.reduceEqDiff, Nat.reduceAdd, Nat.reduceLeDiff, Nat.reduceMul, Int.reduceLT, Int.reduceLE, Int.reduceAdd, Int.reduceSub, Int.reduceMul, Int.reduceNeg, Int.reduceToNat, Int.reduceEq, g6, b5]
    refine callK_of (k64 F M2 f a hf ha wa nv) ?_
    rintro w G M3 ⟨hG, rfl, lo, hi, rfl, sa⟩
    rw [hG]
    refine ⟨(fun h => by cases h), ?_⟩
    have hb := seen_least wa sa
    have esub : IntKind.i64.wrap (hi - lo) = hi - lo := w64 (by omega) (by omega)
    simp only [go_sem, reduceCtorEq, reduceIte, Nat.reduceEqDiff, Nat.reduceAdd, Nat.reduceLeDiff, Nat.reduceMul, Int.reduceLT, Int.reduceLE, Int.reduceAdd, Int.reduceSub, Int.reduceMul, Int.reduceNeg, Int.reduceToNat, Int.reduceEq, g6, b5, esub]
    refine callK_same (k65 F _ _ lw.1 lw.2) ?_
    by_cases hge : mostV (ofW t) ≤ hi - lo
    · simp only [go_sem, reduceCtorEq, reduceIte, Nat.reduceEqDiff, Nat.reduceAdd, Nat.reduceLeDiff, Nat.reduceMul, Int.reduceLT, Int.reduceLE, Int.reduceAdd, Int.reduceSub, Int.reduceMul, Int.reduceNeg, Int.reduceToNat, Int.reduceEq, g6, b5, hge]
      refine callK_same (k66 F _ _ lw.1 lw.2) ?_
      simp only [go_sem, reduceCtorEq, reduceIte, Nat.reduceEqDiff, Nat.reduceAdd, Nat.reduceLeDiff, Nat.reduceMul, Int.reduceLT, Int.reduceLE, Int.reduceAdd, Int.reduceSub, Int.reduceMul, Int.reduceNeg, Int.reduceToNat, Int.reduceEq, g6, f62]
      simp only [setH, go_sem, reduceCtorEq, reduceIte, Nat.reduceEqDiff, Nat.reduceAdd, Nat.reduceLeDiff, Nat.reduceMul, Int.reduceLT, Int.reduceLE, Int.reduceAdd, Int.reduceSub, Int.reduceMul, Int.reduceNeg, Int.reduceToNat, Int.reduceEq]
      exact fin kp2 f62 (turn_many wa ha sa hx16 (.inl ⟨hge, rfl⟩))
    · simp only [go_sem, reduceCtorEq, reduceIte, Nat.reduceEqDiff, Nat.reduceAdd, Nat.reduceLeDiff, Nat.reduceMul, Int.reduceLT, Int.reduceLE, Int.reduceAdd, Int.reduceSub, Int.reduceMul, Int.reduceNeg, Int.reduceToNat, Int.reduceEq, g6, b5, hge]
      refine callK_same (k68 F _ _ _ lw.1 lw.2) ?_
      simp only [go_sem, reduceCtorEq, reduceIte, Nat.reduceEqDiff, Nat.reduceAdd, Nat.reduceLeDiff, Nat.reduceMul, Int.reduceLT, Int.reduceLE, Int.reduceAdd, Int.reduceSub, Int.reduceMul, Int.reduceNeg, Int.reduceToNat, Int.reduceEq, g6]
      refine callK_same (k68 F _ _ _ lw.1 lw.2) ?_
      simp only [go_sem, reduceCtorEq, reduceIte, Nat.reduceEqDiff, Nat.reduceAdd, Nat.reduceLeDiff, Nat.reduceMul, Int.reduceLT, Int.reduceLE, Int.reduceAdd, Int.reduceSub, Int.reduceMul, Int.reduceNeg, Int.reduceToNat, Int.reduceEq, g6]
      refine callK_same (k67 F _ _ _ _ lw.1 lw.2) ?_
      simp only [go_sem, reduceCtorEq, reduceIte, Nat.reduceEqDiff, Nat.reduceAdd, Nat.reduceLeDiff, Nat.reduceMul, Int.reduceLT, Int.reduceLE, Int.reduceAdd, Int.reduceSub, Int.reduceMul, Int.reduceNeg, Int.reduceToNat, Int.reduceEq, g6, f62]
      simp only [setH, go_sem, reduceCtorEq, reduceIte, Nat.reduceEqDiff, Nat.reduceAdd, Nat.reduceLeDiff, Nat.reduceMul, Int.reduceLT, Int.reduceLE, Int.reduceAdd, Int.reduceSub, Int.reduceMul, Int.reduceNeg, Int.reduceToNat, Int.reduceEq]
      exact fin kp2 f62 (turn_many wa ha sa hx16 (.inr ⟨by omega, rfl⟩))
  have xin : ∀ v ∈ a.members 16, 0 ≤ v ∧ v ≤ mostV (ofW f) := fun v hv => by
    have := mem_has ha 17 0 (by omega) v hv
    rw [wa] at this; exact ⟨this.1, this.2.1⟩
  have few := fun z l => turn_few (f := f) (t := t) (z := z) (l := l) ha hx16
  clear hm
  generalize a.members 16 = x at *
  simp only [go_sem, reduceCtorEq, reduceIte, Nat.reduceEqDiff, Nat.reduceAdd, Nat.reduceLeDiff, Nat.reduceMul, Int.reduceLT, Int.reduceLE, Int.reduceAdd, Int.reduceSub, Int.reduceMul, Int.reduceNeg, Int.reduceToNat, Int.reduceEq, g6]
  refine callK_same (k61 F _ _) ?_
  simp only [go_sem, reduceCtorEq, reduceIte, Nat.reduceEqDiff, Nat.reduceAdd, Nat.reduceLeDiff, Nat.reduceMul, Int.reduceLT, Int.reduceLE, Int.reduceAdd, Int.reduceSub, Int.reduceMul, Int.reduceNeg, Int.reduceToNat, Int.reduceEq, g6]
  intro r hF hM
  obtain ⟨ax, cx, ex⟩ := rx.shape
  rw [ex]
  simp only [go_sem, reduceCtorEq, reduceIte, Nat.reduceEqDiff, Nat.reduceAdd, Nat.reduceLeDiff, Nat.reduceMul, Int.reduceLT, Int.reduceLE, Int.reduceAdd, Int.reduceSub, Int.reduceMul, Int.reduceNeg, Int.reduceToNat, Int.reduceEq, g6]
  have held0 : Held F M2 (M2.upd r ⟨abCs (V.nothing (ofW t)) (.slice none 0 0), 77, 7⟩) r (V.nothing (ofW t)) (.slice none 0 0) [] := ⟨Hp.upd_same _ _ _, MineG.nil, hM, (Keep.refl M2).new hM, o2.upd hF⟩
  generalize M2.upd r ⟨abCs (V.nothing (ofW t)) (.slice none 0 0), 77, 7⟩ = M3 at *
  refine loop_of (tI f t r r6 q x M2 F) x.length ?_ ?_
  · exact ⟨0, ⟨rfl, ⟨_, _, _, held0, AddI.nil hW⟩, by simp only [go_sem, reduceCtorEq, reduceIte, Nat.reduceEqDiff], by simp only [go_sem, reduceCtorEq, reduceIte, Nat.reduceEqDiff], by simp only [go_sem, reduceCtorEq, reduceIte, Nat.reduceEqDiff], by simp only [go_sem, reduceCtorEq, reduceIte, Nat.reduceEqDiff], by simp only [go_sem, reduceCtorEq, reduceIte, Nat.reduceEqDiff, ex], by simp only [go_sem, reduceCtorEq, reduceIte, Nat.reduceEqDiff]⟩, by omega, by simp only [go_sem, reduceCtorEq, reduceIte, Nat.reduceEqDiff] <;> rfl⟩
  clear held0
  clear M3
  rintro mi σ F2 M' ⟨i, s, hi, h29⟩
  obtain rfl := s.ff
  obtain ⟨z, u, l, hh, ai⟩ := s.held
  have h27 := s.h27
  rw [ex] at h27
  by_cases hil : (i : Int) < x.length
  rotate_left
  · have htk : x.take i = x := List.take_of_length_le (by omega)
    rw [htk] at ai
    have b10 := blk_M (F := F2) hh.blk
    have f63 := hh.kp _ _ f62
    simp only [go_sem, reduceCtorEq, reduceIte, Nat.reduceEqDiff, Nat.reduceAdd, Nat.reduceLeDiff, Nat.reduceMul, Int.reduceLT, Int.reduceLE, Int.reduceAdd, Int.reduceSub, Int.reduceMul, Int.reduceNeg, Int.reduceToNat, Int.reduceEq, s.h0, s.h1, s.h6, s.h10, h27, s.h28, h29, hil, b10, f63]
    simp only [setH, go_sem, reduceCtorEq, reduceIte, Nat.reduceEqDiff, Nat.reduceAdd, Nat.reduceLeDiff, Nat.reduceMul, Int.reduceLT, Int.reduceLE, Int.reduceAdd, Int.reduceSub, Int.reduceMul, Int.reduceNeg, Int.reduceToNat, Int.reduceEq]
    exact fin (kp2.trans hh.kp) f63 (few z l ai)
  have hi0 : (0 : Int) ≤ i := by omega
  have hil' : i < x.length := by omega
  have ei : IntKind.i64.wrap ((i : Int) + 1) = i + 1 := w64 (by omega) (by omega)
  obtain ⟨gx, capx, egx, bgx, dgx⟩ := (rx.keep hh.kp).get (F := F2) hil'
  have h27' := s.h27
  rw [egx] at h27'
  have hxi := xin x[i] (List.getElem_mem _)
  have hst : castL f t (x.take (i + 1)) = castL f t (x.take i) ++ [(castK f t x[i], 0)] := by
    unfold castL
    rw [List.take_succ_eq_append_getElem hil', List.map_append]; rfl
  generalize x[i] = xi at *
  have hl0 : l.length ≤ 1000 := by
    have : l = [] := by
      rw [List.eq_nil_iff_forall_not_mem]
      intro y hy
      obtain ⟨r', hr', h1, h2⟩ := ai.of y hy
      unfold castL at hr'
      rw [List.mem_map] at hr'
      obtain ⟨v, _, rfl⟩ := hr'
      exact h2 h1.symm
    rw [this]; simp
  simp only [go_sem, reduceCtorEq, reduceIte, Nat.reduceEqDiff, Nat.reduceAdd, Nat.reduceLeDiff, Nat.reduceMul, Int.reduceLT, Int.reduceLE, Int.reduceAdd, Int.reduceSub, Int.reduceMul, Int.reduceNeg, Int.reduceToNat, Int.reduceEq, s.h0, s.h1, s.h6, s.h10, h27', s.h28, h29, hil, hi0, Int.toNat_natCast, Nat.mul_one, Nat.zero_add, bgx, dgx]
  refine callK_same (k63 F2 _ f t xi ht hxi.1 hxi.2) ?_
  simp only [go_sem, reduceCtorEq, reduceIte, Nat.reduceEqDiff, Nat.reduceAdd, Nat.reduceLeDiff, Nat.reduceMul, Int.reduceLT, Int.reduceLE, Int.reduceAdd, Int.reduceSub, Int.reduceMul, Int.reduceNeg, Int.reduceToNat, Int.reduceEq, s.h0, s.h1, s.h6, s.h10, h27', s.h28, h29]
  have hran := castK_isN f t xi
  refine callK_of (k62 F2 M' M2 r z u l (castK f t xi) 0 hh ai.ok (fun _ => by rw [ai.w]; exact hran) hl0) ?_
  rintro w G M4 ⟨hG, z', u', l', hh', hr', hx'⟩
  rw [hG]
  refine ⟨(fun h => by cases h), ?_⟩
  simp only [go_sem, reduceCtorEq, reduceIte, Nat.reduceEqDiff, Nat.reduceAdd, Nat.reduceLeDiff, Nat.reduceMul, Int.reduceLT, Int.reduceLE, Int.reduceAdd, Int.reduceSub, Int.reduceMul, Int.reduceNeg, Int.reduceToNat, Int.reduceEq, s.h0, s.h1, s.h6, s.h10, h27', s.h28, h29, ei]
  rcases hx' with ⟨_, rfl, hbo⟩ | ⟨h0, _⟩
  rotate_left
  · exact absurd rfl h0
  rw [ai.w] at hbo
  refine ⟨mi - 1, by omega, i + 1, ?_, by omega, by simp only [go_sem, reduceCtorEq, reduceIte, Nat.reduceEqDiff]; rfl⟩
  rw [hst]
  exact ⟨rfl, ⟨z', u', _, hh', ai.addNum hran hbo⟩, by simp only [go_sem, reduceCtorEq, reduceIte, Nat.reduceEqDiff, s.h0], by simp only [go_sem, reduceCtorEq, reduceIte, Nat.reduceEqDiff, s.h1], by simp only [go_sem, reduceCtorEq, reduceIte, Nat.reduceEqDiff, s.h6], by simp only [go_sem, reduceCtorEq, reduceIte, Nat.reduceEqDiff, s.h10], by simp only [go_sem, reduceCtorEq, reduceIte, Nat.reduceEqDiff, h27', egx], by simp only [go_sem, reduceCtorEq, reduceIte, Nat.reduceEqDiff, s.h28]⟩
def okC (f t : Int) (a : V) : Bool := fitB f a && isK t
def castP (f t : Int) (a : V) (F : Fz) (M : Hp) (v : Value) (F' : Fz) (M' : Hp) : Prop :=
  F' = F ∧ M' = M ∧ ((okC f t a = true ∧ ∃ z, v = .tuple #[z.val, .int .i64 0] ∧ TurnR f t a z) ∨ (okC f t a = false ∧ v = .tuple #[V.zero.val, .int .i64 1]))
theorem k12 (f t : Int) (a : V) (hold : Old F M) : CallsA Tryz.prog 12 [.int .i64 f, .int .i64 t, a.val] F M (castP f t a F M) := by
  refine callsA_of hm Tryz.func12 e12 (Nat.le_of_ble_eq_true rfl) ?_
  simp only [c12, go_sem, reduceCtorEq, reduceIte, Nat.reduceEqDiff, Nat.reduceAdd, Nat.reduceLeDiff, Nat.reduceMul, Int.reduceLT, Int.reduceLE, Int.reduceAdd, Int.reduceSub, Int.reduceMul, Int.reduceNeg, Int.reduceToNat, Int.reduceEq]
  intro r5 hF5 hM5
  simp only [go_sem, reduceCtorEq, reduceIte, Nat.reduceEqDiff, Nat.reduceAdd, Nat.reduceLeDiff, Nat.reduceMul, Int.reduceLT, Int.reduceLE, Int.reduceAdd, Int.reduceSub, Int.reduceMul, Int.reduceNeg, Int.reduceToNat, Int.reduceEq]
  intro r6 hF6 hM6
  have g6 := fresh_of hM6
  have oo := fun e => (hold.upd hF5 (e := ⟨a.cs, 30, 6⟩)).upd hF6 (e := e)
  have kp := fun e => ((Keep.refl M).new hM5 (e := ⟨a.cs, 30, 6⟩)).new g6.2.2 (e := e)
  simp only [go_sem, reduceCtorEq, reduceIte, Nat.reduceEqDiff, Nat.reduceAdd, Nat.reduceLeDiff, Nat.reduceMul, Int.reduceLT, Int.reduceLE, Int.reduceAdd, Int.reduceSub, Int.reduceMul, Int.reduceNeg, Int.reduceToNat, Int.reduceEq, g6]
  refine callK_same (k36 F _ f a) ?_
  cases h1 : fitB f a
  · simp only [go_sem, reduceCtorEq, reduceIte, Nat.reduceEqDiff, Nat.reduceAdd, Nat.reduceLeDiff, Nat.reduceMul, Int.reduceLT, Int.reduceLE, Int.reduceAdd, Int.reduceSub, Int.reduceMul, Int.reduceNeg, Int.reduceToNat, Int.reduceEq, g6]
    exact endK_keep (kp _) ⟨rfl, rfl, .inr ⟨by simp [okC, h1], rfl⟩⟩
  simp only [go_sem, reduceCtorEq, reduceIte, Nat.reduceEqDiff, Nat.reduceAdd, Nat.reduceLeDiff, Nat.reduceMul, Int.reduceLT, Int.reduceLE, Int.reduceAdd, Int.reduceSub, Int.reduceMul, Int.reduceNeg, Int.reduceToNat, Int.reduceEq, g6]
  refine callK_same (k37 F _ t) ?_
  cases h2 : isK t
  · simp only [go_sem, reduceCtorEq, reduceIte, Nat.reduceEqDiff, Nat.reduceAdd, Nat.reduceLeDiff, Nat.reduceMul, Int.reduceLT, Int.reduceLE, Int.reduceAdd, Int.reduceSub, Int.reduceMul, Int.reduceNeg, Int.reduceToNat, Int.reduceEq, g6]
    exact endK_keep (kp _) ⟨rfl, rfl, .inr ⟨by simp [okC, h2], rfl⟩⟩
  obtain ⟨hk, ha, wa⟩ := fitB_of h1
  simp only [go_sem, reduceCtorEq, reduceIte, Nat.reduceEqDiff, Nat.reduceAdd, Nat.reduceLeDiff, Nat.reduceMul, Int.reduceLT, Int.reduceLE, Int.reduceAdd, Int.reduceSub, Int.reduceMul, Int.reduceNeg, Int.reduceToNat, Int.reduceEq, g6]
  refine callK_of (k38 F _ f t a (oo _) hk h2 ha wa) ?_
  rintro w G M2 ⟨hG, rfl, z, rfl, hz⟩
  rw [hG]
  refine ⟨(fun h => by cases h), ?_⟩
  simp only [go_sem, reduceCtorEq, reduceIte, Nat.reduceEqDiff, Nat.reduceAdd, Nat.reduceLeDiff, Nat.reduceMul, Int.reduceLT, Int.reduceLE, Int.reduceAdd, Int.reduceSub, Int.reduceMul, Int.reduceNeg, Int.reduceToNat, Int.reduceEq, g6]
  exact endK_keep (kp _) ⟨rfl, rfl, .inl ⟨by simp [okC, h1, h2], z, rfl, hz⟩⟩
end Go.Proofs.Tryz.K
