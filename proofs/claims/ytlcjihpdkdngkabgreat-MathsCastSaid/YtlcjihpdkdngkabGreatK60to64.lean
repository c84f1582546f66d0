/- Parts K60to64: the machine's runs of small codes, contracts of functions, plain facts. -/
import Derived.Test.YtlcjihpdkdngkabGreatProg
import Derived.Test.YtlcjihpdkdngkabGreatK30to34
namespace Go.Proofs.Tryz.S
open Go Go.Ax Go.Ax.N
set_option maxRecDepth 100000

/-- cellar/cellarref1.MayTwo -/
def c25 : SF := ⟨12, [.t 4], (.seq (.ops [o 4 (.mv (b false))])
 (.seq (.ops [o 5 (.mv (t 0)),
 k 6 (.ca (.func 45) [(t 5), (i 8), (i 19)]),
 o 7 (.mv (t 6)),
 og 8 7 true (.mv (t 1)),
 ⟨some 9, some (7, true), .ca (.func 13) [(t 8)]⟩,
 og 10 7 true (.bin .gtr (t 9) (i 0)),
 o 11 (.pick (t 7) (t 10) (b false)),
 o 4 (.mv (t 11))])
 .ret))⟩
theorem e25 : slimF Tryz.prog Tryz.f25 [] = some c25 := by kernel_rfl
/-- cellar/alu.IsTwo -/
def c46 : SF := ⟨9, [.t 2], (.seq (.ops [o 2 (.mv (b false))])
 (.seq (.ops [o 3 (.mv (t 0)),
 o 4 (.bin .geq (t 3) (i 8)),
 o 5 (.mv (t 4)),
 og 6 5 true (.mv (t 0)),
 og 7 5 true (.bin .leq (t 6) (i 19)),
 o 8 (.pick (t 5) (t 7) (b false)),
 o 2 (.mv (t 8))])
 .ret))⟩
theorem e46 : slimF Tryz.prog Tryz.f46 [] = some c46 := by kernel_rfl
/-- cellar/cellarref1.Answer -/
def c48 : SF := ⟨17, [.t 4], (.seq (.ops [o 4 (.mv (i 0))])
 (.seq (.seq (.ops [o 5 (.mv (t 0)),
 o 6 (.bin .eql (t 5) (i 18)),
 o 7 (.mv (t 6)),
 og 8 7 false (.mv (t 0)),
 og 9 7 false (.bin .eql (t 8) (i 19)),
 o 10 (.pick (t 7) (b true) (t 9)),
 o 11 (.mv (t 10)),
 og 12 11 false (.mv (t 0)),
 og 13 11 false (.bin .eql (t 12) (i 7)),
 o 14 (.pick (t 11) (b true) (t 13))])
 (.cond (t 14)
 (.seq (.ops [o 4 (.mv (i 32))])
 .ret)
 .skip))
 (.seq (.ops [o 15 (.mv (t 1)),
 k 16 (.ca (.func 13) [(t 15)]),
 o 4 (.mv (t 16))])
 .ret)))⟩
theorem e48 : slimF Tryz.prog Tryz.f48 [] = some c48 := by kernel_rfl
/-- cellar/cellarref1.fit -/
def c51 : SF := ⟨27, [.t 4, .t 5], (.seq (.ops [o 4 (.mv (i 0)),
 o 5 (.mv (i 0))])
 (.seq (.ops [o 7 (.mv (t 0)),
 k 8 (.ca (.func 13) [(t 7)]),
 o 6 (.mv (t 8))])
 (.seq (.seq (.opq [o 9 (.mv (t 0)),
 k 10 (.ca (.func 52) [(t 9)]),
 o 11 (.mv (t 10)),
 og 12 11 true (.mv (t 1)),
 og 13 11 true (.mv (t 6)),
 og 14 11 true (.bin .sub (t 13) (i 1)),
 og 15 11 true (.bin .shl (i 1) (t 14)),
 og 16 11 true (.un .neg (t 15)),
 og 17 11 true (.mv (t 6)),
 og 18 11 true (.bin .sub (t 17) (i 1)),
 og 19 11 true (.bin .shl (i 1) (t 18)),
 og 20 11 true (.bin .sub (t 19) (i 1)),
 ⟨some 21, some (11, true), .ca (.func 45) [(t 12), (t 16), (t 20)]⟩,
 og 22 11 true (.un .not (t 21)),
 o 23 (.pick (t 11) (t 22) (b false))])
 (.cond (t 23)
 (.seq (.ops [o 4 (.mv (i 0)),
 o 5 (.mv (i 4))])
 .ret)
 .skip))
 (.seq (.ops [o 24 (.mv (t 1)),
 o 25 (.mv (t 6)),
 k 26 (.ca (.func 35) [(t 24), (t 25)]),
 o 4 (.mv (t 26)),
 o 5 (.mv (i 0))])
 .ret))))⟩
theorem e51 : slimF Tryz.prog Tryz.f51 [[(0, []), (1, []), (2, []), (3, []), (4, []), (5, []), (6, []), (7, []), (8, []), (9, []), (10, []), (11, []), (12, []), (13, []), (14, [])]] = some c51 := by kernel_rfl
/-- cellar/maths.result -/
def c71 : SF := ⟨17, [.t 4], (.seq (.ops [o 4 (.mv (i 0))])
 (.seq (.seq (.ops [o 5 (.mv (t 0)),
 o 6 (.bin .eql (t 5) (i 18)),
 o 7 (.mv (t 6)),
 og 8 7 false (.mv (t 0)),
 og 9 7 false (.bin .eql (t 8) (i 19)),
 o 10 (.pick (t 7) (b true) (t 9)),
 o 11 (.mv (t 10)),
 og 12 11 false (.mv (t 0)),
 og 13 11 false (.bin .eql (t 12) (i 7)),
 o 14 (.pick (t 11) (b true) (t 13))])
 (.cond (t 14)
 (.seq (.ops [o 4 (.mv (i 32))])
 .ret)
 .skip))
 (.seq (.ops [o 15 (.mv (t 1)),
 k 16 (.ca (.func 59) [(t 15)]),
 o 4 (.mv (t 16))])
 .ret)))⟩
theorem e71 : slimF Tryz.prog Tryz.f71 [] = some c71 := by kernel_rfl
/-- cellar/alu.Do -/
def c75 : SF := ⟨92, [.t 8, .t 9], (.seq (.ops [o 8 (.mv (i 0)),
 o 9 (.mv (i 0))])
 (.seq (.ops [o 12 (.mv (t 1)),
 o 13 (.mv (t 2)),
 k 14 (.ca (.func 82) [(t 12), (t 13)]),
 o 15 (.mv (t 1)),
 o 16 (.mv (t 3)),
 k 17 (.ca (.func 82) [(t 15), (t 16)]),
 o 10 (.mv (t 14)),
 o 11 (.mv (t 17))])
 (.seq (.seq (.ops [o 18 (.mv (t 0))])
 (.block 0 (.seq (.ops [o 20 (.bin .eql (t 18) (i 8)),
 o 19 (.mv (t 20))])
 (.cond (t 19)
 (.seq (.ops [o 21 (.mv (t 1)),
 o 22 (.mv (t 10)),
 o 23 (.mv (t 11)),
 o 24 (.bin .add (t 22) (t 23)),
 k 25 (.ca (.func 93) [(t 21), (t 24)]),
 o 26 (.ex (t 25) 0),
 o 27 (.ex (t 25) 1),
 o 8 (.mv (t 26)),
 o 9 (.mv (t 27))])
 .ret)
 (.seq (.ops [o 29 (.bin .eql (t 18) (i 9)),
 o 28 (.mv (t 29))])
 (.cond (t 28)
 (.seq (.ops [o 30 (.mv (t 1)),
 o 31 (.mv (t 10)),
 o 32 (.mv (t 11)),
 o 33 (.bin .sub (t 31) (t 32)),
 k 34 (.ca (.func 93) [(t 30), (t 33)]),
 o 35 (.ex (t 34) 0),
 o 36 (.ex (t 34) 1),
 o 8 (.mv (t 35)),
 o 9 (.mv (t 36))])
 .ret)
 (.seq (.ops [o 38 (.bin .eql (t 18) (i 10)),
 o 37 (.mv (t 38))])
 (.cond (t 37)
 (.seq (.ops [o 39 (.mv (t 1)),
 o 40 (.mv (t 10)),
 o 41 (.mv (t 11)),
 o 42 (.bin .mul (t 40) (t 41)),
 k 43 (.ca (.func 93) [(t 39), (t 42)]),
 o 44 (.ex (t 43) 0),
 o 45 (.ex (t 43) 1),
 o 8 (.mv (t 44)),
 o 9 (.mv (t 45))])
 .ret)
 (.seq (.seq (.ops [o 47 (.bin .eql (t 18) (i 11)),
 o 46 (.mv (t 47))])
 (.cond (t 46)
 .skip
 (.ops [o 48 (.bin .eql (t 18) (i 12)),
 o 46 (.mv (t 48))])))
 (.cond (t 46)
 (.seq (.ops [o 49 (.mv (t 0)),
 o 50 (.mv (t 1)),
 o 51 (.mv (t 10)),
 o 52 (.mv (t 11)),
 k 53 (.ca (.func 94) [(t 49), (t 50), (t 51), (t 52)]),
 o 54 (.ex (t 53) 0),
 o 55 (.ex (t 53) 1),
 o 8 (.mv (t 54)),
 o 9 (.mv (t 55))])
 .ret)
 (.seq (.ops [o 57 (.bin .eql (t 18) (i 13)),
 o 56 (.mv (t 57))])
 (.cond (t 56)
 (.seq (.ops [o 58 (.mv (t 2)),
 o 59 (.mv (t 3)),
 o 60 (.bin .and (t 58) (t 59)),
 o 8 (.mv (t 60)),
 o 9 (.mv (i 0))])
 .ret)
 (.seq (.ops [o 62 (.bin .eql (t 18) (i 14)),
 o 61 (.mv (t 62))])
 (.cond (t 61)
 (.seq (.ops [o 63 (.mv (t 2)),
 o 64 (.mv (t 3)),
 o 65 (.bin .or (t 63) (t 64)),
 o 8 (.mv (t 65)),
 o 9 (.mv (i 0))])
 .ret)
 (.seq (.ops [o 67 (.bin .eql (t 18) (i 15)),
 o 66 (.mv (t 67))])
 (.cond (t 66)
 (.seq (.ops [o 68 (.mv (t 2)),
 o 69 (.mv (t 3)),
 o 70 (.bin .xor (t 68) (t 69)),
 o 8 (.mv (t 70)),
 o 9 (.mv (i 0))])
 .ret)
 (.seq (.seq (.ops [o 72 (.bin .eql (t 18) (i 16)),
 o 71 (.mv (t 72))])
 (.cond (t 71)
 .skip
 (.ops [o 73 (.bin .eql (t 18) (i 17)),
 o 71 (.mv (t 73))])))
 (.cond (t 71)
 (.seq (.ops [o 74 (.mv (t 0)),
 o 75 (.mv (t 1)),
 o 76 (.mv (t 2)),
 o 77 (.mv (t 10)),
 o 78 (.mv (t 11)),
 k 79 (.ca (.func 95) [(t 74), (t 75), (t 76), (t 77), (t 78)]),
 o 80 (.ex (t 79) 0),
 o 81 (.ex (t 79) 1),
 o 8 (.mv (t 80)),
 o 9 (.mv (t 81))])
 .ret)
 (.seq (.ops [o 83 (.bin .eql (t 18) (i 18)),
 o 82 (.mv (t 83))])
 (.cond (t 82)
 (.seq (.ops [o 84 (.mv (t 10)),
 o 85 (.mv (t 11)),
 o 86 (.bin .eql (t 84) (t 85)),
 k 87 (.ca (.func 96) [(t 86)]),
 o 8 (.mv (t 87)),
 o 9 (.mv (i 0))])
 .ret)
 .skip))))))))))))))))))))
 (.seq (.ops [o 88 (.mv (t 10)),
 o 89 (.mv (t 11)),
 o 90 (.bin .lss (t 88) (t 89)),
 k 91 (.ca (.func 96) [(t 90)]),
 o 8 (.mv (t 91)),
 o 9 (.mv (i 0))])
 .ret))))⟩
theorem e75 : slimF Tryz.prog Tryz.f75 [] = some c75 := by kernel_rfl
/-- slices.Contains[[]int,int] -/
def c81 : SF := ⟨9, [.t 4], (.seq (.ops [o 4 (.mv (b false))])
 (.seq (.ops [o 5 (.mv (t 0)),
 o 6 (.mv (t 1)),
 k 7 (.ca (.func 101) [(t 5), (t 6)]),
 o 8 (.bin .geq (t 7) (i 0)),
 o 4 (.mv (t 8))])
 .ret))⟩
theorem e81 : slimF Tryz.prog Tryz.f81 [] = some c81 := by kernel_rfl
/-- slices.Sort[[]int,int] -/
def c86 : SF := ⟨11, [], (.seq (.ops [o 3 (.mv (t 0)),
 o 4 (.ln (t 3)),
 o 2 (.mv (t 4))])
 (.ops [o 5 (.mv (t 0)),
 o 6 (.mv (t 2)),
 o 7 (.mv (t 2)),
 o 8 (.cv .u64 (t 7)),
 k 9 (.ca (.func 103) [(t 8)]),
 k 10 (.ca (.func 102) [(t 5), (i 0), (t 6), (t 9)])]))⟩
theorem e86 : slimF Tryz.prog Tryz.f86 [] = some c86 := by kernel_rfl
/-- cellar/alu.fit -/
def c93 : SF := ⟨29, [.t 4, .t 5], (.seq (.ops [o 4 (.mv (i 0)),
 o 5 (.mv (i 0))])
 (.seq (.ops [o 9 (.mv (t 0)),
 k 10 (.ca (.func 104) [(t 9)]),
 o 8 (.mv (t 10)),
 o 11 (.ex (t 8) 0),
 o 12 (.ex (t 8) 1),
 o 6 (.mv (t 11)),
 o 7 (.mv (t 12))])
 (.seq (.seq (.ops [o 13 (.mv (t 0)),
 k 14 (.ca (.func 83) [(t 13)]),
 o 15 (.mv (t 14)),
 og 16 15 true (.mv (t 1)),
 og 17 15 true (.mv (t 6)),
 og 18 15 true (.bin .lss (t 16) (t 17)),
 og 19 15 true (.mv (t 18)),
 og 20 19 false (.mv (t 1)),
 og 21 19 false (.mv (t 7)),
 og 22 19 false (.bin .gtr (t 20) (t 21)),
 og 23 15 true (.pick (t 19) (b true) (t 22)),
 o 24 (.pick (t 15) (t 23) (b false))])
 (.cond (t 24)
 (.seq (.ops [o 4 (.mv (i 0)),
 o 5 (.mv (i 4))])
 .ret)
 .skip))
 (.seq (.ops [o 25 (.mv (t 1)),
 o 26 (.mv (t 0)),
 k 27 (.ca (.func 59) [(t 26)]),
 k 28 (.ca (.func 68) [(t 25), (t 27)]),
 o 4 (.mv (t 28)),
 o 5 (.mv (i 0))])
 .ret))))⟩
theorem e93 : slimF Tryz.prog Tryz.f93 [] = some c93 := by kernel_rfl
/-- cellar/alu.divide -/
def c94 : SF := ⟨49, [.t 8, .t 9], (.seq (.ops [o 8 (.mv (i 0)),
 o 9 (.mv (i 0))])
 (.seq (.ops [o 13 (.mv (t 1)),
 k 14 (.ca (.func 104) [(t 13)]),
 o 12 (.mv (t 14)),
 o 15 (.ex (t 12) 0),
 o 16 (.ex (t 12) 1),
 o 10 (.mv (t 15)),
 o 11 (.mv (t 16))])
 (.seq (.block 0 (.seq (.ops [o 18 (.mv (t 3)),
 o 19 (.bin .eql (t 18) (i 0)),
 o 17 (.mv (t 19))])
 (.cond (t 17)
 (.seq (.ops [o 8 (.mv (i 0)),
 o 9 (.mv (i 6))])
 .ret)
 (.seq (.ops [o 21 (.mv (t 1)),
 k 22 (.ca (.func 83) [(t 21)]),
 o 23 (.mv (t 22)),
 og 24 23 true (.mv (t 2)),
 og 25 23 true (.mv (t 10)),
 og 26 23 true (.bin .eql (t 24) (t 25)),
 o 27 (.pick (t 23) (t 26) (b false)),
 o 28 (.mv (t 27)),
 og 29 28 true (.mv (t 3)),
 og 30 28 true (.bin .eql (t 29) (i (-1))),
 o 31 (.pick (t 28) (t 30) (b false)),
 o 20 (.mv (t 31))])
 (.cond (t 20)
 (.seq (.ops [o 8 (.mv (i 0)),
 o 9 (.mv (i 4))])
 .ret)
 (.seq (.ops [o 33 (.mv (t 0)),
 o 34 (.bin .eql (t 33) (i 11)),
 o 32 (.mv (t 34))])
 (.cond (t 32)
 (.seq (.ops [o 35 (.mv (t 1)),
 o 36 (.mv (t 2)),
 o 37 (.mv (t 3)),
 o 38 (.bin .quo (t 36) (t 37)),
 k 39 (.ca (.func 93) [(t 35), (t 38)]),
 o 40 (.ex (t 39) 0),
 o 41 (.ex (t 39) 1),
 o 8 (.mv (t 40)),
 o 9 (.mv (t 41))])
 .ret)
 .skip)))))))
 (.seq (.ops [o 42 (.mv (t 1)),
 o 43 (.mv (t 2)),
 o 44 (.mv (t 3)),
 o 45 (.bin .rem (t 43) (t 44)),
 k 46 (.ca (.func 93) [(t 42), (t 45)]),
 o 47 (.ex (t 46) 0),
 o 48 (.ex (t 46) 1),
 o 8 (.mv (t 47)),
 o 9 (.mv (t 48))])
 .ret))))⟩
theorem e94 : slimF Tryz.prog Tryz.f94 [] = some c94 := by kernel_rfl
/-- cellar/alu.shift -/
def c95 : SF := ⟨36, [.t 10, .t 11], (.seq (.ops [o 10 (.mv (i 0)),
 o 11 (.mv (i 0))])
 (.seq (.ops [o 13 (.mv (t 1)),
 k 14 (.ca (.func 59) [(t 13)]),
 o 12 (.mv (t 14))])
 (.seq (.block 0 (.seq (.ops [o 16 (.mv (t 4)),
 o 17 (.bin .lss (t 16) (i 0)),
 o 18 (.mv (t 17)),
 og 19 18 false (.mv (t 4)),
 og 20 18 false (.mv (t 12)),
 og 21 18 false (.bin .geq (t 19) (t 20)),
 o 22 (.pick (t 18) (b true) (t 21)),
 o 15 (.mv (t 22))])
 (.cond (t 15)
 (.seq (.ops [o 10 (.mv (i 0)),
 o 11 (.mv (i 5))])
 .ret)
 (.seq (.ops [o 24 (.mv (t 0)),
 o 25 (.bin .eql (t 24) (i 16)),
 o 23 (.mv (t 25))])
 (.cond (t 23)
 (.seq (.ops [o 26 (.mv (t 2)),
 o 27 (.mv (t 4)),
 o 28 (.bin .shl (t 26) (t 27)),
 o 29 (.mv (t 12)),
 k 30 (.ca (.func 68) [(t 28), (t 29)]),
 o 10 (.mv (t 30)),
 o 11 (.mv (i 0))])
 .ret)
 .skip)))))
 (.seq (.ops [o 31 (.mv (t 3)),
 o 32 (.mv (t 4)),
 o 33 (.bin .shr (t 31) (t 32)),
 o 34 (.mv (t 12)),
 k 35 (.ca (.func 68) [(t 33), (t 34)]),
 o 10 (.mv (t 35)),
 o 11 (.mv (i 0))])
 .ret))))⟩
theorem e95 : slimF Tryz.prog Tryz.f95 [] = some c95 := by kernel_rfl
/-- cellar/alu.told -/
def c96 : SF := ⟨4, [.t 2], (.seq (.ops [o 2 (.mv (i 0))])
 (.seq (.seq (.ops [o 3 (.mv (t 0))])
 (.cond (t 3)
 (.seq (.ops [o 2 (.mv (i 1))])
 .ret)
 .skip))
 (.seq (.ops [o 2 (.mv (i 0))])
 .ret)))⟩
theorem e96 : slimF Tryz.prog Tryz.f96 [] = some c96 := by kernel_rfl
/-- slices.Index[[]int,int] -/
def c101 : SF := ⟨19, [.t 4], (.seq (.ops [o 4 (.mv (i 0))])
 (.seq (.seq (.ops [o 6 (.mv (t 0)),
 o 7 (.ln (t 6)),
 o 8 (.mv (i 0))])
 (.block 0 (.loop (.seq (.ops [o 9 (.bin .lss (t 8) (t 7))])
 (.seq (.cond (t 9)
 .skip
 (.exit 0))
 (.seq (.block 1 (.seq (.ops [o 10 (.mv (t 8)),
 o 5 (.mv (t 10))])
 (.seq (.ops [o 11 (.mv (t 1)),
 o 12 (.mv (t 0)),
 o 13 (.mv (t 5)),
 o 14 (.ia 1 (t 12) (t 13)),
 o 15 (.ld false 1 (t 14)),
 o 16 (.bin .eql (t 11) (t 15))])
 (.cond (t 16)
 (.seq (.ops [o 17 (.mv (t 5)),
 o 4 (.mv (t 17))])
 .ret)
 .skip))))
 (.ops [o 18 (.bin .add (t 8) (i 1)),
 o 8 (.mv (t 18))])))))))
 (.seq (.ops [o 4 (.mv (i (-1)))])
 .ret)))⟩
theorem e101 : slimF Tryz.prog Tryz.f101 [] = some c101 := by kernel_rfl
/-- slices.pdqsortOrdered[int] -/
def c102 : SF := ⟨134, [], (.seq (.ops [o 8 (.mv (b true))])
 (.seq (.ops [o 9 (.mv (b true))])
 (.block 0 (.loop (.block 1 (.seq (.ops [o 19 (.mv (t 2)),
 o 20 (.mv (t 1)),
 o 21 (.bin .sub (t 19) (t 20)),
 o 10 (.mv (t 21))])
 (.seq (.seq (.ops [o 22 (.mv (t 10)),
 o 23 (.bin .leq (t 22) (i 12))])
 (.cond (t 23)
 (.seq (.ops [o 24 (.mv (t 0)),
 o 25 (.mv (t 1)),
 o 26 (.mv (t 2)),
 k 27 (.ca (.func 111) [(t 24), (t 25), (t 26)])])
 .ret)
 .skip))
 (.seq (.seq (.ops [o 28 (.mv (t 3)),
 o 29 (.bin .eql (t 28) (i 0))])
 (.cond (t 29)
 (.seq (.ops [o 30 (.mv (t 0)),
 o 31 (.mv (t 1)),
 o 32 (.mv (t 2)),
 k 33 (.ca (.func 112) [(t 30), (t 31), (t 32)])])
 .ret)
 .skip))
 (.seq (.seq (.ops [o 34 (.mv (t 8)),
 o 35 (.un .not (t 34))])
 (.cond (t 35)
 (.seq (.ops [o 36 (.mv (t 0)),
 o 37 (.mv (t 1)),
 o 38 (.mv (t 2)),
 k 39 (.ca (.func 113) [(t 36), (t 37), (t 38)])])
 (.ops [o 40 (.mv (t 3)),
 o 41 (.bin .sub (t 40) (i 1)),
 o 3 (.mv (t 41))]))
 .skip))
 (.seq (.ops [o 43 (.mv (t 0)),
 o 44 (.mv (t 1)),
 o 45 (.mv (t 2)),
 k 46 (.ca (.func 114) [(t 43), (t 44), (t 45)]),
 o 42 (.mv (t 46)),
 o 47 (.ex (t 42) 0),
 o 48 (.ex (t 42) 1),
 o 11 (.mv (t 47)),
 o 12 (.mv (t 48))])
 (.seq (.seq (.ops [o 49 (.mv (t 12)),
 o 50 (.bin .eql (t 49) (i 2))])
 (.cond (t 50)
 (.seq (.ops [o 51 (.mv (t 0)),
 o 52 (.mv (t 1)),
 o 53 (.mv (t 2)),
 k 54 (.ca (.func 115) [(t 51), (t 52), (t 53)])])
 (.seq (.ops [o 55 (.mv (t 2)),
 o 56 (.bin .sub (t 55) (i 1)),
 o 57 (.mv (t 11)),
 o 58 (.mv (t 1)),
 o 59 (.bin .sub (t 57) (t 58)),
 o 60 (.bin .sub (t 56) (t 59)),
 o 11 (.mv (t 60))])
 (.ops [o 12 (.mv (i 1))])))
 .skip))
 (.seq (.seq (.ops [o 61 (.mv (t 8)),
 o 62 (.mv (t 61)),
 og 63 62 true (.mv (t 9)),
 o 64 (.pick (t 62) (t 63) (b false)),
 o 65 (.mv (t 64)),
 og 66 65 true (.mv (t 12)),
 og 67 65 true (.bin .eql (t 66) (i 1)),
 o 68 (.pick (t 65) (t 67) (b false))])
 (.cond (t 68)
 (.seq (.ops [o 69 (.mv (t 0)),
 o 70 (.mv (t 1)),
 o 71 (.mv (t 2)),
 k 72 (.ca (.func 116) [(t 69), (t 70), (t 71)])])
 (.cond (t 72)
 .ret
 .skip))
 .skip))
 (.seq (.seq (.opq [o 73 (.mv (t 1)),
 o 74 (.bin .gtr (t 73) (i 0)),
 o 75 (.mv (t 74)),
 og 76 75 true (.mv (t 0)),
 og 77 75 true (.mv (t 1)),
 og 78 75 true (.bin .sub (t 77) (i 1)),
 og 79 75 true (.ia 1 (t 76) (t 78)),
 og 80 75 true (.ld false 1 (t 79)),
 og 81 75 true (.mv (t 0)),
 og 82 75 true (.mv (t 11)),
 og 83 75 true (.ia 1 (t 81) (t 82)),
 og 84 75 true (.ld false 1 (t 83)),
 ⟨some 85, some (75, true), .ca (.func 117) [(t 80), (t 84)]⟩,
 og 86 75 true (.un .not (t 85)),
 o 87 (.pick (t 75) (t 86) (b false))])
 (.cond (t 87)
 (.seq (.ops [o 88 (.mv (t 0)),
 o 89 (.mv (t 1)),
 o 90 (.mv (t 2)),
 o 91 (.mv (t 11)),
 k 92 (.ca (.func 118) [(t 88), (t 89), (t 90), (t 91)]),
 o 13 (.mv (t 92))])
 (.seq (.ops [o 93 (.mv (t 13)),
 o 1 (.mv (t 93))])
 (.exit 1)))
 .skip))
 (.seq (.ops [o 95 (.mv (t 0)),
 o 96 (.mv (t 1)),
 o 97 (.mv (t 2)),
 o 98 (.mv (t 11)),
 k 99 (.ca (.func 119) [(t 95), (t 96), (t 97), (t 98)]),
 o 94 (.mv (t 99)),
 o 100 (.ex (t 94) 0),
 o 101 (.ex (t 94) 1),
 o 14 (.mv (t 100)),
 o 15 (.mv (t 101))])
 (.seq (.ops [o 102 (.mv (t 15)),
 o 9 (.mv (t 102))])
 (.seq (.ops [o 103 (.mv (t 14)),
 o 104 (.mv (t 1)),
 o 105 (.bin .sub (t 103) (t 104)),
 o 106 (.mv (t 2)),
 o 107 (.mv (t 14)),
 o 108 (.bin .sub (t 106) (t 107)),
 o 16 (.mv (t 105)),
 o 17 (.mv (t 108))])
 (.seq (.ops [o 109 (.mv (t 10)),
 o 110 (.bin .quo (t 109) (i 8)),
 o 18 (.mv (t 110))])
 (.seq (.ops [o 111 (.mv (t 16)),
 o 112 (.mv (t 17)),
 o 113 (.bin .lss (t 111) (t 112))])
 (.cond (t 113)
 (.seq (.ops [o 114 (.mv (t 16)),
 o 115 (.mv (t 18)),
 o 116 (.bin .geq (t 114) (t 115)),
 o 8 (.mv (t 116))])
 (.seq (.ops [o 117 (.mv (t 0)),
 o 118 (.mv (t 1)),
 o 119 (.mv (t 14)),
 o 120 (.mv (t 3)),
 k 121 (.ca (.func 102) [(t 117), (t 118), (t 119), (t 120)])])
 (.ops [o 122 (.mv (t 14)),
 o 123 (.bin .add (t 122) (i 1)),
 o 1 (.mv (t 123))])))
 (.seq (.ops [o 124 (.mv (t 17)),
 o 125 (.mv (t 18)),
 o 126 (.bin .geq (t 124) (t 125)),
 o 8 (.mv (t 126))])
 (.seq (.ops [o 127 (.mv (t 0)),
 o 128 (.mv (t 14)),
 o 129 (.bin .add (t 128) (i 1)),
 o 130 (.mv (t 2)),
 o 131 (.mv (t 3)),
 k 132 (.ca (.func 102) [(t 127), (t 129), (t 130), (t 131)])])
 (.ops [o 133 (.mv (t 14)),
 o 2 (.mv (t 133))]))))))))))))))))))))))⟩
theorem e102 : slimF Tryz.prog Tryz.f102 [[(0, []), (1, []), (2, []), (3, []), (4, []), (5, []), (6, []), (7, []), (8, []), (9, []), (10, []), (11, []), (12, []), (13, []), (14, [])]] = some c102 := by kernel_rfl
/-- math/bits.Len -/
def c103 : SF := ⟨8, [.t 2], (.seq (.ops [o 2 (.mv (i 0))])
 (.seq (.cond (b false)
 (.seq (.ops [o 3 (.mv (t 0)),
 o 4 (.cv .u32 (t 3)),
 k 5 (.ca (.func 120) [(t 4)]),
 o 2 (.mv (t 5))])
 .ret)
 .skip)
 (.seq (.ops [o 6 (.mv (t 0)),
 k 7 (.ca (.func 121) [(t 6)]),
 o 2 (.mv (t 7))])
 .ret)))⟩
theorem e103 : slimF Tryz.prog Tryz.f103 [] = some c103 := by kernel_rfl
/-- (cellar/maths.pair).ends -/
def c105 : SF := ⟨36, [.t 4, .t 5], (.seq (.ops [k 2 (.bx 87 (t 0)),
 o 4 (.mv (i 0)),
 o 5 (.mv (i 0))])
 (.seq (.opd [o 7 (.mv (t 1)),
 o 8 (.fa 0 (t 2)),
 o 9 (.ld false 1 (t 8)),
 o 10 (.fa 2 (t 2)),
 o 11 (.ld false 1 (t 10)),
 o 13 (.mv (t 1)),
 o 14 (.fa 0 (t 2)),
 o 15 (.ld false 1 (t 14)),
 o 16 (.fa 3 (t 2)),
 o 17 (.ld false 1 (t 16)),
 o 19 (.mv (t 1)),
 o 20 (.fa 1 (t 2)),
 o 21 (.ld false 1 (t 20)),
 o 22 (.fa 2 (t 2)),
 o 23 (.ld false 1 (t 22)),
 o 25 (.mv (t 1)),
 o 26 (.fa 1 (t 2)),
 o 27 (.ld false 1 (t 26)),
 o 28 (.fa 3 (t 2)),
 o 29 (.ld false 1 (t 28)),
 k 12 (.ca (t 7) [(t 9), (t 11)]),
 k 18 (.ca (t 13) [(t 15), (t 17)]),
 k 24 (.ca (t 19) [(t 21), (t 23)]),
 k 30 (.ca (t 25) [(t 27), (t 29)]),
 k 31 (.bs 3 4 [.int .i64 0, .int .i64 0, .int .i64 0, .int .i64 0] [(0, 1, (t 12)), (1, 1, (t 18)), (2, 1, (t 24)), (3, 1, (t 30))]),
 o 6 (.mv (t 31))])
 (.seq (.ops [o 32 (.mv (t 6)),
 k 33 (.ca (.func 122) [(t 32)]),
 o 34 (.mv (t 6)),
 k 35 (.ca (.func 123) [(t 34)]),
 o 4 (.mv (t 33)),
 o 5 (.mv (t 35))])
 .ret)))⟩
theorem e105 : slimF Tryz.prog Tryz.f105 [[(0, []), (1, []), (2, []), (3, []), (4, []), (6, []), (7, []), (8, []), (9, []), (10, []), (12, []), (13, []), (14, []), (15, []), (16, []), (18, []), (19, []), (20, []), (21, []), (22, []), (5, []), (11, []), (17, []), (23, []), (24, []), (25, [])]] = some c105 := by kernel_rfl
/-- slices.insertionSortOrdered[int] -/
def c111 : SF := ⟨49, [], (.seq (.ops [o 8 (.mv (t 1)),
 o 9 (.bin .add (t 8) (i 1)),
 o 6 (.mv (t 9))])
 (.block 0 (.loop (.seq (.seq (.ops [o 10 (.mv (t 6)),
 o 11 (.mv (t 2)),
 o 12 (.bin .lss (t 10) (t 11))])
 (.cond (t 12)
 .skip
 (.exit 0)))
 (.seq (.block 1 (.seq (.ops [o 15 (.mv (t 6)),
 o 7 (.mv (t 15))])
 (.block 2 (.loop (.seq (.seq (.opq [o 16 (.mv (t 7)),
 o 17 (.mv (t 1)),
 o 18 (.bin .gtr (t 16) (t 17)),
 o 19 (.mv (t 18)),
 og 20 19 true (.mv (t 0)),
 og 21 19 true (.mv (t 7)),
 og 22 19 true (.ia 1 (t 20) (t 21)),
 og 23 19 true (.ld false 1 (t 22)),
 og 24 19 true (.mv (t 0)),
 og 25 19 true (.mv (t 7)),
 og 26 19 true (.bin .sub (t 25) (i 1)),
 og 27 19 true (.ia 1 (t 24) (t 26)),
 og 28 19 true (.ld false 1 (t 27)),
 ⟨some 29, some (19, true), .ca (.func 117) [(t 23), (t 28)]⟩,
 o 30 (.pick (t 19) (t 29) (b false))])
 (.cond (t 30)
 .skip
 (.exit 2)))
 (.seq (.block 3 (.opq [o 33 (.mv (t 0)),
 o 34 (.mv (t 7)),
 o 35 (.mv (t 0)),
 o 36 (.mv (t 7)),
 o 37 (.bin .sub (t 36) (i 1)),
 o 38 (.mv (t 0)),
 o 39 (.mv (t 7)),
 o 40 (.bin .sub (t 39) (i 1)),
 o 41 (.ia 1 (t 38) (t 40)),
 o 42 (.ld false 1 (t 41)),
 o 43 (.mv (t 0)),
 o 44 (.mv (t 7)),
 o 45 (.ia 1 (t 43) (t 44)),
 o 46 (.ld false 1 (t 45)),
 o 47 (.ia 1 (t 33) (t 34)),
 kn (.st [] 1 (t 47) (t 42)),
 o 48 (.ia 1 (t 35) (t 37)),
 kn (.st [] 1 (t 48) (t 46))]))
 (.ops [o 31 (.mv (t 7)),
 o 32 (.bin .sub (t 31) (i 1)),
 o 7 (.mv (t 32))])))))))
 (.ops [o 13 (.mv (t 6)),
 o 14 (.bin .add (t 13) (i 1)),
 o 6 (.mv (t 14))]))))))⟩
theorem e111 : slimF Tryz.prog Tryz.f111 [[(0, []), (1, []), (2, []), (3, []), (4, []), (5, []), (6, []), (7, []), (8, []), (9, []), (10, []), (11, []), (12, []), (13, []), (14, [])], [(0, []), (1, []), (2, []), (3, []), (4, []), (5, []), (6, []), (7, []), (8, []), (9, []), (10, []), (11, []), (12, []), (13, []), (14, []), (15, []), (16, []), (17, [])]] = some c111 := by kernel_rfl
/-- cmp.Less[int] -/
def c117 : SF := ⟨17, [.t 4], (.seq (.ops [o 4 (.mv (b false))])
 (.seq (.ops [o 5 (.mv (t 0)),
 k 6 (.ca (.func 130) [(t 5)]),
 o 7 (.mv (t 6)),
 og 8 7 true (.mv (t 1)),
 ⟨some 9, some (7, true), .ca (.func 130) [(t 8)]⟩,
 og 10 7 true (.un .not (t 9)),
 o 11 (.pick (t 7) (t 10) (b false)),
 o 12 (.mv (t 11)),
 og 13 12 false (.mv (t 0)),
 og 14 12 false (.mv (t 1)),
 og 15 12 false (.bin .lss (t 13) (t 14)),
 o 16 (.pick (t 12) (b true) (t 15)),
 o 4 (.mv (t 16))])
 .ret))⟩
theorem e117 : slimF Tryz.prog Tryz.f117 [] = some c117 := by kernel_rfl
/-- math/bits.Len64 -/
def c121 : SF := ⟨25, [.t 2], (.seq (.ops [o 2 (.mv (i 0))])
 (.seq (.seq (.ops [o 3 (.mv (t 0)),
 o 4 (.bin .geq (t 3) (.const (.int .u64 4294967296)))])
 (.cond (t 4)
 (.seq (.ops [o 5 (.mv (t 0)),
 o 6 (.bin .shr (t 5) (.const (.int .u64 32))),
 o 0 (.mv (t 6))])
 (.ops [o 2 (.mv (i 32))]))
 .skip))
 (.seq (.seq (.ops [o 7 (.mv (t 0)),
 o 8 (.bin .geq (t 7) (.const (.int .u64 65536)))])
 (.cond (t 8)
 (.seq (.ops [o 9 (.mv (t 0)),
 o 10 (.bin .shr (t 9) (.const (.int .u64 16))),
 o 0 (.mv (t 10))])
 (.ops [o 11 (.mv (t 2)),
 o 12 (.bin .add (t 11) (i 16)),
 o 2 (.mv (t 12))]))
 .skip))
 (.seq (.seq (.ops [o 13 (.mv (t 0)),
 o 14 (.bin .geq (t 13) (.const (.int .u64 256)))])
 (.cond (t 14)
 (.seq (.ops [o 15 (.mv (t 0)),
 o 16 (.bin .shr (t 15) (.const (.int .u64 8))),
 o 0 (.mv (t 16))])
 (.ops [o 17 (.mv (t 2)),
 o 18 (.bin .add (t 17) (i 8)),
 o 2 (.mv (t 18))]))
 .skip))
 (.seq (.ops [o 19 (.mv (t 2)),
 o 20 (.mv (t 0)),
 o 21 (.cv .u8 (t 20)),
 o 22 (.si (.const (.string ⟨#[0, 1, 2, 2, 3, 3, 3, 3, 4, 4, 4, 4, 4, 4, 4, 4, 5, 5, 5, 5, 5, 5, 5, 5, 5, 5, 5, 5, 5, 5, 5, 5, 6, 6, 6, 6, 6, 6, 6, 6, 6, 6, 6, 6, 6, 6, 6, 6, 6, 6, 6, 6, 6, 6, 6, 6, 6, 6, 6, 6, 6, 6, 6, 6, 7, 7, 7, 7, 7, 7, 7, 7, 7, 7, 7, 7, 7, 7, 7, 7, 7, 7, 7, 7, 7, 7, 7, 7, 7, 7, 7, 7, 7, 7, 7, 7, 7, 7, 7, 7, 7, 7, 7, 7, 7, 7, 7, 7, 7, 7, 7, 7, 7, 7, 7, 7, 7, 7, 7, 7, 7, 7, 7, 7, 7, 7, 7, 7, 8, 8, 8, 8, 8, 8, 8, 8, 8, 8, 8, 8, 8, 8, 8, 8, 8, 8, 8, 8, 8, 8, 8, 8, 8, 8, 8, 8, 8, 8, 8, 8, 8, 8, 8, 8, 8, 8, 8, 8, 8, 8, 8, 8, 8, 8, 8, 8, 8, 8, 8, 8, 8, 8, 8, 8, 8, 8, 8, 8, 8, 8, 8, 8, 8, 8, 8, 8, 8, 8, 8, 8, 8, 8, 8, 8, 8, 8, 8, 8, 8, 8, 8, 8, 8, 8, 8, 8, 8, 8, 8, 8, 8, 8, 8, 8, 8, 8, 8, 8, 8, 8, 8, 8, 8, 8, 8, 8, 8, 8, 8, 8, 8, 8, 8, 8, 8, 8, 8, 8, 8, 8, 8, 8, 8, 8, 8, 8]⟩)) (t 21)),
 o 23 (.cv .i64 (t 22)),
 o 24 (.bin .add (t 19) (t 23)),
 o 2 (.mv (t 24))])
 .ret)))))⟩
theorem e121 : slimF Tryz.prog Tryz.f121 [] = some c121 := by kernel_rfl
/-- slices.Min[[]int,int] -/
def c122 : SF := ⟨25, [.t 2], (.seq (.ops [o 2 (.mv (i 0))])
 (.seq (.seq (.ops [o 5 (.mv (t 0)),
 o 6 (.ln (t 5)),
 o 7 (.bin .lss (t 6) (i 1))])
 (.cond (t 7)
 .bad
 .skip))
 (.seq (.ops [o 9 (.mv (t 0)),
 o 10 (.ia 1 (t 9) (i 0)),
 o 11 (.ld false 1 (t 10)),
 o 3 (.mv (t 11))])
 (.seq (.seq (.ops [o 4 (.mv (i 1))])
 (.block 0 (.loop (.seq (.seq (.ops [o 12 (.mv (t 4)),
 o 13 (.mv (t 0)),
 o 14 (.ln (t 13)),
 o 15 (.bin .lss (t 12) (t 14))])
 (.cond (t 15)
 .skip
 (.exit 0)))
 (.seq (.block 1 (.ops [o 18 (.mv (t 3)),
 o 19 (.mv (t 0)),
 o 20 (.mv (t 4)),
 o 21 (.ia 1 (t 19) (t 20)),
 o 22 (.ld false 1 (t 21)),
 o 23 (.mn [(t 18), (t 22)]),
 o 3 (.mv (t 23))]))
 (.ops [o 16 (.mv (t 4)),
 o 17 (.bin .add (t 16) (i 1)),
 o 4 (.mv (t 17))]))))))
 (.seq (.ops [o 24 (.mv (t 3)),
 o 2 (.mv (t 24))])
 .ret)))))⟩
theorem e122 : slimF Tryz.prog Tryz.f122 [] = some c122 := by kernel_rfl
/-- slices.Max[[]int,int] -/
def c123 : SF := ⟨25, [.t 2], (.seq (.ops [o 2 (.mv (i 0))])
 (.seq (.seq (.ops [o 5 (.mv (t 0)),
 o 6 (.ln (t 5)),
 o 7 (.bin .lss (t 6) (i 1))])
 (.cond (t 7)
 .bad
 .skip))
 (.seq (.ops [o 9 (.mv (t 0)),
 o 10 (.ia 1 (t 9) (i 0)),
 o 11 (.ld false 1 (t 10)),
 o 3 (.mv (t 11))])
 (.seq (.seq (.ops [o 4 (.mv (i 1))])
 (.block 0 (.loop (.seq (.seq (.ops [o 12 (.mv (t 4)),
 o 13 (.mv (t 0)),
 o 14 (.ln (t 13)),
 o 15 (.bin .lss (t 12) (t 14))])
 (.cond (t 15)
 .skip
 (.exit 0)))
 (.seq (.block 1 (.ops [o 18 (.mv (t 3)),
 o 19 (.mv (t 0)),
 o 20 (.mv (t 4)),
 o 21 (.ia 1 (t 19) (t 20)),
 o 22 (.ld false 1 (t 21)),
 o 23 (.mx [(t 18), (t 22)]),
 o 3 (.mv (t 23))]))
 (.ops [o 16 (.mv (t 4)),
 o 17 (.bin .add (t 16) (i 1)),
 o 4 (.mv (t 17))]))))))
 (.seq (.ops [o 24 (.mv (t 3)),
 o 2 (.mv (t 24))])
 .ret)))))⟩
theorem e123 : slimF Tryz.prog Tryz.f123 [] = some c123 := by kernel_rfl
/-- cmp.isNaN[int] -/
def c130 : SF := ⟨6, [.t 2], (.seq (.ops [o 2 (.mv (b false))])
 (.seq (.ops [o 3 (.mv (t 0)),
 o 4 (.mv (t 0)),
 o 5 (.bin .neq (t 3) (t 4)),
 o 2 (.mv (t 5))])
 .ret))⟩
theorem e130 : slimF Tryz.prog Tryz.f130 [] = some c130 := by kernel_rfl
end Go.Proofs.Tryz.S
/- Contracts: operators of two numbers, by the page and by the program. -/
namespace Go.Proofs.Tryz.K
open Go Go.Ax Go.Proofs.Tryz.S
set_option maxRecDepth 100000
set_option linter.unusedSimpArgs false
set_option linter.unusedVariables false
set_option maxHeartbeats 1000000
variable (F : Fz) (M : Hp)

def pairV (p : Int × Int) : Value := .tuple #[.int .i64 p.1, .int .i64 p.2]
theorem k51 (k v : Int) (hk : isK k = true) : CallsA Tryz.prog 51 [.int .i64 k, .int .i64 v] F M (Same F M (pairV (fitK k v))) := by
  refine callsA_of hm Tryz.func51 e51 (Nat.le_of_ble_eq_true rfl) ?_
  have hw := ofW_isW k
  have lw := isW_le hw
  have hp := pow_w hw
  simp only [c51, go_sem, reduceCtorEq, reduceIte, Nat.reduceEqDiff, Nat.reduceAdd, Nat.reduceLeDiff, Nat.reduceMul, Int.reduceLT, Int.reduceLE, Int.reduceAdd, Int.reduceSub, Int.reduceMul, Int.reduceNeg, Int.reduceToNat, Int.reduceEq]
  refine callK_same (k13 F _ k) ?_
  simp only [go_sem, reduceCtorEq, reduceIte, Nat.reduceEqDiff, Nat.reduceAdd, Nat.reduceLeDiff, Nat.reduceMul, Int.reduceLT, Int.reduceLE, Int.reduceAdd, Int.reduceSub, Int.reduceMul, Int.reduceNeg, Int.reduceToNat, Int.reduceEq, wK_of hk]
  refine callK_same (k52 F _ k) ?_
  have w1 : IntKind.i64.wrap (ofW k - 1) = ofW k - 1 := w64 (by omega) (by omega)
  have s0 : ¬ ofW k - 1 < 0 := by omega
  have e1 : shlv .i64 1 (ofW k - 1) = halfV (ofW k) := shl1 (by omega) (by omega)
  have e2 : IntKind.i64.wrap (halfV (ofW k) - 1) = halfV (ofW k) - 1 := w64 (by omega) (by omega)
  have e4 : IntKind.i64.wrap (0 - halfV (ofW k)) = -(halfV (ofW k)) := by rw [w64 (by omega) (by omega)]; omega
  cases hs : sgn k
  · simp only [go_sem, reduceCtorEq, reduceIte, Nat.reduceEqDiff, Nat.reduceAdd, Nat.reduceLeDiff, Nat.reduceMul, Int.reduceLT, Int.reduceLE, Int.reduceAdd, Int.reduceSub, Int.reduceMul, Int.reduceNeg, Int.reduceToNat, Int.reduceEq]
    refine callK_same (k35 F _ _ _ lw.1 lw.2) ?_
    simp only [go_sem, reduceCtorEq, reduceIte, Nat.reduceEqDiff, Nat.reduceAdd, Nat.reduceLeDiff, Nat.reduceMul, Int.reduceLT, Int.reduceLE, Int.reduceAdd, Int.reduceSub, Int.reduceMul, Int.reduceNeg, Int.reduceToNat, Int.reduceEq]
    exact endK_same ⟨by simp [pairV, fitK, hs], rfl, rfl⟩
  · simp only [go_sem, reduceCtorEq, reduceIte, Nat.reduceEqDiff, Nat.reduceAdd, Nat.reduceLeDiff, Nat.reduceMul, Int.reduceLT, Int.reduceLE, Int.reduceAdd, Int.reduceSub, Int.reduceMul, Int.reduceNeg, Int.reduceToNat, Int.reduceEq, w1, s0, e1, e2, e4, not_false_eq_true]
    refine callK_same (k45 F _ v _ _) ?_
    by_cases hb : -(halfV (ofW k)) ≤ v ∧ v ≤ halfV (ofW k) - 1
    · have : (decide (-(halfV (ofW k)) ≤ v) && decide (v ≤ halfV (ofW k) - 1)) = true := by simp [hb.1, hb.2]
      simp only [go_sem, reduceCtorEq, reduceIte, Nat.reduceEqDiff, Nat.reduceAdd, Nat.reduceLeDiff, Nat.reduceMul, Int.reduceLT, Int.reduceLE, Int.reduceAdd, Int.reduceSub, Int.reduceMul, Int.reduceNeg, Int.reduceToNat, Int.reduceEq, this]
      refine callK_same (k35 F _ _ _ lw.1 lw.2) ?_
      simp only [go_sem, reduceCtorEq, reduceIte, Nat.reduceEqDiff, Nat.reduceAdd, Nat.reduceLeDiff, Nat.reduceMul, Int.reduceLT, Int.reduceLE, Int.reduceAdd, Int.reduceSub, Int.reduceMul, Int.reduceNeg, Int.reduceToNat, Int.reduceEq]
      have hn : ¬ (sgn k = true ∧ (v < leastK k ∨ mostK k < v)) := by
        simp only [leastK, mostK, hs, if_true]; omega
      exact endK_same ⟨by simp only [pairV, fitK, if_neg hn], rfl, rfl⟩
    · have : (decide (-(halfV (ofW k)) ≤ v) && decide (v ≤ halfV (ofW k) - 1)) = false := by
        rw [Bool.and_eq_false_iff]; simp only [decide_eq_false_iff_not]; omega
      simp only [go_sem, reduceCtorEq, reduceIte, Nat.reduceEqDiff, Nat.reduceAdd, Nat.reduceLeDiff, Nat.reduceMul, Int.reduceLT, Int.reduceLE, Int.reduceAdd, Int.reduceSub, Int.reduceMul, Int.reduceNeg, Int.reduceToNat, Int.reduceEq, this]
      have hn : sgn k = true ∧ (v < leastK k ∨ mostK k < v) := by
        refine ⟨hs, ?_⟩
        simp only [leastK, mostK, hs, if_true]; omega
      exact endK_same ⟨by simp only [pairV, fitK, if_pos hn], rfl, rfl⟩
theorem k93 (k v : Int) (hk : isK k = true) : CallsA Tryz.prog 93 [.int .i64 k, .int .i64 v] F M (Same F M (pairV (fitK k v))) := by
  refine callsA_of hm Tryz.func93 e93 (Nat.le_of_ble_eq_true rfl) ?_
  have lw := isW_le (ofW_isW k)
  simp only [c93, go_sem, reduceCtorEq, reduceIte, Nat.reduceEqDiff, Nat.reduceAdd, Nat.reduceLeDiff, Nat.reduceMul, Int.reduceLT, Int.reduceLE, Int.reduceAdd, Int.reduceSub, Int.reduceMul, Int.reduceNeg, Int.reduceToNat, Int.reduceEq]
  refine callK_same (k104 F _ k hk) ?_
  simp only [go_sem, reduceCtorEq, reduceIte, Nat.reduceEqDiff, Nat.reduceAdd, Nat.reduceLeDiff, Nat.reduceMul, Int.reduceLT, Int.reduceLE, Int.reduceAdd, Int.reduceSub, Int.reduceMul, Int.reduceNeg, Int.reduceToNat, Int.reduceEq]
  refine callK_same (k83 F _ k) ?_
  cases hs : sgn k
  · simp only [go_sem, reduceCtorEq, reduceIte, Nat.reduceEqDiff, Nat.reduceAdd, Nat.reduceLeDiff, Nat.reduceMul, Int.reduceLT, Int.reduceLE, Int.reduceAdd, Int.reduceSub, Int.reduceMul, Int.reduceNeg, Int.reduceToNat, Int.reduceEq]
    refine callK_same (k59 F _ k hk) ?_
    simp only [go_sem, reduceCtorEq, reduceIte, Nat.reduceEqDiff, Nat.reduceAdd, Nat.reduceLeDiff, Nat.reduceMul, Int.reduceLT, Int.reduceLE, Int.reduceAdd, Int.reduceSub, Int.reduceMul, Int.reduceNeg, Int.reduceToNat, Int.reduceEq]
    refine callK_same (k68 F _ _ _ lw.1 lw.2) ?_
    simp only [go_sem, reduceCtorEq, reduceIte, Nat.reduceEqDiff, Nat.reduceAdd, Nat.reduceLeDiff, Nat.reduceMul, Int.reduceLT, Int.reduceLE, Int.reduceAdd, Int.reduceSub, Int.reduceMul, Int.reduceNeg, Int.reduceToNat, Int.reduceEq]
    exact endK_same ⟨by simp [pairV, fitK, hs], rfl, rfl⟩
  by_cases h1 : v < leastK k
  · simp only [go_sem, reduceCtorEq, reduceIte, Nat.reduceEqDiff, Nat.reduceAdd, Nat.reduceLeDiff, Nat.reduceMul, Int.reduceLT, Int.reduceLE, Int.reduceAdd, Int.reduceSub, Int.reduceMul, Int.reduceNeg, Int.reduceToNat, Int.reduceEq, h1]
    exact endK_same ⟨by simp [pairV, fitK, hs, h1], rfl, rfl⟩
  by_cases h2 : mostK k < v
  · simp only [go_sem, reduceCtorEq, reduceIte, Nat.reduceEqDiff, Nat.reduceAdd, Nat.reduceLeDiff, Nat.reduceMul, Int.reduceLT, Int.reduceLE, Int.reduceAdd, Int.reduceSub, Int.reduceMul, Int.reduceNeg, Int.reduceToNat, Int.reduceEq, h1, h2]
    exact endK_same ⟨by simp [pairV, fitK, hs, h2], rfl, rfl⟩
  simp only [go_sem, reduceCtorEq, reduceIte, Nat.reduceEqDiff, Nat.reduceAdd, Nat.reduceLeDiff, Nat.reduceMul, Int.reduceLT, Int.reduceLE, Int.reduceAdd, Int.reduceSub, Int.reduceMul, Int.reduceNeg, Int.reduceToNat, Int.reduceEq, h1, h2]
  refine callK_same (k59 F _ k hk) ?_
  simp only [go_sem, reduceCtorEq, reduceIte, Nat.reduceEqDiff, Nat.reduceAdd, Nat.reduceLeDiff, Nat.reduceMul, Int.reduceLT, Int.reduceLE, Int.reduceAdd, Int.reduceSub, Int.reduceMul, Int.reduceNeg, Int.reduceToNat, Int.reduceEq]
  refine callK_same (k68 F _ _ _ lw.1 lw.2) ?_
  simp only [go_sem, reduceCtorEq, reduceIte, Nat.reduceEqDiff, Nat.reduceAdd, Nat.reduceLeDiff, Nat.reduceMul, Int.reduceLT, Int.reduceLE, Int.reduceAdd, Int.reduceSub, Int.reduceMul, Int.reduceNeg, Int.reduceToNat, Int.reduceEq]
  exact endK_same ⟨by simp [pairV, fitK, h1, h2], rfl, rfl⟩
theorem k94 (op k u v : Int) (hk : isK k = true) (hop : op = 11 ∨ op = 12) (u0 : leastK k ≤ u) (u1 : u ≤ mostK k) (v0 : leastK k ≤ v) (v1 : v ≤ mostK k) :
    CallsA Tryz.prog 94 [.int .i64 op, .int .i64 k, .int .i64 u, .int .i64 v] F M (Same F M (pairV (divK op k u v))) := by
  refine callsA_of hm Tryz.func94 e94 (Nat.le_of_ble_eq_true rfl) ?_
  have kd := kinds hk
  have rm := tmod_range (v := v) hk u0 u1
  have em : u.tmod v % 2 ^ (ofW k).toNat = (fitK k (u.tmod v)).1 ∧ (fitK k (u.tmod v)).2 = 0 := by rw [fit_in rm.1 rm.2]; exact ⟨rfl, rfl⟩
  simp only [c94, go_sem, reduceCtorEq, reduceIte, Nat.reduceEqDiff, Nat.reduceAdd, Nat.reduceLeDiff, Nat.reduceMul, Int.reduceLT, Int.reduceLE, Int.reduceAdd, Int.reduceSub, Int.reduceMul, Int.reduceNeg, Int.reduceToNat, Int.reduceEq]
  refine callK_same (k104 F _ k hk) ?_
  by_cases hv : v = 0
  · simp only [go_sem, reduceCtorEq, reduceIte, Nat.reduceEqDiff, Nat.reduceAdd, Nat.reduceLeDiff, Nat.reduceMul, Int.reduceLT, Int.reduceLE, Int.reduceAdd, Int.reduceSub, Int.reduceMul, Int.reduceNeg, Int.reduceToNat, Int.reduceEq, hv]
    exact endK_same ⟨by simp [pairV, divK], rfl, rfl⟩
  simp only [go_sem, reduceCtorEq, reduceIte, Nat.reduceEqDiff, Nat.reduceAdd, Nat.reduceLeDiff, Nat.reduceMul, Int.reduceLT, Int.reduceLE, Int.reduceAdd, Int.reduceSub, Int.reduceMul, Int.reduceNeg, Int.reduceToNat, Int.reduceEq, hv]
  refine callK_same (k83 F _ k) ?_
  by_cases hc : sgn k = true ∧ u = leastK k ∧ v = -1
  · obtain ⟨c1, c2, c3⟩ := hc
    simp only [go_sem, reduceCtorEq, reduceIte, Nat.reduceEqDiff, Nat.reduceAdd, Nat.reduceLeDiff, Nat.reduceMul, Int.reduceLT, Int.reduceLE, Int.reduceAdd, Int.reduceSub, Int.reduceMul, Int.reduceNeg, Int.reduceToNat, Int.reduceEq, c1, c2, c3]
    exact endK_same ⟨by simp [pairV, divK, c1], rfl, rfl⟩
  have rq := tdiv_range hk u0 u1 v0 hv hc
  have eq : IntKind.i64.wrap (u.tdiv v) = u.tdiv v := w64 (by omega) (by omega)
  have fq := fit_in rq.1 rq.2
  have fm := fit_in rm.1 rm.2
  have rest : ∀ b1 b2 : Bool, True := fun _ _ => trivial
  have dv : divK op k u v = ((if op = 11 then u.tdiv v else u.tmod v) % 2 ^ (ofW k).toNat, 0) := by unfold divK; rw [if_neg hv, if_neg hc]
  have hcase : (sgn k = false) ∨ (sgn k = true ∧ ¬ u = leastK k) ∨ (sgn k = true ∧ u = leastK k ∧ ¬ v = -1) := by
    cases hs : sgn k
    · exact .inl rfl
    · by_cases h1 : u = leastK k
      · exact .inr (.inr ⟨rfl, h1, fun h => hc ⟨hs, h1, h⟩⟩)
      · exact .inr (.inl ⟨rfl, h1⟩)
  rcases hop with rfl | rfl
  · rcases hcase with h1 | ⟨h1, h2⟩ | ⟨h1, h2, h3⟩
    · simp only [go_sem, reduceCtorEq, reduceIte, Nat.reduceEqDiff, Nat.reduceAdd, Nat.reduceLeDiff, Nat.reduceMul, Int.reduceLT, Int.reduceLE, Int.reduceAdd, Int.reduceSub, Int.reduceMul, Int.reduceNeg, Int.reduceToNat, Int.reduceEq, h1, hv, eq, not_false_eq_true]
      refine callK_same (k93 F _ k _ hk) ?_
      rw [fq]
      simp only [pairV, go_sem, reduceCtorEq, reduceIte, Nat.reduceEqDiff, Nat.reduceAdd, Nat.reduceLeDiff, Nat.reduceMul, Int.reduceLT, Int.reduceLE, Int.reduceAdd, Int.reduceSub, Int.reduceMul, Int.reduceNeg, Int.reduceToNat, Int.reduceEq]
      exact endK_same ⟨by rw [dv]; simp [pairV], rfl, rfl⟩
    · simp only [go_sem, reduceCtorEq, reduceIte, Nat.reduceEqDiff, Nat.reduceAdd, Nat.reduceLeDiff, Nat.reduceMul, Int.reduceLT, Int.reduceLE, Int.reduceAdd, Int.reduceSub, Int.reduceMul, Int.reduceNeg, Int.reduceToNat, Int.reduceEq, h1, h2, hv, eq, not_false_eq_true]
      refine callK_same (k93 F _ k _ hk) ?_
      rw [fq]
      simp only [pairV, go_sem, reduceCtorEq, reduceIte, Nat.reduceEqDiff, Nat.reduceAdd, Nat.reduceLeDiff, Nat.reduceMul, Int.reduceLT, Int.reduceLE, Int.reduceAdd, Int.reduceSub, Int.reduceMul, Int.reduceNeg, Int.reduceToNat, Int.reduceEq]
      exact endK_same ⟨by rw [dv]; simp [pairV], rfl, rfl⟩
    · rw [h2] at eq fq dv
      simp only [go_sem, reduceCtorEq, reduceIte, Nat.reduceEqDiff, Nat.reduceAdd, Nat.reduceLeDiff, Nat.reduceMul, Int.reduceLT, Int.reduceLE, Int.reduceAdd, Int.reduceSub, Int.reduceMul, Int.reduceNeg, Int.reduceToNat, Int.reduceEq, h1, h2, h3, hv, eq, not_false_eq_true]
      refine callK_same (k93 F _ k _ hk) ?_
      rw [fq]
      simp only [pairV, go_sem, reduceCtorEq, reduceIte, Nat.reduceEqDiff, Nat.reduceAdd, Nat.reduceLeDiff, Nat.reduceMul, Int.reduceLT, Int.reduceLE, Int.reduceAdd, Int.reduceSub, Int.reduceMul, Int.reduceNeg, Int.reduceToNat, Int.reduceEq]
      exact endK_same ⟨by rw [dv]; simp [pairV], rfl, rfl⟩
  · rcases hcase with h1 | ⟨h1, h2⟩ | ⟨h1, h2, h3⟩
    · simp only [go_sem, reduceCtorEq, reduceIte, Nat.reduceEqDiff, Nat.reduceAdd, Nat.reduceLeDiff, Nat.reduceMul, Int.reduceLT, Int.reduceLE, Int.reduceAdd, Int.reduceSub, Int.reduceMul, Int.reduceNeg, Int.reduceToNat, Int.reduceEq, h1, hv, not_false_eq_true]
      refine callK_same (k93 F _ k _ hk) ?_
      rw [fm]
      simp only [pairV, go_sem, reduceCtorEq, reduceIte, Nat.reduceEqDiff, Nat.reduceAdd, Nat.reduceLeDiff, Nat.reduceMul, Int.reduceLT, Int.reduceLE, Int.reduceAdd, Int.reduceSub, Int.reduceMul, Int.reduceNeg, Int.reduceToNat, Int.reduceEq]
      exact endK_same ⟨by rw [dv]; simp [pairV], rfl, rfl⟩
    · simp only [go_sem, reduceCtorEq, reduceIte, Nat.reduceEqDiff, Nat.reduceAdd, Nat.reduceLeDiff, Nat.reduceMul, Int.reduceLT, Int.reduceLE, Int.reduceAdd, Int.reduceSub, Int.reduceMul, Int.reduceNeg, Int.reduceToNat, Int.reduceEq, h1, h2, hv, not_false_eq_true]
      refine callK_same (k93 F _ k _ hk) ?_
      rw [fm]
      simp only [pairV, go_sem, reduceCtorEq, reduceIte, Nat.reduceEqDiff, Nat.reduceAdd, Nat.reduceLeDiff, Nat.reduceMul, Int.reduceLT, Int.reduceLE, Int.reduceAdd, Int.reduceSub, Int.reduceMul, Int.reduceNeg, Int.reduceToNat, Int.reduceEq]
      exact endK_same ⟨by rw [dv]; simp [pairV], rfl, rfl⟩
    · rw [h2] at fm dv
      simp only [go_sem, reduceCtorEq, reduceIte, Nat.reduceEqDiff, Nat.reduceAdd, Nat.reduceLeDiff, Nat.reduceMul, Int.reduceLT, Int.reduceLE, Int.reduceAdd, Int.reduceSub, Int.reduceMul, Int.reduceNeg, Int.reduceToNat, Int.reduceEq, h1, h2, h3, hv, not_false_eq_true]
      refine callK_same (k93 F _ k _ hk) ?_
      rw [fm]
      simp only [pairV, go_sem, reduceCtorEq, reduceIte, Nat.reduceEqDiff, Nat.reduceAdd, Nat.reduceLeDiff, Nat.reduceMul, Int.reduceLT, Int.reduceLE, Int.reduceAdd, Int.reduceSub, Int.reduceMul, Int.reduceNeg, Int.reduceToNat, Int.reduceEq]
      exact endK_same ⟨by rw [dv]; simp [pairV], rfl, rfl⟩
end Go.Proofs.Tryz.K

/- Contracts: operators of two numbers, by the page and by the program, whole. -/
namespace Go.Proofs.Tryz.K
open Go Go.Ax Go.Proofs.Tryz.S
set_option maxRecDepth 100000
set_option linter.unusedSimpArgs false
set_option linter.unusedVariables false
set_option maxHeartbeats 4000000
variable (F : Fz) (M : Hp)

theorem k95 (op k a u v : Int) (hk : isK k = true) (hop : op = 16 ∨ op = 17) (a0 : 0 ≤ a) (a1 : a ≤ mostV (ofW k)) :
    CallsA Tryz.prog 95 [.int .i64 op, .int .i64 k, .int .i64 a, .int .i64 u, .int .i64 v] F M (Same F M (pairV (shiftK op k a u v))) := by
  refine callsA_of hm Tryz.func95 e95 (Nat.le_of_ble_eq_true rfl) ?_
  have kd := kinds hk
  have ow := ofW_most k
  have lw := isW_le (ofW_isW k)
  simp only [c95, go_sem, reduceCtorEq, reduceIte, Nat.reduceEqDiff, Nat.reduceAdd, Nat.reduceLeDiff, Nat.reduceMul, Int.reduceLT, Int.reduceLE, Int.reduceAdd, Int.reduceSub, Int.reduceMul, Int.reduceNeg, Int.reduceToNat, Int.reduceEq]
  refine callK_same (k59 F _ k hk) ?_
  by_cases h1 : v < 0
  · simp only [go_sem, reduceCtorEq, reduceIte, Nat.reduceEqDiff, Nat.reduceAdd, Nat.reduceLeDiff, Nat.reduceMul, Int.reduceLT, Int.reduceLE, Int.reduceAdd, Int.reduceSub, Int.reduceMul, Int.reduceNeg, Int.reduceToNat, Int.reduceEq, h1]
    exact endK_same ⟨by simp [pairV, shiftK, h1], rfl, rfl⟩
  by_cases h2 : ofW k ≤ v
  · simp only [go_sem, reduceCtorEq, reduceIte, Nat.reduceEqDiff, Nat.reduceAdd, Nat.reduceLeDiff, Nat.reduceMul, Int.reduceLT, Int.reduceLE, Int.reduceAdd, Int.reduceSub, Int.reduceMul, Int.reduceNeg, Int.reduceToNat, Int.reduceEq, h1, h2]
    exact endK_same ⟨by simp [pairV, shiftK, h2], rfl, rfl⟩
  have e1 := shl_in (a := a) (v := v) a0 (by omega) (by omega) (by omega)
  have e2 := shr_any (u := u) (v := v) (by omega) (by omega)
  have dv : shiftK op k a u v = ((if op = 16 then a * 2 ^ v.toNat else u / 2 ^ v.toNat) % 2 ^ (ofW k).toNat, 0) := by unfold shiftK; rw [if_neg (by omega)]
  rw [dv]
  rcases hop with rfl | rfl
  · simp only [go_sem, reduceCtorEq, reduceIte, Nat.reduceEqDiff, Nat.reduceAdd, Nat.reduceLeDiff, Nat.reduceMul, Int.reduceLT, Int.reduceLE, Int.reduceAdd, Int.reduceSub, Int.reduceMul, Int.reduceNeg, Int.reduceToNat, Int.reduceEq, h1, h2, e1, e2, not_false_eq_true]
    refine callK_same (k68 F _ _ _ lw.1 lw.2) ?_
    simp only [go_sem, reduceCtorEq, reduceIte, Nat.reduceEqDiff, Nat.reduceAdd, Nat.reduceLeDiff, Nat.reduceMul, Int.reduceLT, Int.reduceLE, Int.reduceAdd, Int.reduceSub, Int.reduceMul, Int.reduceNeg, Int.reduceToNat, Int.reduceEq]
    exact endK_same ⟨rfl, rfl, rfl⟩
  · simp only [go_sem, reduceCtorEq, reduceIte, Nat.reduceEqDiff, Nat.reduceAdd, Nat.reduceLeDiff, Nat.reduceMul, Int.reduceLT, Int.reduceLE, Int.reduceAdd, Int.reduceSub, Int.reduceMul, Int.reduceNeg, Int.reduceToNat, Int.reduceEq, h1, h2, e1, e2, not_false_eq_true]
    refine callK_same (k68 F _ _ _ lw.1 lw.2) ?_
    simp only [go_sem, reduceCtorEq, reduceIte, Nat.reduceEqDiff, Nat.reduceAdd, Nat.reduceLeDiff, Nat.reduceMul, Int.reduceLT, Int.reduceLE, Int.reduceAdd, Int.reduceSub, Int.reduceMul, Int.reduceNeg, Int.reduceToNat, Int.reduceEq]
    exact endK_same ⟨rfl, rfl, rfl⟩
theorem k96 (b : Bool) : CallsA Tryz.prog 96 [.bool b] F M (Same F M (.int .i64 (if b then 1 else 0))) := by
  refine callsA_of hm Tryz.func96 e96 (Nat.le_of_ble_eq_true rfl) ?_
  cases b
  · simp only [c96, go_sem, reduceCtorEq, reduceIte, Nat.reduceEqDiff, Nat.reduceAdd, Nat.reduceLeDiff, Nat.reduceMul, Int.reduceLT, Int.reduceLE, Int.reduceAdd, Int.reduceSub, Int.reduceMul, Int.reduceNeg, Int.reduceToNat, Int.reduceEq]
    exact endK_same ⟨rfl, rfl, rfl⟩
  · simp only [c96, go_sem, reduceCtorEq, reduceIte, Nat.reduceEqDiff, Nat.reduceAdd, Nat.reduceLeDiff, Nat.reduceMul, Int.reduceLT, Int.reduceLE, Int.reduceAdd, Int.reduceSub, Int.reduceMul, Int.reduceNeg, Int.reduceToNat, Int.reduceEq]
    exact endK_same ⟨rfl, rfl, rfl⟩
def isTwo (op : Int) : Bool := decide (8 ≤ op) && decide (op ≤ 19)
theorem two_cases {op : Int} (h : isTwo op = true) : op = 8 ∨ op = 9 ∨ op = 10 ∨ (op = 11 ∨ op = 12) ∨ op = 13 ∨ op = 14 ∨ op = 15 ∨ (op = 16 ∨ op = 17) ∨ op = 18 ∨ op = 19 := by
  simp [isTwo] at h
  omega
theorem k75 (op k a b : Int) (hk : isK k = true) (hop : isTwo op = true) (a0 : 0 ≤ a) (a1 : a ≤ mostV (ofW k)) (b0 : 0 ≤ b) (b1 : b ≤ mostV (ofW k)) :
    CallsA Tryz.prog 75 [.int .i64 op, .int .i64 k, .int .i64 a, .int .i64 b] F M (Same F M (pairV (twoK op k a b))) := by
  refine callsA_of hm Tryz.func75 e75 (Nat.le_of_ble_eq_true rfl) ?_
  have kd := kinds hk
  have ra := seen_range a0 a1 (k := k)
  have rb := seen_range b0 b1 (k := k)
  have inj : seenV k a = seenV k b ↔ a = b := ⟨fun h => seen_inj a0 a1 b0 b1 h, fun h => by rw [h]⟩
  have eadd : IntKind.i64.wrap (seenV k a + seenV k b) = seenV k a + seenV k b := w64 (by omega) (by omega)
  have esub : IntKind.i64.wrap (seenV k a - seenV k b) = seenV k a - seenV k b := w64 (by omega) (by omega)
  have emul : fitK k (IntKind.i64.wrap (seenV k a * seenV k b)) = fitK k (seenV k a * seenV k b) := fit_wrap (by
    cases hs : sgn k
    · exact .inl rfl
    · have := mul_bound hk hs ra.1 ra.2 rb.1 rb.2
      exact .inr ⟨by omega, by omega⟩)
  simp only [c75, go_sem, reduceCtorEq, reduceIte, Nat.reduceEqDiff, Nat.reduceAdd, Nat.reduceLeDiff, Nat.reduceMul, Int.reduceLT, Int.reduceLE, Int.reduceAdd, Int.reduceSub, Int.reduceMul, Int.reduceNeg, Int.reduceToNat, Int.reduceEq]
  refine callK_same (k82 F _ k a a0 a1) ?_
  simp only [go_sem, reduceCtorEq, reduceIte, Nat.reduceEqDiff, Nat.reduceAdd, Nat.reduceLeDiff, Nat.reduceMul, Int.reduceLT, Int.reduceLE, Int.reduceAdd, Int.reduceSub, Int.reduceMul, Int.reduceNeg, Int.reduceToNat, Int.reduceEq]
  refine callK_same (k82 F _ k b b0 b1) ?_
  rcases two_cases hop with rfl | rfl | rfl | h | rfl | rfl | rfl | h | rfl | rfl
  · simp only [go_sem, reduceCtorEq, reduceIte, Nat.reduceEqDiff, Nat.reduceAdd, Nat.reduceLeDiff, Nat.reduceMul, Int.reduceLT, Int.reduceLE, Int.reduceAdd, Int.reduceSub, Int.reduceMul, Int.reduceNeg, Int.reduceToNat, Int.reduceEq, eadd]
    refine callK_same (k93 F _ k _ hk) ?_
    simp only [pairV, go_sem, reduceCtorEq, reduceIte, Nat.reduceEqDiff, Nat.reduceAdd, Nat.reduceLeDiff, Nat.reduceMul, Int.reduceLT, Int.reduceLE, Int.reduceAdd, Int.reduceSub, Int.reduceMul, Int.reduceNeg, Int.reduceToNat, Int.reduceEq]
    exact endK_same ⟨rfl, rfl, rfl⟩
  · simp only [go_sem, reduceCtorEq, reduceIte, Nat.reduceEqDiff, Nat.reduceAdd, Nat.reduceLeDiff, Nat.reduceMul, Int.reduceLT, Int.reduceLE, Int.reduceAdd, Int.reduceSub, Int.reduceMul, Int.reduceNeg, Int.reduceToNat, Int.reduceEq, esub]
    refine callK_same (k93 F _ k _ hk) ?_
    simp only [pairV, go_sem, reduceCtorEq, reduceIte, Nat.reduceEqDiff, Nat.reduceAdd, Nat.reduceLeDiff, Nat.reduceMul, Int.reduceLT, Int.reduceLE, Int.reduceAdd, Int.reduceSub, Int.reduceMul, Int.reduceNeg, Int.reduceToNat, Int.reduceEq]
    exact endK_same ⟨rfl, rfl, rfl⟩
  · simp only [go_sem, reduceCtorEq, reduceIte, Nat.reduceEqDiff, Nat.reduceAdd, Nat.reduceLeDiff, Nat.reduceMul, Int.reduceLT, Int.reduceLE, Int.reduceAdd, Int.reduceSub, Int.reduceMul, Int.reduceNeg, Int.reduceToNat, Int.reduceEq]
    refine callK_same (k93 F _ k _ hk) ?_
    rw [emul]
    simp only [pairV, go_sem, reduceCtorEq, reduceIte, Nat.reduceEqDiff, Nat.reduceAdd, Nat.reduceLeDiff, Nat.reduceMul, Int.reduceLT, Int.reduceLE, Int.reduceAdd, Int.reduceSub, Int.reduceMul, Int.reduceNeg, Int.reduceToNat, Int.reduceEq]
    exact endK_same ⟨rfl, rfl, rfl⟩
  · have e : twoK op k a b = divK op k (seenV k a) (seenV k b) := by rcases h with rfl | rfl <;> rfl
    rw [e]
    rcases h with rfl | rfl
    · simp only [go_sem, reduceCtorEq, reduceIte, Nat.reduceEqDiff, Nat.reduceAdd, Nat.reduceLeDiff, Nat.reduceMul, Int.reduceLT, Int.reduceLE, Int.reduceAdd, Int.reduceSub, Int.reduceMul, Int.reduceNeg, Int.reduceToNat, Int.reduceEq]
      refine callK_same (k94 F _ 11 k _ _ hk (.inl rfl) ra.1 ra.2 rb.1 rb.2) ?_
      simp only [pairV, go_sem, reduceCtorEq, reduceIte, Nat.reduceEqDiff, Nat.reduceAdd, Nat.reduceLeDiff, Nat.reduceMul, Int.reduceLT, Int.reduceLE, Int.reduceAdd, Int.reduceSub, Int.reduceMul, Int.reduceNeg, Int.reduceToNat, Int.reduceEq]
      exact endK_same ⟨rfl, rfl, rfl⟩
    · simp only [go_sem, reduceCtorEq, reduceIte, Nat.reduceEqDiff, Nat.reduceAdd, Nat.reduceLeDiff, Nat.reduceMul, Int.reduceLT, Int.reduceLE, Int.reduceAdd, Int.reduceSub, Int.reduceMul, Int.reduceNeg, Int.reduceToNat, Int.reduceEq]
      refine callK_same (k94 F _ 12 k _ _ hk (.inr rfl) ra.1 ra.2 rb.1 rb.2) ?_
      simp only [pairV, go_sem, reduceCtorEq, reduceIte, Nat.reduceEqDiff, Nat.reduceAdd, Nat.reduceLeDiff, Nat.reduceMul, Int.reduceLT, Int.reduceLE, Int.reduceAdd, Int.reduceSub, Int.reduceMul, Int.reduceNeg, Int.reduceToNat, Int.reduceEq]
      exact endK_same ⟨rfl, rfl, rfl⟩
  · simp only [go_sem, reduceCtorEq, reduceIte, Nat.reduceEqDiff, Nat.reduceAdd, Nat.reduceLeDiff, Nat.reduceMul, Int.reduceLT, Int.reduceLE, Int.reduceAdd, Int.reduceSub, Int.reduceMul, Int.reduceNeg, Int.reduceToNat, Int.reduceEq]
    exact endK_same ⟨rfl, rfl, rfl⟩
  · simp only [go_sem, reduceCtorEq, reduceIte, Nat.reduceEqDiff, Nat.reduceAdd, Nat.reduceLeDiff, Nat.reduceMul, Int.reduceLT, Int.reduceLE, Int.reduceAdd, Int.reduceSub, Int.reduceMul, Int.reduceNeg, Int.reduceToNat, Int.reduceEq]
    exact endK_same ⟨rfl, rfl, rfl⟩
  · simp only [go_sem, reduceCtorEq, reduceIte, Nat.reduceEqDiff, Nat.reduceAdd, Nat.reduceLeDiff, Nat.reduceMul, Int.reduceLT, Int.reduceLE, Int.reduceAdd, Int.reduceSub, Int.reduceMul, Int.reduceNeg, Int.reduceToNat, Int.reduceEq]
    exact endK_same ⟨rfl, rfl, rfl⟩
  · have e : twoK op k a b = shiftK op k a (seenV k a) (seenV k b) := two_shift h
    rw [e]
    rcases h with rfl | rfl
    · simp only [go_sem, reduceCtorEq, reduceIte, Nat.reduceEqDiff, Nat.reduceAdd, Nat.reduceLeDiff, Nat.reduceMul, Int.reduceLT, Int.reduceLE, Int.reduceAdd, Int.reduceSub, Int.reduceMul, Int.reduceNeg, Int.reduceToNat, Int.reduceEq]
      refine callK_same (k95 F _ 16 k a _ _ hk (.inl rfl) a0 a1) ?_
      simp only [pairV, go_sem, reduceCtorEq, reduceIte, Nat.reduceEqDiff, Nat.reduceAdd, Nat.reduceLeDiff, Nat.reduceMul, Int.reduceLT, Int.reduceLE, Int.reduceAdd, Int.reduceSub, Int.reduceMul, Int.reduceNeg, Int.reduceToNat, Int.reduceEq]
      exact endK_same ⟨rfl, rfl, rfl⟩
    · simp only [go_sem, reduceCtorEq, reduceIte, Nat.reduceEqDiff, Nat.reduceAdd, Nat.reduceLeDiff, Nat.reduceMul, Int.reduceLT, Int.reduceLE, Int.reduceAdd, Int.reduceSub, Int.reduceMul, Int.reduceNeg, Int.reduceToNat, Int.reduceEq]
      refine callK_same (k95 F _ 17 k a _ _ hk (.inr rfl) a0 a1) ?_
      simp only [pairV, go_sem, reduceCtorEq, reduceIte, Nat.reduceEqDiff, Nat.reduceAdd, Nat.reduceLeDiff, Nat.reduceMul, Int.reduceLT, Int.reduceLE, Int.reduceAdd, Int.reduceSub, Int.reduceMul, Int.reduceNeg, Int.reduceToNat, Int.reduceEq]
      exact endK_same ⟨rfl, rfl, rfl⟩
  · simp only [go_sem, reduceCtorEq, reduceIte, Nat.reduceEqDiff, Nat.reduceAdd, Nat.reduceLeDiff, Nat.reduceMul, Int.reduceLT, Int.reduceLE, Int.reduceAdd, Int.reduceSub, Int.reduceMul, Int.reduceNeg, Int.reduceToNat, Int.reduceEq]
    refine callK_same (k96 F _ _) ?_
    simp only [go_sem, reduceCtorEq, reduceIte, Nat.reduceEqDiff, Nat.reduceAdd, Nat.reduceLeDiff, Nat.reduceMul, Int.reduceLT, Int.reduceLE, Int.reduceAdd, Int.reduceSub, Int.reduceMul, Int.reduceNeg, Int.reduceToNat, Int.reduceEq]
    exact endK_same ⟨by simp only [pairV, twoK]; simp [inj], rfl, rfl⟩
  · simp only [go_sem, reduceCtorEq, reduceIte, Nat.reduceEqDiff, Nat.reduceAdd, Nat.reduceLeDiff, Nat.reduceMul, Int.reduceLT, Int.reduceLE, Int.reduceAdd, Int.reduceSub, Int.reduceMul, Int.reduceNeg, Int.reduceToNat, Int.reduceEq]
    refine callK_same (k96 F _ _) ?_
    simp only [go_sem, reduceCtorEq, reduceIte, Nat.reduceEqDiff, Nat.reduceAdd, Nat.reduceLeDiff, Nat.reduceMul, Int.reduceLT, Int.reduceLE, Int.reduceAdd, Int.reduceSub, Int.reduceMul, Int.reduceNeg, Int.reduceToNat, Int.reduceEq]
    exact endK_same ⟨by simp only [pairV, twoK]; simp, rfl, rfl⟩
theorem k46 (op : Int) : CallsA Tryz.prog 46 [.int .i64 op] F M (Same F M (.bool (isTwo op))) := by
  refine callsA_of hm Tryz.func46 e46 (Nat.le_of_ble_eq_true rfl) ?_
  by_cases h1 : 8 ≤ op
  · by_cases h2 : op ≤ 19
    · simp only [c46, go_sem, reduceCtorEq, reduceIte, Nat.reduceEqDiff, Nat.reduceAdd, Nat.reduceLeDiff, Nat.reduceMul, Int.reduceLT, Int.reduceLE, Int.reduceAdd, Int.reduceSub, Int.reduceMul, Int.reduceNeg, Int.reduceToNat, Int.reduceEq, h1, h2]
      exact endK_same ⟨by simp [isTwo, h1, h2], rfl, rfl⟩
    · simp only [c46, go_sem, reduceCtorEq, reduceIte, Nat.reduceEqDiff, Nat.reduceAdd, Nat.reduceLeDiff, Nat.reduceMul, Int.reduceLT, Int.reduceLE, Int.reduceAdd, Int.reduceSub, Int.reduceMul, Int.reduceNeg, Int.reduceToNat, Int.reduceEq, h1, h2]
      exact endK_same ⟨by simp [isTwo, h1, h2], rfl, rfl⟩
  · simp only [c46, go_sem, reduceCtorEq, reduceIte, Nat.reduceEqDiff, Nat.reduceAdd, Nat.reduceLeDiff, Nat.reduceMul, Int.reduceLT, Int.reduceLE, Int.reduceAdd, Int.reduceSub, Int.reduceMul, Int.reduceNeg, Int.reduceToNat, Int.reduceEq, h1]
    exact endK_same ⟨by simp [isTwo, h1], rfl, rfl⟩
theorem k25 (op k : Int) : CallsA Tryz.prog 25 [.int .i64 op, .int .i64 k] F M (Same F M (.bool (isTwo op && isK k))) := by
  refine callsA_of hm Tryz.func25 e25 (Nat.le_of_ble_eq_true rfl) ?_
  simp only [c25, go_sem, reduceCtorEq, reduceIte, Nat.reduceEqDiff, Nat.reduceAdd, Nat.reduceLeDiff, Nat.reduceMul, Int.reduceLT, Int.reduceLE, Int.reduceAdd, Int.reduceSub, Int.reduceMul, Int.reduceNeg, Int.reduceToNat, Int.reduceEq]
  refine callK_same (k45 F _ op 8 19) ?_
  cases h : isTwo op
  · unfold isTwo at h
    simp only [go_sem, reduceCtorEq, reduceIte, Nat.reduceEqDiff, Nat.reduceAdd, Nat.reduceLeDiff, Nat.reduceMul, Int.reduceLT, Int.reduceLE, Int.reduceAdd, Int.reduceSub, Int.reduceMul, Int.reduceNeg, Int.reduceToNat, Int.reduceEq, h]
    exact endK_same ⟨by simp, rfl, rfl⟩
  · unfold isTwo at h
    simp only [go_sem, reduceCtorEq, reduceIte, Nat.reduceEqDiff, Nat.reduceAdd, Nat.reduceLeDiff, Nat.reduceMul, Int.reduceLT, Int.reduceLE, Int.reduceAdd, Int.reduceSub, Int.reduceMul, Int.reduceNeg, Int.reduceToNat, Int.reduceEq, h]
    refine callK_same (k13 F _ k) ?_
    simp only [go_sem, reduceCtorEq, reduceIte, Nat.reduceEqDiff, Nat.reduceAdd, Nat.reduceLeDiff, Nat.reduceMul, Int.reduceLT, Int.reduceLE, Int.reduceAdd, Int.reduceSub, Int.reduceMul, Int.reduceNeg, Int.reduceToNat, Int.reduceEq]
    refine endK_same ⟨?_, rfl, rfl⟩
    have := ofW_most k
    cases hk : isK k
    · simp [wK, hk]
    · simp [wK, hk]; omega
theorem k48 (op k : Int) (hk : isK k = true) : CallsA Tryz.prog 48 [.int .i64 op, .int .i64 k] F M (Same F M (.int .i64 (ansW op k))) := by
  refine callsA_of hm Tryz.func48 e48 (Nat.le_of_ble_eq_true rfl) ?_
  by_cases h1 : op = 18
  · simp only [c48, go_sem, reduceCtorEq, reduceIte, Nat.reduceEqDiff, Nat.reduceAdd, Nat.reduceLeDiff, Nat.reduceMul, Int.reduceLT, Int.reduceLE, Int.reduceAdd, Int.reduceSub, Int.reduceMul, Int.reduceNeg, Int.reduceToNat, Int.reduceEq, h1]
    exact endK_same ⟨by simp [ansW], rfl, rfl⟩
  by_cases h2 : op = 19
  · simp only [c48, go_sem, reduceCtorEq, reduceIte, Nat.reduceEqDiff, Nat.reduceAdd, Nat.reduceLeDiff, Nat.reduceMul, Int.reduceLT, Int.reduceLE, Int.reduceAdd, Int.reduceSub, Int.reduceMul, Int.reduceNeg, Int.reduceToNat, Int.reduceEq, h1, h2]
    exact endK_same ⟨by simp [ansW], rfl, rfl⟩
  by_cases h3 : op = 7
  · simp only [c48, go_sem, reduceCtorEq, reduceIte, Nat.reduceEqDiff, Nat.reduceAdd, Nat.reduceLeDiff, Nat.reduceMul, Int.reduceLT, Int.reduceLE, Int.reduceAdd, Int.reduceSub, Int.reduceMul, Int.reduceNeg, Int.reduceToNat, Int.reduceEq, h1, h2, h3]
    exact endK_same ⟨by simp [ansW], rfl, rfl⟩
  simp only [c48, go_sem, reduceCtorEq, reduceIte, Nat.reduceEqDiff, Nat.reduceAdd, Nat.reduceLeDiff, Nat.reduceMul, Int.reduceLT, Int.reduceLE, Int.reduceAdd, Int.reduceSub, Int.reduceMul, Int.reduceNeg, Int.reduceToNat, Int.reduceEq, h1, h2, h3]
  refine callK_same (k13 F _ k) ?_
  simp only [go_sem, reduceCtorEq, reduceIte, Nat.reduceEqDiff, Nat.reduceAdd, Nat.reduceLeDiff, Nat.reduceMul, Int.reduceLT, Int.reduceLE, Int.reduceAdd, Int.reduceSub, Int.reduceMul, Int.reduceNeg, Int.reduceToNat, Int.reduceEq, wK_of hk]
  exact endK_same ⟨by simp [ansW, h1, h2, h3], rfl, rfl⟩
theorem k71 (op k : Int) (hk : isK k = true) : CallsA Tryz.prog 71 [.int .i64 op, .int .i64 k] F M (Same F M (.int .i64 (ansW op k))) := by
  refine callsA_of hm Tryz.func71 e71 (Nat.le_of_ble_eq_true rfl) ?_
  by_cases h1 : op = 18
  · simp only [c71, go_sem, reduceCtorEq, reduceIte, Nat.reduceEqDiff, Nat.reduceAdd, Nat.reduceLeDiff, Nat.reduceMul, Int.reduceLT, Int.reduceLE, Int.reduceAdd, Int.reduceSub, Int.reduceMul, Int.reduceNeg, Int.reduceToNat, Int.reduceEq, h1]
    exact endK_same ⟨by simp [ansW], rfl, rfl⟩
  by_cases h2 : op = 19
  · simp only [c71, go_sem, reduceCtorEq, reduceIte, Nat.reduceEqDiff, Nat.reduceAdd, Nat.reduceLeDiff, Nat.reduceMul, Int.reduceLT, Int.reduceLE, Int.reduceAdd, Int.reduceSub, Int.reduceMul, Int.reduceNeg, Int.reduceToNat, Int.reduceEq, h1, h2]
    exact endK_same ⟨by simp [ansW], rfl, rfl⟩
  by_cases h3 : op = 7
  · simp only [c71, go_sem, reduceCtorEq, reduceIte, Nat.reduceEqDiff, Nat.reduceAdd, Nat.reduceLeDiff, Nat.reduceMul, Int.reduceLT, Int.reduceLE, Int.reduceAdd, Int.reduceSub, Int.reduceMul, Int.reduceNeg, Int.reduceToNat, Int.reduceEq, h1, h2, h3]
    exact endK_same ⟨by simp [ansW], rfl, rfl⟩
  simp only [c71, go_sem, reduceCtorEq, reduceIte, Nat.reduceEqDiff, Nat.reduceAdd, Nat.reduceLeDiff, Nat.reduceMul, Int.reduceLT, Int.reduceLE, Int.reduceAdd, Int.reduceSub, Int.reduceMul, Int.reduceNeg, Int.reduceToNat, Int.reduceEq, h1, h2, h3]
  refine callK_same (k59 F _ k hk) ?_
  simp only [go_sem, reduceCtorEq, reduceIte, Nat.reduceEqDiff, Nat.reduceAdd, Nat.reduceLeDiff, Nat.reduceMul, Int.reduceLT, Int.reduceLE, Int.reduceAdd, Int.reduceSub, Int.reduceMul, Int.reduceNeg, Int.reduceToNat, Int.reduceEq]
  exact endK_same ⟨by simp [ansW, h1, h2, h3], rfl, rfl⟩
end Go.Proofs.Tryz.K

/- Contracts: an operator of two numbers by the page. -/
namespace Go.Proofs.Tryz.K
open Go Go.Ax Go.Proofs.Tryz.S
set_option maxRecDepth 100000
set_option linter.unusedSimpArgs false
set_option linter.unusedVariables false
set_option maxHeartbeats 4000000
variable (F : Fz) (M : Hp)

theorem k27 (op k a b : Int) (hk : isK k = true) (hop : isTwo op = true) (a0 : 0 ≤ a) (a1 : a ≤ mostV (ofW k)) (b0 : 0 ≤ b) (b1 : b ≤ mostV (ofW k)) :
    CallsA Tryz.prog 27 [.int .i64 op, .int .i64 k, .int .i64 a, .int .i64 b] F M (Same F M (pairV (twoK op k a b))) := by
  refine callsA_of hm Tryz.func27 e27 (Nat.le_of_ble_eq_true rfl) ?_
  have kd := kinds hk
  have ow := ofW_most k
  have hW := ofW_isW k
  have lw := isW_le hW
  have hp := pow_w hW
  have ra := seen_range a0 a1 (k := k)
  have rb := seen_range b0 b1 (k := k)
  have eadd : IntKind.i64.wrap (seenV k a + seenV k b) = seenV k a + seenV k b := w64 (by omega) (by omega)
  have esub : IntKind.i64.wrap (seenV k a - seenV k b) = seenV k a - seenV k b := w64 (by omega) (by omega)
  have w1 : IntKind.i64.wrap (ofW k - 1) = ofW k - 1 := w64 (by omega) (by omega)
  have s0 : ¬ ofW k - 1 < 0 := by omega
  have s00 : ¬ ofW k < 0 := by omega
  have e1 : shlv .i64 1 (ofW k - 1) = halfV (ofW k) := shl1 (by omega) (by omega)
  have e4 : IntKind.i64.wrap (0 - halfV (ofW k)) = -(halfV (ofW k)) := by rw [w64 (by omega) (by omega)]; omega
  simp only [c27, go_sem, reduceCtorEq, reduceIte, Nat.reduceEqDiff, Nat.reduceAdd, Nat.reduceLeDiff, Nat.reduceMul, Int.reduceLT, Int.reduceLE, Int.reduceAdd, Int.reduceSub, Int.reduceMul, Int.reduceNeg, Int.reduceToNat, Int.reduceEq]
  refine callK_same (k13 F _ k) ?_
  simp only [go_sem, reduceCtorEq, reduceIte, Nat.reduceEqDiff, Nat.reduceAdd, Nat.reduceLeDiff, Nat.reduceMul, Int.reduceLT, Int.reduceLE, Int.reduceAdd, Int.reduceSub, Int.reduceMul, Int.reduceNeg, Int.reduceToNat, Int.reduceEq, wK_of hk]
  refine callK_same (k44 F _ k a a0 a1) ?_
  simp only [go_sem, reduceCtorEq, reduceIte, Nat.reduceEqDiff, Nat.reduceAdd, Nat.reduceLeDiff, Nat.reduceMul, Int.reduceLT, Int.reduceLE, Int.reduceAdd, Int.reduceSub, Int.reduceMul, Int.reduceNeg, Int.reduceToNat, Int.reduceEq]
  refine callK_same (k44 F _ k b b0 b1) ?_
  rcases two_cases hop with rfl | rfl | rfl | h | rfl | rfl | rfl | h | rfl | rfl
  · simp only [go_sem, reduceCtorEq, reduceIte, Nat.reduceEqDiff, Nat.reduceAdd, Nat.reduceLeDiff, Nat.reduceMul, Int.reduceLT, Int.reduceLE, Int.reduceAdd, Int.reduceSub, Int.reduceMul, Int.reduceNeg, Int.reduceToNat, Int.reduceEq, eadd]
    refine callK_same (k51 F _ k _ hk) ?_
    simp only [pairV, go_sem, reduceCtorEq, reduceIte, Nat.reduceEqDiff, Nat.reduceAdd, Nat.reduceLeDiff, Nat.reduceMul, Int.reduceLT, Int.reduceLE, Int.reduceAdd, Int.reduceSub, Int.reduceMul, Int.reduceNeg, Int.reduceToNat, Int.reduceEq]
    exact endK_same ⟨rfl, rfl, rfl⟩
  · simp only [go_sem, reduceCtorEq, reduceIte, Nat.reduceEqDiff, Nat.reduceAdd, Nat.reduceLeDiff, Nat.reduceMul, Int.reduceLT, Int.reduceLE, Int.reduceAdd, Int.reduceSub, Int.reduceMul, Int.reduceNeg, Int.reduceToNat, Int.reduceEq, esub]
    refine callK_same (k51 F _ k _ hk) ?_
    simp only [pairV, go_sem, reduceCtorEq, reduceIte, Nat.reduceEqDiff, Nat.reduceAdd, Nat.reduceLeDiff, Nat.reduceMul, Int.reduceLT, Int.reduceLE, Int.reduceAdd, Int.reduceSub, Int.reduceMul, Int.reduceNeg, Int.reduceToNat, Int.reduceEq]
    exact endK_same ⟨rfl, rfl, rfl⟩
  · simp only [go_sem, reduceCtorEq, reduceIte, Nat.reduceEqDiff, Nat.reduceAdd, Nat.reduceLeDiff, Nat.reduceMul, Int.reduceLT, Int.reduceLE, Int.reduceAdd, Int.reduceSub, Int.reduceMul, Int.reduceNeg, Int.reduceToNat, Int.reduceEq]
    refine callK_same (k52 F _ k) ?_
    cases hs : sgn k
    · have ea : seenV k a = a := by simp [seenV, hs]
      have eb : seenV k b = b := by simp [seenV, hs]
      have c1 : IntKind.u64.wrap a = a := u64_in a0 (by omega)
      have c2 : IntKind.u64.wrap b = b := u64_in b0 (by omega)
      have c3 := u64_shl hW
      have c4 : IntKind.u64.wrap (2 ^ (ofW k).toNat - 1) = mostV (ofW k) := u64_in (by omega) (by omega)
      have hm : 0 ≤ a * b := Int.mul_nonneg a0 b0
      have hm1 : a * b ≤ 4294967295 * 4294967295 := Int.mul_le_mul (by omega) (by omega) b0 (by omega)
      have c5 : IntKind.u64.wrap (a * b) = a * b := u64_in hm (by omega)
      have c6 : band .u64 (a * b) (mostV (ofW k)) = a * b % 2 ^ (ofW k).toNat := by
        obtain ⟨n, hn⟩ : ∃ n : Nat, a * b = n := ⟨(a * b).toNat, by omega⟩
        rw [hn]
        exact u64_and hW (by omega)
      have hn := isN_le (mod_isN (x := a * b) hW)
      have c7 : IntKind.i64.wrap (a * b % 2 ^ (ofW k).toNat) = a * b % 2 ^ (ofW k).toNat := w64 (by omega) (by omega)
      simp only [go_sem, reduceCtorEq, reduceIte, Nat.reduceEqDiff, Nat.reduceAdd, Nat.reduceLeDiff, Nat.reduceMul, Int.reduceLT, Int.reduceLE, Int.reduceAdd, Int.reduceSub, Int.reduceMul, Int.reduceNeg, Int.reduceToNat, Int.reduceEq, ea, eb, c1, c2, s00, c3, c4, c5, c6, c7, not_false_eq_true]
      refine endK_same ⟨?_, rfl, rfl⟩
      show _ = pairV (fitK k (seenV k a * seenV k b))
      rw [fit_uns hs, ea, eb]
      rfl
    · have hb := mul_bound hk hs ra.1 ra.2 rb.1 rb.2
      have c1 : IntKind.i64.wrap (seenV k a * seenV k b) = seenV k a * seenV k b := w64 (by omega) (by omega)
      simp only [go_sem, reduceCtorEq, reduceIte, Nat.reduceEqDiff, Nat.reduceAdd, Nat.reduceLeDiff, Nat.reduceMul, Int.reduceLT, Int.reduceLE, Int.reduceAdd, Int.reduceSub, Int.reduceMul, Int.reduceNeg, Int.reduceToNat, Int.reduceEq, c1]
      refine callK_same (k51 F _ k _ hk) ?_
      simp only [pairV, go_sem, reduceCtorEq, reduceIte, Nat.reduceEqDiff, Nat.reduceAdd, Nat.reduceLeDiff, Nat.reduceMul, Int.reduceLT, Int.reduceLE, Int.reduceAdd, Int.reduceSub, Int.reduceMul, Int.reduceNeg, Int.reduceToNat, Int.reduceEq]
      exact endK_same ⟨rfl, rfl, rfl⟩
  · have e : twoK op k a b = divK op k (seenV k a) (seenV k b) := by rcases h with rfl | rfl <;> rfl
    rw [e]
    generalize seenV k a = u at *
    generalize seenV k b = v at *
    have hop2 : op = 11 ∨ op = 12 := h
    by_cases hv : v = 0
    · have dv : divK op k u v = (0, 6) := by unfold divK; rw [if_pos hv]
      rw [dv]
      rcases h with rfl | rfl <;> simp only [go_sem, reduceCtorEq, reduceIte, Nat.reduceEqDiff, Nat.reduceAdd, Nat.reduceLeDiff, Nat.reduceMul, Int.reduceLT, Int.reduceLE, Int.reduceAdd, Int.reduceSub, Int.reduceMul, Int.reduceNeg, Int.reduceToNat, Int.reduceEq, hv] <;> exact endK_same ⟨rfl, rfl, rfl⟩
    have hl : sgn k = true → leastK k = -(halfV (ofW k)) := fun h => by simp [leastK, h]
    by_cases hc : sgn k = true ∧ u = leastK k ∧ v = -1
    · have dv : divK op k u v = (0, 4) := by unfold divK; rw [if_neg hv, if_pos hc]
      rw [dv]
      obtain ⟨c1, c2, c3⟩ := hc
      rw [hl c1] at c2
      rcases h with rfl | rfl
      · simp only [go_sem, reduceCtorEq, reduceIte, Nat.reduceEqDiff, Nat.reduceAdd, Nat.reduceLeDiff, Nat.reduceMul, Int.reduceLT, Int.reduceLE, Int.reduceAdd, Int.reduceSub, Int.reduceMul, Int.reduceNeg, Int.reduceToNat, Int.reduceEq, hv]
        refine callK_same (k52 F _ k) ?_
        simp only [go_sem, reduceCtorEq, reduceIte, Nat.reduceEqDiff, Nat.reduceAdd, Nat.reduceLeDiff, Nat.reduceMul, Int.reduceLT, Int.reduceLE, Int.reduceAdd, Int.reduceSub, Int.reduceMul, Int.reduceNeg, Int.reduceToNat, Int.reduceEq, c1, c2, c3, w1, s0, e1, e4, not_false_eq_true]
        exact endK_same ⟨rfl, rfl, rfl⟩
      · simp only [go_sem, reduceCtorEq, reduceIte, Nat.reduceEqDiff, Nat.reduceAdd, Nat.reduceLeDiff, Nat.reduceMul, Int.reduceLT, Int.reduceLE, Int.reduceAdd, Int.reduceSub, Int.reduceMul, Int.reduceNeg, Int.reduceToNat, Int.reduceEq, hv]
        refine callK_same (k52 F _ k) ?_
        simp only [go_sem, reduceCtorEq, reduceIte, Nat.reduceEqDiff, Nat.reduceAdd, Nat.reduceLeDiff, Nat.reduceMul, Int.reduceLT, Int.reduceLE, Int.reduceAdd, Int.reduceSub, Int.reduceMul, Int.reduceNeg, Int.reduceToNat, Int.reduceEq, c1, c2, c3, w1, s0, e1, e4, not_false_eq_true]
        exact endK_same ⟨rfl, rfl, rfl⟩
    have dv : divK op k u v = ((if op = 11 then u.tdiv v else u.tmod v) % 2 ^ (ofW k).toNat, 0) := by unfold divK; rw [if_neg hv, if_neg hc]
    rw [dv]
    have rq := tdiv_range hk ra.1 ra.2 rb.1 hv hc
    have eq : IntKind.i64.wrap (u.tdiv v) = u.tdiv v := w64 (by omega) (by omega)
    have hcase : (sgn k = false) ∨ (sgn k = true ∧ ¬ u = -(halfV (ofW k))) ∨ (sgn k = true ∧ u = -(halfV (ofW k)) ∧ ¬ v = -1) := by
      cases hs : sgn k
      · exact .inl rfl
      · by_cases h1 : u = -(halfV (ofW k))
        · exact .inr (.inr ⟨rfl, h1, fun h => hc ⟨hs, by rw [hl hs]; exact h1, h⟩⟩)
        · exact .inr (.inl ⟨rfl, h1⟩)
    rcases h with rfl | rfl
    · simp only [go_sem, reduceCtorEq, reduceIte, Nat.reduceEqDiff, Nat.reduceAdd, Nat.reduceLeDiff, Nat.reduceMul, Int.reduceLT, Int.reduceLE, Int.reduceAdd, Int.reduceSub, Int.reduceMul, Int.reduceNeg, Int.reduceToNat, Int.reduceEq, hv]
      refine callK_same (k52 F _ k) ?_
      rcases hcase with h1 | ⟨h1, h2⟩ | ⟨h1, h2, h3⟩
      · simp only [go_sem, reduceCtorEq, reduceIte, Nat.reduceEqDiff, Nat.reduceAdd, Nat.reduceLeDiff, Nat.reduceMul, Int.reduceLT, Int.reduceLE, Int.reduceAdd, Int.reduceSub, Int.reduceMul, Int.reduceNeg, Int.reduceToNat, Int.reduceEq, h1, hv, eq, not_false_eq_true]
        refine callK_same (k35 F _ _ _ lw.1 lw.2) ?_
        simp only [go_sem, reduceCtorEq, reduceIte, Nat.reduceEqDiff, Nat.reduceAdd, Nat.reduceLeDiff, Nat.reduceMul, Int.reduceLT, Int.reduceLE, Int.reduceAdd, Int.reduceSub, Int.reduceMul, Int.reduceNeg, Int.reduceToNat, Int.reduceEq]
        exact endK_same ⟨rfl, rfl, rfl⟩
      · simp only [go_sem, reduceCtorEq, reduceIte, Nat.reduceEqDiff, Nat.reduceAdd, Nat.reduceLeDiff, Nat.reduceMul, Int.reduceLT, Int.reduceLE, Int.reduceAdd, Int.reduceSub, Int.reduceMul, Int.reduceNeg, Int.reduceToNat, Int.reduceEq, h1, h2, hv, eq, w1, s0, e1, e4, not_false_eq_true]
        refine callK_same (k35 F _ _ _ lw.1 lw.2) ?_
        simp only [go_sem, reduceCtorEq, reduceIte, Nat.reduceEqDiff, Nat.reduceAdd, Nat.reduceLeDiff, Nat.reduceMul, Int.reduceLT, Int.reduceLE, Int.reduceAdd, Int.reduceSub, Int.reduceMul, Int.reduceNeg, Int.reduceToNat, Int.reduceEq]
        exact endK_same ⟨rfl, rfl, rfl⟩
      · rw [h2] at eq ⊢
        simp only [go_sem, reduceCtorEq, reduceIte, Nat.reduceEqDiff, Nat.reduceAdd, Nat.reduceLeDiff, Nat.reduceMul, Int.reduceLT, Int.reduceLE, Int.reduceAdd, Int.reduceSub, Int.reduceMul, Int.reduceNeg, Int.reduceToNat, Int.reduceEq, h1, h2, h3, hv, eq, w1, s0, e1, e4, not_false_eq_true]
        refine callK_same (k35 F _ _ _ lw.1 lw.2) ?_
        simp only [go_sem, reduceCtorEq, reduceIte, Nat.reduceEqDiff, Nat.reduceAdd, Nat.reduceLeDiff, Nat.reduceMul, Int.reduceLT, Int.reduceLE, Int.reduceAdd, Int.reduceSub, Int.reduceMul, Int.reduceNeg, Int.reduceToNat, Int.reduceEq]
        exact endK_same ⟨rfl, rfl, rfl⟩
    · simp only [go_sem, reduceCtorEq, reduceIte, Nat.reduceEqDiff, Nat.reduceAdd, Nat.reduceLeDiff, Nat.reduceMul, Int.reduceLT, Int.reduceLE, Int.reduceAdd, Int.reduceSub, Int.reduceMul, Int.reduceNeg, Int.reduceToNat, Int.reduceEq, hv]
      refine callK_same (k52 F _ k) ?_
      rcases hcase with h1 | ⟨h1, h2⟩ | ⟨h1, h2, h3⟩
      · simp only [go_sem, reduceCtorEq, reduceIte, Nat.reduceEqDiff, Nat.reduceAdd, Nat.reduceLeDiff, Nat.reduceMul, Int.reduceLT, Int.reduceLE, Int.reduceAdd, Int.reduceSub, Int.reduceMul, Int.reduceNeg, Int.reduceToNat, Int.reduceEq, h1, hv, not_false_eq_true]
        refine callK_same (k35 F _ _ _ lw.1 lw.2) ?_
        simp only [go_sem, reduceCtorEq, reduceIte, Nat.reduceEqDiff, Nat.reduceAdd, Nat.reduceLeDiff, Nat.reduceMul, Int.reduceLT, Int.reduceLE, Int.reduceAdd, Int.reduceSub, Int.reduceMul, Int.reduceNeg, Int.reduceToNat, Int.reduceEq]
        exact endK_same ⟨rfl, rfl, rfl⟩
      · simp only [go_sem, reduceCtorEq, reduceIte, Nat.reduceEqDiff, Nat.reduceAdd, Nat.reduceLeDiff, Nat.reduceMul, Int.reduceLT, Int.reduceLE, Int.reduceAdd, Int.reduceSub, Int.reduceMul, Int.reduceNeg, Int.reduceToNat, Int.reduceEq, h1, h2, hv, w1, s0, e1, e4, not_false_eq_true]
        refine callK_same (k35 F _ _ _ lw.1 lw.2) ?_
        simp only [go_sem, reduceCtorEq, reduceIte, Nat.reduceEqDiff, Nat.reduceAdd, Nat.reduceLeDiff, Nat.reduceMul, Int.reduceLT, Int.reduceLE, Int.reduceAdd, Int.reduceSub, Int.reduceMul, Int.reduceNeg, Int.reduceToNat, Int.reduceEq]
        exact endK_same ⟨rfl, rfl, rfl⟩
      · rw [h2] at ⊢
        simp only [go_sem, reduceCtorEq, reduceIte, Nat.reduceEqDiff, Nat.reduceAdd, Nat.reduceLeDiff, Nat.reduceMul, Int.reduceLT, Int.reduceLE, Int.reduceAdd, Int.reduceSub, Int.reduceMul, Int.reduceNeg, Int.reduceToNat, Int.reduceEq, h1, h2, h3, hv, w1, s0, e1, e4, not_false_eq_true]
        refine callK_same (k35 F _ _ _ lw.1 lw.2) ?_
        simp only [go_sem, reduceCtorEq, reduceIte, Nat.reduceEqDiff, Nat.reduceAdd, Nat.reduceLeDiff, Nat.reduceMul, Int.reduceLT, Int.reduceLE, Int.reduceAdd, Int.reduceSub, Int.reduceMul, Int.reduceNeg, Int.reduceToNat, Int.reduceEq]
        exact endK_same ⟨rfl, rfl, rfl⟩
  · simp only [go_sem, reduceCtorEq, reduceIte, Nat.reduceEqDiff, Nat.reduceAdd, Nat.reduceLeDiff, Nat.reduceMul, Int.reduceLT, Int.reduceLE, Int.reduceAdd, Int.reduceSub, Int.reduceMul, Int.reduceNeg, Int.reduceToNat, Int.reduceEq]
    exact endK_same ⟨rfl, rfl, rfl⟩
  · simp only [go_sem, reduceCtorEq, reduceIte, Nat.reduceEqDiff, Nat.reduceAdd, Nat.reduceLeDiff, Nat.reduceMul, Int.reduceLT, Int.reduceLE, Int.reduceAdd, Int.reduceSub, Int.reduceMul, Int.reduceNeg, Int.reduceToNat, Int.reduceEq]
    exact endK_same ⟨rfl, rfl, rfl⟩
  · simp only [go_sem, reduceCtorEq, reduceIte, Nat.reduceEqDiff, Nat.reduceAdd, Nat.reduceLeDiff, Nat.reduceMul, Int.reduceLT, Int.reduceLE, Int.reduceAdd, Int.reduceSub, Int.reduceMul, Int.reduceNeg, Int.reduceToNat, Int.reduceEq]
    exact endK_same ⟨rfl, rfl, rfl⟩
  · rw [two_shift h]
    generalize seenV k a = u at *
    generalize seenV k b = v at *
    by_cases hv : 0 ≤ v ∧ v ≤ ofW k - 1
    · have c0 : (decide (0 ≤ v) && decide (v ≤ ofW k - 1)) = true := by simp [hv.1, hv.2]
      have dv : shiftK op k a u v = ((if op = 16 then a * 2 ^ v.toNat else u / 2 ^ v.toNat) % 2 ^ (ofW k).toNat, 0) := by unfold shiftK; rw [if_neg (by omega)]
      rw [dv]
      have h1 : ¬ v < 0 := by omega
      have c1 := shl_in (a := a) (v := v) a0 (by omega) (by omega) (by omega)
      have c2 := shr_any (u := u) (v := v) (by omega) (by omega)
      rcases h with rfl | rfl
      · simp only [go_sem, reduceCtorEq, reduceIte, Nat.reduceEqDiff, Nat.reduceAdd, Nat.reduceLeDiff, Nat.reduceMul, Int.reduceLT, Int.reduceLE, Int.reduceAdd, Int.reduceSub, Int.reduceMul, Int.reduceNeg, Int.reduceToNat, Int.reduceEq, w1]
        refine callK_same (k53 F _ v _) ?_
        simp only [go_sem, reduceCtorEq, reduceIte, Nat.reduceEqDiff, Nat.reduceAdd, Nat.reduceLeDiff, Nat.reduceMul, Int.reduceLT, Int.reduceLE, Int.reduceAdd, Int.reduceSub, Int.reduceMul, Int.reduceNeg, Int.reduceToNat, Int.reduceEq, c0, h1, c1, c2, not_false_eq_true]
        refine callK_same (k35 F _ _ _ lw.1 lw.2) ?_
        simp only [go_sem, reduceCtorEq, reduceIte, Nat.reduceEqDiff, Nat.reduceAdd, Nat.reduceLeDiff, Nat.reduceMul, Int.reduceLT, Int.reduceLE, Int.reduceAdd, Int.reduceSub, Int.reduceMul, Int.reduceNeg, Int.reduceToNat, Int.reduceEq]
        exact endK_same ⟨rfl, rfl, rfl⟩
      · simp only [go_sem, reduceCtorEq, reduceIte, Nat.reduceEqDiff, Nat.reduceAdd, Nat.reduceLeDiff, Nat.reduceMul, Int.reduceLT, Int.reduceLE, Int.reduceAdd, Int.reduceSub, Int.reduceMul, Int.reduceNeg, Int.reduceToNat, Int.reduceEq, w1]
        refine callK_same (k53 F _ v _) ?_
        simp only [go_sem, reduceCtorEq, reduceIte, Nat.reduceEqDiff, Nat.reduceAdd, Nat.reduceLeDiff, Nat.reduceMul, Int.reduceLT, Int.reduceLE, Int.reduceAdd, Int.reduceSub, Int.reduceMul, Int.reduceNeg, Int.reduceToNat, Int.reduceEq, c0, h1, c1, c2, not_false_eq_true]
        refine callK_same (k35 F _ _ _ lw.1 lw.2) ?_
        simp only [go_sem, reduceCtorEq, reduceIte, Nat.reduceEqDiff, Nat.reduceAdd, Nat.reduceLeDiff, Nat.reduceMul, Int.reduceLT, Int.reduceLE, Int.reduceAdd, Int.reduceSub, Int.reduceMul, Int.reduceNeg, Int.reduceToNat, Int.reduceEq]
        exact endK_same ⟨rfl, rfl, rfl⟩
    · have c0 : (decide (0 ≤ v) && decide (v ≤ ofW k - 1)) = false := by
        rw [Bool.and_eq_false_iff]; simp only [decide_eq_false_iff_not]; omega
      have dv : shiftK op k a u v = (0, 5) := by unfold shiftK; rw [if_pos (by omega)]
      rw [dv]
      rcases h with rfl | rfl
      · simp only [go_sem, reduceCtorEq, reduceIte, Nat.reduceEqDiff, Nat.reduceAdd, Nat.reduceLeDiff, Nat.reduceMul, Int.reduceLT, Int.reduceLE, Int.reduceAdd, Int.reduceSub, Int.reduceMul, Int.reduceNeg, Int.reduceToNat, Int.reduceEq, w1]
        refine callK_same (k53 F _ v _) ?_
        simp only [go_sem, reduceCtorEq, reduceIte, Nat.reduceEqDiff, Nat.reduceAdd, Nat.reduceLeDiff, Nat.reduceMul, Int.reduceLT, Int.reduceLE, Int.reduceAdd, Int.reduceSub, Int.reduceMul, Int.reduceNeg, Int.reduceToNat, Int.reduceEq, c0]
        exact endK_same ⟨rfl, rfl, rfl⟩
      · simp only [go_sem, reduceCtorEq, reduceIte, Nat.reduceEqDiff, Nat.reduceAdd, Nat.reduceLeDiff, Nat.reduceMul, Int.reduceLT, Int.reduceLE, Int.reduceAdd, Int.reduceSub, Int.reduceMul, Int.reduceNeg, Int.reduceToNat, Int.reduceEq, w1]
        refine callK_same (k53 F _ v _) ?_
        simp only [go_sem, reduceCtorEq, reduceIte, Nat.reduceEqDiff, Nat.reduceAdd, Nat.reduceLeDiff, Nat.reduceMul, Int.reduceLT, Int.reduceLE, Int.reduceAdd, Int.reduceSub, Int.reduceMul, Int.reduceNeg, Int.reduceToNat, Int.reduceEq, c0]
        exact endK_same ⟨rfl, rfl, rfl⟩
  · simp only [go_sem, reduceCtorEq, reduceIte, Nat.reduceEqDiff, Nat.reduceAdd, Nat.reduceLeDiff, Nat.reduceMul, Int.reduceLT, Int.reduceLE, Int.reduceAdd, Int.reduceSub, Int.reduceMul, Int.reduceNeg, Int.reduceToNat, Int.reduceEq]
    refine callK_same (k54 F _ _) ?_
    simp only [go_sem, reduceCtorEq, reduceIte, Nat.reduceEqDiff, Nat.reduceAdd, Nat.reduceLeDiff, Nat.reduceMul, Int.reduceLT, Int.reduceLE, Int.reduceAdd, Int.reduceSub, Int.reduceMul, Int.reduceNeg, Int.reduceToNat, Int.reduceEq]
    exact endK_same ⟨by simp only [pairV, twoK]; simp, rfl, rfl⟩
  · simp only [go_sem, reduceCtorEq, reduceIte, Nat.reduceEqDiff, Nat.reduceAdd, Nat.reduceLeDiff, Nat.reduceMul, Int.reduceLT, Int.reduceLE, Int.reduceAdd, Int.reduceSub, Int.reduceMul, Int.reduceNeg, Int.reduceToNat, Int.reduceEq]
    refine callK_same (k54 F _ _) ?_
    simp only [go_sem, reduceCtorEq, reduceIte, Nat.reduceEqDiff, Nat.reduceAdd, Nat.reduceLeDiff, Nat.reduceMul, Int.reduceLT, Int.reduceLE, Int.reduceAdd, Int.reduceSub, Int.reduceMul, Int.reduceNeg, Int.reduceToNat, Int.reduceEq]
    exact endK_same ⟨by simp only [pairV, twoK]; simp, rfl, rfl⟩
end Go.Proofs.Tryz.K

/- Contracts: rows of numbers searched; least and greatest; closures at corners. -/
namespace Go.Proofs.Tryz.K
open Go Go.Ax Go.Proofs.Tryz.S
set_option maxRecDepth 100000
set_option linter.unusedSimpArgs false
set_option linter.unusedVariables false
set_option maxHeartbeats 1000000
variable (F : Fz) (M : Hp)

/-- A number of a row. -/
theorem int_at {F : Fz} {M : Hp} {u : Value} {l : List Int} (h : RdG 1 intC F M u l) {i : Nat} (hi : i < l.length) : ∃ b o cap cs, u = .slice (some ⟨b, o, none⟩) l.length cap ∧ blk F M b = some cs ∧ cs[o + i]? = some (.int .i64 l[i]) := by
  obtain ⟨_, ad, cap, _, rfl, h⟩ := h
  rcases h with h | ⟨b, o, cs, rfl, hb, hc⟩
  · rw [h] at hi; simp at hi
  · have := one_row (hc i hi).2
    rw [Nat.mul_one] at this
    exact ⟨b, o, cap, cs, rfl, hb, this⟩
theorem int_shape {F : Fz} {M : Hp} {u : Value} {l : List Int} (h : RdG 1 intC F M u l) : ∃ a c, u = .slice a l.length c := by
  obtain ⟨_, ad, cap, _, rfl, h⟩ := h
  exact ⟨_, _, rfl⟩
def ixZ (l : List Int) (n : Int) (u : Value) (F0 : Fz) (M0 : Hp) (m : Nat) (σ : Env) (F : Fz) (M : Hp) : Prop :=
  F = F0 ∧ M = M0 ∧ Ax.look σ 0 = some u ∧ Ax.look σ 1 = some (.int .i64 n) ∧ Ax.look σ 7 = some (.int .i64 l.length) ∧ ∃ i : Nat, i + m = l.length ∧ Ax.look σ 8 = some (.int .i64 i) ∧ n ∉ l.take i
theorem k101 (u : Value) (l : List Int) (n : Int) (h : RdG 1 intC F M u l) :
    CallsA Tryz.prog 101 [u, .int .i64 n] F M fun r F' M' => F' = F ∧ M' = M ∧ ∃ z : Int, r = .int .i64 z ∧ (0 ≤ z ↔ n ∈ l) := by
  refine callsA_of hm Tryz.func101 e101 (Nat.le_of_ble_eq_true rfl) ?_
  have hl := h.1
  obtain ⟨a, c, hu⟩ := int_shape h
  rw [hu]
  simp only [c101, go_sem, reduceCtorEq, reduceIte, Nat.reduceEqDiff, Nat.reduceAdd, Nat.reduceLeDiff, Nat.reduceMul, Int.reduceLT, Int.reduceLE, Int.reduceAdd, Int.reduceSub, Int.reduceMul, Int.reduceNeg, Int.reduceToNat, Int.reduceEq]
  refine loop_of (ixZ l n (.slice a l.length c) F M) l.length ?_ ?_
  · exact ⟨rfl, rfl, by simp only [go_sem, reduceCtorEq, reduceIte, Nat.reduceEqDiff], by simp only [go_sem, reduceCtorEq, reduceIte, Nat.reduceEqDiff], by simp only [go_sem, reduceCtorEq, reduceIte, Nat.reduceEqDiff], 0, by omega, by simp only [go_sem, reduceCtorEq, reduceIte, Nat.reduceEqDiff] <;> rfl, by simp⟩
  rintro m σ F' M' ⟨rfl, rfl, h0, h1, h7, i, hi, h8, hn⟩
  by_cases hil : (i : Int) < l.length
  · have hi0 : (0 : Int) ≤ i := by omega
    have hil' : i < l.length := by omega
    have ei : IntKind.i64.wrap ((i : Int) + 1) = i + 1 := w64 (by omega) (by omega)
    obtain ⟨b, o, cap, cs, e, hb, hg⟩ := int_at h hil'
    rw [hu] at e
    cases e
    by_cases hq : n = l[i]
    · simp only [go_sem, reduceCtorEq, reduceIte, Nat.reduceEqDiff, Nat.reduceAdd, Nat.reduceLeDiff, Nat.reduceMul, Int.reduceLT, Int.reduceLE, Int.reduceAdd, Int.reduceSub, Int.reduceMul, Int.reduceNeg, Int.reduceToNat, Int.reduceEq, h0, h1, h7, h8, hil, hi0, Int.toNat_natCast, Nat.mul_one, hb, hg, hq]
      exact endK_same ⟨rfl, rfl, _, rfl, by rw [hq] at *; simp [hi0]⟩
    · simp only [go_sem, reduceCtorEq, reduceIte, Nat.reduceEqDiff, Nat.reduceAdd, Nat.reduceLeDiff, Nat.reduceMul, Int.reduceLT, Int.reduceLE, Int.reduceAdd, Int.reduceSub, Int.reduceMul, Int.reduceNeg, Int.reduceToNat, Int.reduceEq, h0, h1, h7, h8, hil, hi0, Int.toNat_natCast, Nat.mul_one, hb, hg, hq, ei]
      refine ⟨m - 1, by omega, rfl, rfl, by simp only [go_sem, reduceCtorEq, reduceIte, Nat.reduceEqDiff, h0], by simp only [go_sem, reduceCtorEq, reduceIte, Nat.reduceEqDiff, h1], by simp only [go_sem, reduceCtorEq, reduceIte, Nat.reduceEqDiff, h7], i + 1, by omega, by simp only [go_sem, reduceCtorEq, reduceIte, Nat.reduceEqDiff]; rfl, ?_⟩
      rw [List.take_succ_eq_append_getElem hil']
      simp only [List.mem_append, List.mem_singleton, not_or]
      exact ⟨hn, hq⟩
  · have : l.take i = l := List.take_of_length_le (by omega)
    rw [this] at hn
    simp only [go_sem, reduceCtorEq, reduceIte, Nat.reduceEqDiff, Nat.reduceAdd, Nat.reduceLeDiff, Nat.reduceMul, Int.reduceLT, Int.reduceLE, Int.reduceAdd, Int.reduceSub, Int.reduceMul, Int.reduceNeg, Int.reduceToNat, Int.reduceEq, h0, h1, h7, h8, hil]
    exact endK_same ⟨rfl, rfl, -1, rfl, by simp [hn]⟩
theorem k81 (u : Value) (l : List Int) (n : Int) (h : RdG 1 intC F M u l) :
    CallsA Tryz.prog 81 [u, .int .i64 n] F M (Same F M (.bool (decide (n ∈ l)))) := by
  refine callsA_of hm Tryz.func81 e81 (Nat.le_of_ble_eq_true rfl) ?_
  simp only [c81, go_sem, reduceCtorEq, reduceIte, Nat.reduceEqDiff, Nat.reduceAdd, Nat.reduceLeDiff, Nat.reduceMul, Int.reduceLT, Int.reduceLE, Int.reduceAdd, Int.reduceSub, Int.reduceMul, Int.reduceNeg, Int.reduceToNat, Int.reduceEq]
  refine callK_of (k101 F M u l n h) ?_
  rintro r G M' ⟨hG, rfl, z, rfl, hz⟩
  rw [hG]
  refine ⟨(fun h => by cases h), ?_⟩
  simp only [go_sem, reduceCtorEq, reduceIte, Nat.reduceEqDiff, Nat.reduceAdd, Nat.reduceLeDiff, Nat.reduceMul, Int.reduceLT, Int.reduceLE, Int.reduceAdd, Int.reduceSub, Int.reduceMul, Int.reduceNeg, Int.reduceToNat, Int.reduceEq]
  exact endK_same ⟨by simp only [hz], rfl, rfl⟩
def minI (u : Value) (l : List Int) (F0 : Fz) (M0 : Hp) (up : Bool) (m : Nat) (σ : Env) (F : Fz) (M : Hp) : Prop :=
  F = F0 ∧ M = M0 ∧ Ax.look σ 0 = some u ∧ ∃ (i : Nat) (x : Int), i + m = l.length ∧ 1 ≤ i ∧ Ax.look σ 4 = some (.int .i64 i) ∧ Ax.look σ 3 = some (.int .i64 x) ∧ x ∈ l ∧ ∀ y ∈ l.take i, if up then y ≤ x else x ≤ y
theorem k122 (u : Value) (l : List Int) (h : RdG 1 intC F M u l) (hne : 0 < l.length) :
    CallsA Tryz.prog 122 [u] F M fun r F' M' => F' = F ∧ M' = M ∧ ∃ z : Int, r = .int .i64 z ∧ z ∈ l ∧ ∀ y ∈ l, z ≤ y := by
  refine callsA_of hm Tryz.func122 e122 (Nat.le_of_ble_eq_true rfl) ?_
  have hl := h.1
  obtain ⟨a, c, hu⟩ := int_shape h
  have c1 : ¬ (l.length : Int) < 1 := by omega
  have c2 : (0 : Int) < l.length := by omega
  obtain ⟨b, o, cap, cs, e, hb, hg⟩ := int_at h hne
  rw [Nat.add_zero] at hg
  rw [e]
  simp only [c122, go_sem, reduceCtorEq, reduceIte, Nat.reduceEqDiff, Nat.reduceAdd, Nat.reduceLeDiff, Nat.reduceMul, Int.reduceLT, Int.reduceLE, Int.reduceAdd, Int.reduceSub, Int.reduceMul, Int.reduceNeg, Int.reduceToNat, Int.reduceEq, c1, c2, hb, hg, Nat.zero_mul, Nat.add_zero]
  refine loop_of (minI (.slice (some ⟨b, o, none⟩) l.length cap) l F M false) (l.length - 1) ?_ ?_
  · refine ⟨rfl, rfl, by simp only [go_sem, reduceCtorEq, reduceIte, Nat.reduceEqDiff], 1, l[0], by omega, by omega, by simp only [go_sem, reduceCtorEq, reduceIte, Nat.reduceEqDiff] <;> rfl, by simp only [go_sem, reduceCtorEq, reduceIte, Nat.reduceEqDiff], List.getElem_mem _, fun y hy => ?_⟩
    have : l.take 1 = [l[0]] := by cases l with | nil => simp at hne | cons x l => simp
    rw [this] at hy
    simp at hy
    rw [hy]; simp
  rintro m σ F' M' ⟨rfl, rfl, h0, i, x, hi, hi1, h4, h3, hx, hy⟩
  by_cases hil : (i : Int) < l.length
  · have hi0 : (0 : Int) ≤ i := by omega
    have hil' : i < l.length := by omega
    have ei : IntKind.i64.wrap ((i : Int) + 1) = i + 1 := w64 (by omega) (by omega)
    obtain ⟨b', o', cap', cs', e', hb', hg'⟩ := int_at h hil'
    rw [e] at e'
    cases e'
    have hm := mn2_le x l[i]
    simp only [go_sem, reduceCtorEq, reduceIte, Nat.reduceEqDiff, Nat.reduceAdd, Nat.reduceLeDiff, Nat.reduceMul, Int.reduceLT, Int.reduceLE, Int.reduceAdd, Int.reduceSub, Int.reduceMul, Int.reduceNeg, Int.reduceToNat, Int.reduceEq, h0, h3, h4, hil, hi0, Int.toNat_natCast, Nat.mul_one, hb', hg', minV, ei]
    refine ⟨m - 1, by omega, rfl, rfl, by simp only [go_sem, reduceCtorEq, reduceIte, Nat.reduceEqDiff, h0], i + 1, mn2 x l[i], by omega, by omega, by simp only [go_sem, reduceCtorEq, reduceIte, Nat.reduceEqDiff]; rfl, by simp only [go_sem, reduceCtorEq, reduceIte, Nat.reduceEqDiff]; rfl, ?_, fun y hy' => ?_⟩
    · rcases hm.2.2 with h | h <;> rw [h]
      · exact hx
      · exact List.getElem_mem _
    · rw [List.take_succ_eq_append_getElem hil'] at hy'
      simp only [List.mem_append, List.mem_singleton] at hy'
      simp only [Bool.false_eq_true, if_false] at hy ⊢
      rcases hy' with hy' | rfl
      · have := hy y hy'; omega
      · omega
  · have : l.take i = l := List.take_of_length_le (by omega)
    rw [this] at hy
    simp only [go_sem, reduceCtorEq, reduceIte, Nat.reduceEqDiff, Nat.reduceAdd, Nat.reduceLeDiff, Nat.reduceMul, Int.reduceLT, Int.reduceLE, Int.reduceAdd, Int.reduceSub, Int.reduceMul, Int.reduceNeg, Int.reduceToNat, Int.reduceEq, h0, h3, h4, hil]
    exact endK_same ⟨rfl, rfl, x, rfl, hx, by simpa using hy⟩
theorem k123 (u : Value) (l : List Int) (h : RdG 1 intC F M u l) (hne : 0 < l.length) :
    CallsA Tryz.prog 123 [u] F M fun r F' M' => F' = F ∧ M' = M ∧ ∃ z : Int, r = .int .i64 z ∧ z ∈ l ∧ ∀ y ∈ l, y ≤ z := by
  refine callsA_of hm Tryz.func123 e123 (Nat.le_of_ble_eq_true rfl) ?_
  have hl := h.1
  obtain ⟨a, c, hu⟩ := int_shape h
  have c1 : ¬ (l.length : Int) < 1 := by omega
  have c2 : (0 : Int) < l.length := by omega
  obtain ⟨b, o, cap, cs, e, hb, hg⟩ := int_at h hne
  rw [Nat.add_zero] at hg
  rw [e]
  simp only [c123, go_sem, reduceCtorEq, reduceIte, Nat.reduceEqDiff, Nat.reduceAdd, Nat.reduceLeDiff, Nat.reduceMul, Int.reduceLT, Int.reduceLE, Int.reduceAdd, Int.reduceSub, Int.reduceMul, Int.reduceNeg, Int.reduceToNat, Int.reduceEq, c1, c2, hb, hg, Nat.zero_mul, Nat.add_zero]
  refine loop_of (minI (.slice (some ⟨b, o, none⟩) l.length cap) l F M true) (l.length - 1) ?_ ?_
  · refine ⟨rfl, rfl, by simp only [go_sem, reduceCtorEq, reduceIte, Nat.reduceEqDiff], 1, l[0], by omega, by omega, by simp only [go_sem, reduceCtorEq, reduceIte, Nat.reduceEqDiff] <;> rfl, by simp only [go_sem, reduceCtorEq, reduceIte, Nat.reduceEqDiff], List.getElem_mem _, fun y hy => ?_⟩
    have : l.take 1 = [l[0]] := by cases l with | nil => simp at hne | cons x l => simp
    rw [this] at hy
    simp at hy
    rw [hy]; simp
  rintro m σ F' M' ⟨rfl, rfl, h0, i, x, hi, hi1, h4, h3, hx, hy⟩
  by_cases hil : (i : Int) < l.length
  · have hi0 : (0 : Int) ≤ i := by omega
    have hil' : i < l.length := by omega
    have ei : IntKind.i64.wrap ((i : Int) + 1) = i + 1 := w64 (by omega) (by omega)
    obtain ⟨b', o', cap', cs', e', hb', hg'⟩ := int_at h hil'
    rw [e] at e'
    cases e'
    have hm := mx_le x l[i]
    simp only [go_sem, reduceCtorEq, reduceIte, Nat.reduceEqDiff, Nat.reduceAdd, Nat.reduceLeDiff, Nat.reduceMul, Int.reduceLT, Int.reduceLE, Int.reduceAdd, Int.reduceSub, Int.reduceMul, Int.reduceNeg, Int.reduceToNat, Int.reduceEq, h0, h3, h4, hil, hi0, Int.toNat_natCast, Nat.mul_one, hb', hg', maxV, ei]
    refine ⟨m - 1, by omega, rfl, rfl, by simp only [go_sem, reduceCtorEq, reduceIte, Nat.reduceEqDiff, h0], i + 1, mx x l[i], by omega, by omega, by simp only [go_sem, reduceCtorEq, reduceIte, Nat.reduceEqDiff]; rfl, by simp only [go_sem, reduceCtorEq, reduceIte, Nat.reduceEqDiff]; rfl, ?_, fun y hy' => ?_⟩
    · rcases hm.2.2 with h | h <;> rw [h]
      · exact hx
      · exact List.getElem_mem _
    · rw [List.take_succ_eq_append_getElem hil'] at hy'
      simp only [List.mem_append, List.mem_singleton] at hy'
      simp only [if_true] at hy ⊢
      rcases hy' with hy' | rfl
      · have := hy y hy'; omega
      · omega
  · have : l.take i = l := List.take_of_length_le (by omega)
    rw [this] at hy
    simp only [go_sem, reduceCtorEq, reduceIte, Nat.reduceEqDiff, Nat.reduceAdd, Nat.reduceLeDiff, Nat.reduceMul, Int.reduceLT, Int.reduceLE, Int.reduceAdd, Int.reduceSub, Int.reduceMul, Int.reduceNeg, Int.reduceToNat, Int.reduceEq, h0, h3, h4, hil]
    exact endK_same ⟨rfl, rfl, x, rfl, hx, by simpa using hy⟩
theorem k130 (x : Int) : CallsA Tryz.prog 130 [.int .i64 x] F M (Same F M (.bool false)) := by
  refine callsA_of hm Tryz.func130 e130 (Nat.le_of_ble_eq_true rfl) ?_
  simp only [c130, go_sem, reduceCtorEq, reduceIte, Nat.reduceEqDiff, Nat.reduceAdd, Nat.reduceLeDiff, Nat.reduceMul, Int.reduceLT, Int.reduceLE, Int.reduceAdd, Int.reduceSub, Int.reduceMul, Int.reduceNeg, Int.reduceToNat, Int.reduceEq]
  exact endK_same ⟨by simp, rfl, rfl⟩
theorem k117 (x y : Int) : CallsA Tryz.prog 117 [.int .i64 x, .int .i64 y] F M (Same F M (.bool (decide (x < y)))) := by
  refine callsA_of hm Tryz.func117 e117 (Nat.le_of_ble_eq_true rfl) ?_
  simp only [c117, go_sem, reduceCtorEq, reduceIte, Nat.reduceEqDiff, Nat.reduceAdd, Nat.reduceLeDiff, Nat.reduceMul, Int.reduceLT, Int.reduceLE, Int.reduceAdd, Int.reduceSub, Int.reduceMul, Int.reduceNeg, Int.reduceToNat, Int.reduceEq]
  refine callK_same (k130 F M x) ?_
  simp only [go_sem, reduceCtorEq, reduceIte, Nat.reduceEqDiff, Nat.reduceAdd, Nat.reduceLeDiff, Nat.reduceMul, Int.reduceLT, Int.reduceLE, Int.reduceAdd, Int.reduceSub, Int.reduceMul, Int.reduceNeg, Int.reduceToNat, Int.reduceEq]
  exact endK_same ⟨rfl, rfl, rfl⟩
end Go.Proofs.Tryz.K

/- Contracts: what a closure tells of all ends; short rows are sorted. -/
namespace Go.Proofs.Tryz.K
open Go Go.Ax Go.Proofs.Tryz.S
set_option maxRecDepth 100000
set_option linter.unusedSimpArgs false
set_option linter.unusedVariables false
set_option maxHeartbeats 1000000
variable (F : Fz) (M : Hp)

def fourC (a b c d : Int) : List Value := [.int .i64 a, .int .i64 b, .int .i64 c, .int .i64 d]
def fourV (a b c d : Int) : Value := .agg (fourC a b c d).toArray
theorem k105 (a b c d : Int) (g : Nat) (f : Int → Int → Int) (hg : ∀ M x y, (x = a ∨ x = b) → (y = c ∨ y = d) → CallsA Tryz.prog g [.int .i64 x, .int .i64 y] F M (Same F M (.int .i64 (f x y)))) :
    CallsA Tryz.prog 105 [fourV a b c d, .func (.func g) #[] #[]] F M fun r F' M' => F' = F ∧ M' = M ∧ ∃ lo hi : Int, r = .tuple #[.int .i64 lo, .int .i64 hi] ∧
      (lo ≤ f a c ∧ lo ≤ f a d ∧ lo ≤ f b c ∧ lo ≤ f b d) ∧ (f a c ≤ hi ∧ f a d ≤ hi ∧ f b c ≤ hi ∧ f b d ≤ hi) ∧ (lo = f a c ∨ lo = f a d ∨ lo = f b c ∨ lo = f b d) ∧ (hi = f a c ∨ hi = f a d ∨ hi = f b c ∨ hi = f b d) := by
  refine callsA_of hm Tryz.func105 e105 (Nat.le_of_ble_eq_true rfl) ?_
  simp only [fourV, fourC, c105, go_sem, reduceCtorEq, reduceIte, Nat.reduceEqDiff, Nat.reduceAdd, Nat.reduceLeDiff, Nat.reduceMul, Int.reduceLT, Int.reduceLE, Int.reduceAdd, Int.reduceSub, Int.reduceMul, Int.reduceNeg, Int.reduceToNat, Int.reduceEq]
  intro r2 hF2 hM2
  simp only [go_sem, reduceCtorEq, reduceIte, Nat.reduceEqDiff, Nat.reduceAdd, Nat.reduceLeDiff, Nat.reduceMul, Int.reduceLT, Int.reduceLE, Int.reduceAdd, Int.reduceSub, Int.reduceMul, Int.reduceNeg, Int.reduceToNat, Int.reduceEq]
  refine callK_same (hg _ a c (.inl rfl) (.inl rfl)) ?_
  simp only [go_sem, reduceCtorEq, reduceIte, Nat.reduceEqDiff, Nat.reduceAdd, Nat.reduceLeDiff, Nat.reduceMul, Int.reduceLT, Int.reduceLE, Int.reduceAdd, Int.reduceSub, Int.reduceMul, Int.reduceNeg, Int.reduceToNat, Int.reduceEq]
  refine callK_same (hg _ a d (.inl rfl) (.inr rfl)) ?_
  simp only [go_sem, reduceCtorEq, reduceIte, Nat.reduceEqDiff, Nat.reduceAdd, Nat.reduceLeDiff, Nat.reduceMul, Int.reduceLT, Int.reduceLE, Int.reduceAdd, Int.reduceSub, Int.reduceMul, Int.reduceNeg, Int.reduceToNat, Int.reduceEq]
  refine callK_same (hg _ b c (.inr rfl) (.inl rfl)) ?_
  simp only [go_sem, reduceCtorEq, reduceIte, Nat.reduceEqDiff, Nat.reduceAdd, Nat.reduceLeDiff, Nat.reduceMul, Int.reduceLT, Int.reduceLE, Int.reduceAdd, Int.reduceSub, Int.reduceMul, Int.reduceNeg, Int.reduceToNat, Int.reduceEq]
  refine callK_same (hg _ b d (.inr rfl) (.inr rfl)) ?_
  simp only [go_sem, reduceCtorEq, reduceIte, Nat.reduceEqDiff, Nat.reduceAdd, Nat.reduceLeDiff, Nat.reduceMul, Int.reduceLT, Int.reduceLE, Int.reduceAdd, Int.reduceSub, Int.reduceMul, Int.reduceNeg, Int.reduceToNat, Int.reduceEq]
  intro r31 hF31 hM31
  have g31 := fresh_of hM31
  generalize f a c = x1
  generalize f a d = x2
  generalize f b c = x3
  generalize f b d = x4
  have rd : RdG 1 intC F ((M.upd r2 ⟨[.int .i64 a, .int .i64 b, .int .i64 c, .int .i64 d], 87, 4⟩).upd r31 ⟨[.int .i64 x1, .int .i64 x2, .int .i64 x3, .int .i64 x4], 3, 4⟩) (.slice (some ⟨r31, 0, none⟩) 4 4) [x1, x2, x3, x4] :=
    rdG_flat (l := [x1, x2, x3, x4]) intC_len (by simp) (by simp) blk_upd_same
  simp only [go_sem, reduceCtorEq, reduceIte, Nat.reduceEqDiff, Nat.reduceAdd, Nat.reduceLeDiff, Nat.reduceMul, Int.reduceLT, Int.reduceLE, Int.reduceAdd, Int.reduceSub, Int.reduceMul, Int.reduceNeg, Int.reduceToNat, Int.reduceEq, g31]
  refine callK_of (k122 _ _ _ [x1, x2, x3, x4] rd (by simp)) ?_
  rintro r G M' ⟨hG, rfl, lo, rfl, lo1, lo2⟩
  rw [hG]
  refine ⟨(fun h => by cases h), ?_⟩
  simp only [go_sem, reduceCtorEq, reduceIte, Nat.reduceEqDiff, Nat.reduceAdd, Nat.reduceLeDiff, Nat.reduceMul, Int.reduceLT, Int.reduceLE, Int.reduceAdd, Int.reduceSub, Int.reduceMul, Int.reduceNeg, Int.reduceToNat, Int.reduceEq, g31]
  refine callK_of (k123 _ _ _ [x1, x2, x3, x4] rd (by simp)) ?_
  rintro r G M' ⟨hG, rfl, hi, rfl, hi1, hi2⟩
  rw [hG]
  refine ⟨(fun h => by cases h), ?_⟩
  simp only [go_sem, reduceCtorEq, reduceIte, Nat.reduceEqDiff, Nat.reduceAdd, Nat.reduceLeDiff, Nat.reduceMul, Int.reduceLT, Int.reduceLE, Int.reduceAdd, Int.reduceSub, Int.reduceMul, Int.reduceNeg, Int.reduceToNat, Int.reduceEq, g31]
  simp at lo1 lo2 hi1 hi2
  exact endK_drop hM31 (endK_drop hM2 (endK_same ⟨rfl, rfl, lo, hi, rfl, ⟨lo2.1, lo2.2.1, lo2.2.2.1, lo2.2.2.2⟩, ⟨hi2.1, hi2.2.1, hi2.2.2.1, hi2.2.2.2⟩, lo1, hi1⟩))
theorem k121 (n : Int) (h0 : 0 ≤ n) (h1 : n ≤ 2) : CallsA Tryz.prog 121 [.int .u64 n] F M fun r F' M' => F' = F ∧ M' = M ∧ ∃ z : Int, r = .int .i64 z := by
  refine callsA_of hm Tryz.func121 e121 (Nat.le_of_ble_eq_true rfl) ?_
  have w0 : IntKind.u8.wrap 0 = 0 := by decide
  have w1 : IntKind.u8.wrap 1 = 1 := by decide
  have w2 : IntKind.u8.wrap 2 = 2 := by decide
  rcases (show n = 0 ∨ n = 1 ∨ n = 2 by omega) with rfl | rfl | rfl
  · simp only [c121, go_sem, reduceCtorEq, reduceIte, Nat.reduceEqDiff, Nat.reduceAdd, Nat.reduceLeDiff, Nat.reduceMul, Int.reduceLT, Int.reduceLE, Int.reduceAdd, Int.reduceSub, Int.reduceMul, Int.reduceNeg, Int.reduceToNat, Int.reduceEq, w0]
    show oK Tryz.prog false (some 22) _ _ _ F M (some (Value.int IntKind.u8 0))
    simp only [go_sem, reduceCtorEq, reduceIte, Nat.reduceEqDiff, Nat.reduceAdd, Nat.reduceLeDiff, Nat.reduceMul, Int.reduceLT, Int.reduceLE, Int.reduceAdd, Int.reduceSub, Int.reduceMul, Int.reduceNeg, Int.reduceToNat, Int.reduceEq]
    exact endK_same ⟨rfl, rfl, _, rfl⟩
  · simp only [c121, go_sem, reduceCtorEq, reduceIte, Nat.reduceEqDiff, Nat.reduceAdd, Nat.reduceLeDiff, Nat.reduceMul, Int.reduceLT, Int.reduceLE, Int.reduceAdd, Int.reduceSub, Int.reduceMul, Int.reduceNeg, Int.reduceToNat, Int.reduceEq, w1]
    show oK Tryz.prog false (some 22) _ _ _ F M (some (Value.int IntKind.u8 1))
    simp only [go_sem, reduceCtorEq, reduceIte, Nat.reduceEqDiff, Nat.reduceAdd, Nat.reduceLeDiff, Nat.reduceMul, Int.reduceLT, Int.reduceLE, Int.reduceAdd, Int.reduceSub, Int.reduceMul, Int.reduceNeg, Int.reduceToNat, Int.reduceEq]
    exact endK_same ⟨rfl, rfl, _, rfl⟩
  · simp only [c121, go_sem, reduceCtorEq, reduceIte, Nat.reduceEqDiff, Nat.reduceAdd, Nat.reduceLeDiff, Nat.reduceMul, Int.reduceLT, Int.reduceLE, Int.reduceAdd, Int.reduceSub, Int.reduceMul, Int.reduceNeg, Int.reduceToNat, Int.reduceEq, w2]
    show oK Tryz.prog false (some 22) _ _ _ F M (some (Value.int IntKind.u8 2))
    simp only [go_sem, reduceCtorEq, reduceIte, Nat.reduceEqDiff, Nat.reduceAdd, Nat.reduceLeDiff, Nat.reduceMul, Int.reduceLT, Int.reduceLE, Int.reduceAdd, Int.reduceSub, Int.reduceMul, Int.reduceNeg, Int.reduceToNat, Int.reduceEq]
    exact endK_same ⟨rfl, rfl, _, rfl⟩
theorem k103 (n : Int) (h0 : 0 ≤ n) (h1 : n ≤ 2) : CallsA Tryz.prog 103 [.int .u64 n] F M fun r F' M' => F' = F ∧ M' = M ∧ ∃ z : Int, r = .int .i64 z := by
  refine callsA_of hm Tryz.func103 e103 (Nat.le_of_ble_eq_true rfl) ?_
  simp only [c103, go_sem, reduceCtorEq, reduceIte, Nat.reduceEqDiff, Nat.reduceAdd, Nat.reduceLeDiff, Nat.reduceMul, Int.reduceLT, Int.reduceLE, Int.reduceAdd, Int.reduceSub, Int.reduceMul, Int.reduceNeg, Int.reduceToNat, Int.reduceEq]
  refine callK_of (k121 F M n h0 h1) ?_
  rintro r G M' ⟨hG, rfl, z, rfl⟩
  rw [hG]
  refine ⟨(fun h => by cases h), ?_⟩
  simp only [go_sem, reduceCtorEq, reduceIte, Nat.reduceEqDiff, Nat.reduceAdd, Nat.reduceLeDiff, Nat.reduceMul, Int.reduceLT, Int.reduceLE, Int.reduceAdd, Int.reduceSub, Int.reduceMul, Int.reduceNeg, Int.reduceToNat, Int.reduceEq]
  exact endK_same ⟨rfl, rfl, _, rfl⟩
/-- The row of two, its lesser one first. -/
def srt (x y : Int) : List Int := if y < x then [y, x] else [x, y]
def srtC (x y : Int) : List Value := if y < x then [.int .i64 y, .int .i64 x] else [.int .i64 x, .int .i64 y]
theorem srtC_eq (x y : Int) : srtC x y = (srt x y).flatMap intC := by
  unfold srtC srt; split <;> rfl
def insO (g cap : Nat) (e : Ent) (x y : Int) (F0 : Fz) (M0 : Hp) (m : Nat) (σ : Env) (F : Fz) (M : Hp) : Prop :=
  F = F0 ∧ Ax.look σ 0 = some (.slice (some ⟨g, 0, none⟩) 2 cap) ∧ Ax.look σ 1 = some (.int .i64 0) ∧ Ax.look σ 2 = some (.int .i64 2) ∧
    ((m = 1 ∧ M = M0.upd g ⟨[.int .i64 x, .int .i64 y], e.elem, e.size⟩ ∧ Ax.look σ 6 = some (.int .i64 1)) ∨ (m = 0 ∧ M = M0.upd g ⟨srtC x y, e.elem, e.size⟩ ∧ Ax.look σ 6 = some (.int .i64 2)))
def insI (g cap : Nat) (e : Ent) (x y : Int) (F0 : Fz) (M0 : Hp) (m : Nat) (σ : Env) (F : Fz) (M : Hp) : Prop :=
  F = F0 ∧ Ax.look σ 0 = some (.slice (some ⟨g, 0, none⟩) 2 cap) ∧ Ax.look σ 1 = some (.int .i64 0) ∧ Ax.look σ 2 = some (.int .i64 2) ∧ Ax.look σ 6 = some (.int .i64 1) ∧
    ((m = 1 ∧ M = M0.upd g ⟨[.int .i64 x, .int .i64 y], e.elem, e.size⟩ ∧ Ax.look σ 7 = some (.int .i64 1)) ∨ (m = 0 ∧ M = M0.upd g ⟨srtC x y, e.elem, e.size⟩ ∧ Ax.look σ 7 = some (.int .i64 0)))
theorem k111two (g cap : Nat) (x y : Int) (e : Ent) (hg : M g = some ⟨[.int .i64 x, .int .i64 y], e.elem, e.size⟩) :
    CallsA Tryz.prog 111 [.slice (some ⟨g, 0, none⟩) 2 cap, .int .i64 0, .int .i64 2] F M fun r F' M' => F' = F ∧ M' = M.upd g ⟨srtC x y, e.elem, e.size⟩ := by
  refine callsA_of hm Tryz.func111 e111 (Nat.le_of_ble_eq_true rfl) ?_
  have hM : M = M.upd g ⟨[.int .i64 x, .int .i64 y], e.elem, e.size⟩ := by
    funext b
    by_cases hb : b = g
    · subst hb; rw [Hp.upd_same]; exact hg
    · rw [Hp.upd_ne' hb]
  simp only [c111, go_sem, reduceCtorEq, reduceIte, Nat.reduceEqDiff, Nat.reduceAdd, Nat.reduceLeDiff, Nat.reduceMul, Int.reduceLT, Int.reduceLE, Int.reduceAdd, Int.reduceSub, Int.reduceMul, Int.reduceNeg, Int.reduceToNat, Int.reduceEq]
  refine loop_of (insO g cap e x y F M) 1 ?_ ?_
  · exact ⟨rfl, by simp only [go_sem, reduceCtorEq, reduceIte, Nat.reduceEqDiff], by simp only [go_sem, reduceCtorEq, reduceIte, Nat.reduceEqDiff], by simp only [go_sem, reduceCtorEq, reduceIte, Nat.reduceEqDiff], .inl ⟨rfl, hM, by simp only [go_sem, reduceCtorEq, reduceIte, Nat.reduceEqDiff] <;> rfl⟩⟩
  rintro m σ F' M' ⟨rfl, h0, h1, h2, ⟨rfl, rfl, h6⟩ | ⟨rfl, rfl, h6⟩⟩
  rotate_left
  · simp only [go_sem, reduceCtorEq, reduceIte, Nat.reduceEqDiff, Nat.reduceAdd, Nat.reduceLeDiff, Nat.reduceMul, Int.reduceLT, Int.reduceLE, Int.reduceAdd, Int.reduceSub, Int.reduceMul, Int.reduceNeg, Int.reduceToNat, Int.reduceEq, h0, h1, h2, h6]
    exact endK_same ⟨rfl, rfl⟩
  simp only [go_sem, reduceCtorEq, reduceIte, Nat.reduceEqDiff, Nat.reduceAdd, Nat.reduceLeDiff, Nat.reduceMul, Int.reduceLT, Int.reduceLE, Int.reduceAdd, Int.reduceSub, Int.reduceMul, Int.reduceNeg, Int.reduceToNat, Int.reduceEq, h0, h1, h2, h6]
  refine loop_of (insI g cap e x y F' M) 1 ?_ ?_
  · exact ⟨rfl, by simp only [go_sem, reduceCtorEq, reduceIte, Nat.reduceEqDiff, h0], by simp only [go_sem, reduceCtorEq, reduceIte, Nat.reduceEqDiff, h1], by simp only [go_sem, reduceCtorEq, reduceIte, Nat.reduceEqDiff, h2], by simp only [go_sem, reduceCtorEq, reduceIte, Nat.reduceEqDiff, h6], .inl ⟨rfl, rfl, by simp only [go_sem, reduceCtorEq, reduceIte, Nat.reduceEqDiff]⟩⟩
  clear h0 h1 h2 h6
  rintro m σ F'' M' ⟨rfl, h0, h1, h2, h6, ⟨rfl, rfl, h7⟩ | ⟨rfl, rfl, h7⟩⟩
  rotate_left
  · simp only [go_sem, reduceCtorEq, reduceIte, Nat.reduceEqDiff, Nat.reduceAdd, Nat.reduceLeDiff, Nat.reduceMul, Int.reduceLT, Int.reduceLE, Int.reduceAdd, Int.reduceSub, Int.reduceMul, Int.reduceNeg, Int.reduceToNat, Int.reduceEq, h0, h1, h2, h6, h7]
    exact ⟨0, by omega, rfl, by simp only [go_sem, reduceCtorEq, reduceIte, Nat.reduceEqDiff, h0], by simp only [go_sem, reduceCtorEq, reduceIte, Nat.reduceEqDiff, h1], by simp only [go_sem, reduceCtorEq, reduceIte, Nat.reduceEqDiff, h2], .inr ⟨rfl, rfl, by simp only [go_sem, reduceCtorEq, reduceIte, Nat.reduceEqDiff]⟩⟩
  simp only [go_sem, reduceCtorEq, reduceIte, Nat.reduceEqDiff, Nat.reduceAdd, Nat.reduceLeDiff, Nat.reduceMul, Int.reduceLT, Int.reduceLE, Int.reduceAdd, Int.reduceSub, Int.reduceMul, Int.reduceNeg, Int.reduceToNat, Int.reduceEq, h0, h1, h2, h6, h7]
  refine callK_same (k117 _ _ y x) ?_
  by_cases hlt : y < x
  · have e : srtC x y = [.int .i64 y, .int .i64 x] := by unfold srtC; rw [if_pos hlt]
    simp only [go_sem, reduceCtorEq, reduceIte, Nat.reduceEqDiff, Nat.reduceAdd, Nat.reduceLeDiff, Nat.reduceMul, Int.reduceLT, Int.reduceLE, Int.reduceAdd, Int.reduceSub, Int.reduceMul, Int.reduceNeg, Int.reduceToNat, Int.reduceEq, h0, h1, h2, h6, h7, hlt]
    exact ⟨0, by omega, rfl, by simp only [go_sem, reduceCtorEq, reduceIte, Nat.reduceEqDiff, h0], by simp only [go_sem, reduceCtorEq, reduceIte, Nat.reduceEqDiff, h1], by simp only [go_sem, reduceCtorEq, reduceIte, Nat.reduceEqDiff, h2], by simp only [go_sem, reduceCtorEq, reduceIte, Nat.reduceEqDiff, h6], .inr ⟨rfl, by rw [e], by simp only [go_sem, reduceCtorEq, reduceIte, Nat.reduceEqDiff]⟩⟩
  · have e : srtC x y = [.int .i64 x, .int .i64 y] := by unfold srtC; rw [if_neg hlt]
    simp only [go_sem, reduceCtorEq, reduceIte, Nat.reduceEqDiff, Nat.reduceAdd, Nat.reduceLeDiff, Nat.reduceMul, Int.reduceLT, Int.reduceLE, Int.reduceAdd, Int.reduceSub, Int.reduceMul, Int.reduceNeg, Int.reduceToNat, Int.reduceEq, h0, h1, h2, h6, h7, hlt]
    exact ⟨0, by omega, rfl, by simp only [go_sem, reduceCtorEq, reduceIte, Nat.reduceEqDiff, h0], by simp only [go_sem, reduceCtorEq, reduceIte, Nat.reduceEqDiff, h1], by simp only [go_sem, reduceCtorEq, reduceIte, Nat.reduceEqDiff, h2], .inr ⟨rfl, by rw [e], by simp only [go_sem, reduceCtorEq, reduceIte, Nat.reduceEqDiff]⟩⟩
theorem k111few (u : Value) (n : Int) (h : n ≤ 1) : CallsA Tryz.prog 111 [u, .int .i64 0, .int .i64 n] F M fun r F' M' => F' = F ∧ M' = M := by
  refine callsA_of hm Tryz.func111 e111 (Nat.le_of_ble_eq_true rfl) ?_
  have h1 : ¬ 1 < n := by omega
  simp only [c111, go_sem, reduceCtorEq, reduceIte, Nat.reduceEqDiff, Nat.reduceAdd, Nat.reduceLeDiff, Nat.reduceMul, Int.reduceLT, Int.reduceLE, Int.reduceAdd, Int.reduceSub, Int.reduceMul, Int.reduceNeg, Int.reduceToNat, Int.reduceEq]
  refine loop_of (fun _ σ F' M' => F' = F ∧ M' = M ∧ Ax.look σ 2 = some (.int .i64 n) ∧ Ax.look σ 6 = some (.int .i64 1)) 1 ?_ ?_
  · exact ⟨rfl, rfl, by simp only [go_sem, reduceCtorEq, reduceIte, Nat.reduceEqDiff], by simp only [go_sem, reduceCtorEq, reduceIte, Nat.reduceEqDiff]⟩
  rintro m σ F' M' ⟨rfl, rfl, h2, h6⟩
  simp only [go_sem, reduceCtorEq, reduceIte, Nat.reduceEqDiff, Nat.reduceAdd, Nat.reduceLeDiff, Nat.reduceMul, Int.reduceLT, Int.reduceLE, Int.reduceAdd, Int.reduceSub, Int.reduceMul, Int.reduceNeg, Int.reduceToNat, Int.reduceEq, h2, h6, h1]
  exact endK_same ⟨rfl, rfl⟩
/-- What sorting leaves. -/
def sortP (u : Value) (l : List Int) (F : Fz) (M : Hp) (_ : Value) (F' : Fz) (M' : Hp) : Prop :=
  F' = F ∧ ((l.length ≤ 1 ∧ M' = M) ∨ ∃ g cap x y n, l = [x, y] ∧ u = .slice (some ⟨g, 0, none⟩) 2 cap ∧ M g = some ⟨[x, y].flatMap intC, 3, n⟩ ∧ M' = M.upd g ⟨(srt x y).flatMap intC, 3, n⟩)
theorem sort_ins (u : Value) (l : List Int) (h : OwnG 1 intC 3 F M u l) (hl : l.length ≤ 2) : CallsA Tryz.prog 111 [u, .int .i64 0, .int .i64 l.length] F M (sortP u l F M) := by
  by_cases h1 : l.length ≤ 1
  · exact (k111few F M u l.length (by omega)).mono fun _ _ _ hh => ⟨hh.1, .inl ⟨h1, hh.2⟩⟩
  · match l, h, hl, h1 with
    | [], _, _, h1 => simp at h1
    | [_], _, _, h1 => simp at h1
    | [x, y], h, _, _ =>
      rcases h with ⟨_, h⟩ | ⟨g, cap, rfl, hF, hM, _⟩
      · cases h
      · refine (k111two F M g cap x y ⟨[], 3, cap * 1⟩ hM).mono fun _ _ _ hh => ⟨hh.1, .inr ⟨g, cap, x, y, cap * 1, rfl, rfl, hM, ?_⟩⟩
        rw [hh.2, srtC_eq]
    | _ :: _ :: _ :: _, _, hl, _ => simp at hl
theorem k102 (u : Value) (l : List Int) (z : Int) (h : OwnG 1 intC 3 F M u l) (hl : l.length ≤ 2) : CallsA Tryz.prog 102 [u, .int .i64 0, .int .i64 l.length, .int .i64 z] F M (sortP u l F M) := by
  refine callsA_of hm Tryz.func102 e102 (Nat.le_of_ble_eq_true rfl) ?_
  have e1 : IntKind.i64.wrap ((l.length : Int) - 0) = l.length := by rw [Int.sub_zero]; exact w64 (by omega) (by omega)
  have e2 : IntKind.i64.wrap (l.length : Int) = l.length := w64 (by omega) (by omega)
  have h12 : (l.length : Int) ≤ 12 := by omega
  simp only [c102, go_sem, reduceCtorEq, reduceIte, Nat.reduceEqDiff, Nat.reduceAdd, Nat.reduceLeDiff, Nat.reduceMul, Int.reduceLT, Int.reduceLE, Int.reduceAdd, Int.reduceSub, Int.reduceMul, Int.reduceNeg, Int.reduceToNat, Int.reduceEq]
  refine loop_of (fun _ σ F' M' => F' = F ∧ M' = M ∧ Ax.look σ 0 = some u ∧ Ax.look σ 1 = some (.int .i64 0) ∧ Ax.look σ 2 = some (.int .i64 l.length)) 1 ?_ ?_
  · exact ⟨rfl, rfl, by simp only [go_sem, reduceCtorEq, reduceIte, Nat.reduceEqDiff], by simp only [go_sem, reduceCtorEq, reduceIte, Nat.reduceEqDiff], by simp only [go_sem, reduceCtorEq, reduceIte, Nat.reduceEqDiff]⟩
  rintro m σ F' M' ⟨rfl, rfl, h0, h1, h2⟩
  simp only [go_sem, reduceCtorEq, reduceIte, Nat.reduceEqDiff, Nat.reduceAdd, Nat.reduceLeDiff, Nat.reduceMul, Int.reduceLT, Int.reduceLE, Int.reduceAdd, Int.reduceSub, Int.reduceMul, Int.reduceNeg, Int.reduceToNat, Int.reduceEq, h0, h1, h2, e1, e2, h12, Int.sub_zero]
  refine callK_of (sort_ins F' M' u l h hl) ?_
  rintro r G M2 hh
  have hG := hh.1
  rw [hG] at hh ⊢
  refine ⟨(fun h => by cases h), ?_⟩
  simp only [go_sem, reduceCtorEq, reduceIte, Nat.reduceEqDiff, Nat.reduceAdd, Nat.reduceLeDiff, Nat.reduceMul, Int.reduceLT, Int.reduceLE, Int.reduceAdd, Int.reduceSub, Int.reduceMul, Int.reduceNeg, Int.reduceToNat, Int.reduceEq]
  exact endK_same hh
theorem k86 (u : Value) (l : List Int) (h : OwnG 1 intC 3 F M u l) (hl : l.length ≤ 2) : CallsA Tryz.prog 86 [u] F M (sortP u l F M) := by
  refine callsA_of hm Tryz.func86 e86 (Nat.le_of_ble_eq_true rfl) ?_
  have hs : ∃ a c, u = .slice a l.length c := by
    rcases h with ⟨h1, h2⟩ | ⟨g, cap, h1, _⟩
    · exact ⟨none, 0, by rw [h1, h2]; rfl⟩
    · exact ⟨_, cap, h1⟩
  obtain ⟨a, c, hu⟩ := hs
  rw [hu] at h ⊢
  have c1 : IntKind.u64.wrap (l.length : Int) = l.length := u64_in (by omega) (by omega)
  simp only [c86, go_sem, reduceCtorEq, reduceIte, Nat.reduceEqDiff, Nat.reduceAdd, Nat.reduceLeDiff, Nat.reduceMul, Int.reduceLT, Int.reduceLE, Int.reduceAdd, Int.reduceSub, Int.reduceMul, Int.reduceNeg, Int.reduceToNat, Int.reduceEq, c1]
  refine callK_of (k103 F M (l.length : Int) (by omega) (by omega)) ?_
  rintro r G M' ⟨hG, rfl, z, rfl⟩
  rw [hG]
  refine ⟨(fun h => by cases h), ?_⟩
  simp only [go_sem, reduceCtorEq, reduceIte, Nat.reduceEqDiff, Nat.reduceAdd, Nat.reduceLeDiff, Nat.reduceMul, Int.reduceLT, Int.reduceLE, Int.reduceAdd, Int.reduceSub, Int.reduceMul, Int.reduceNeg, Int.reduceToNat, Int.reduceEq]
  refine callK_of (k102 F M' _ l z h hl) ?_
  rintro r G M2 hh
  have hG := hh.1
  rw [hG] at hh ⊢
  refine ⟨(fun h => by cases h), ?_⟩
  simp only [go_sem, reduceCtorEq, reduceIte, Nat.reduceEqDiff, Nat.reduceAdd, Nat.reduceLeDiff, Nat.reduceMul, Int.reduceLT, Int.reduceLE, Int.reduceAdd, Int.reduceSub, Int.reduceMul, Int.reduceNeg, Int.reduceToNat, Int.reduceEq]
  exact endK_same hh
theorem srt_perm (x y : Int) : (srt x y).Perm [x, y] := by
  unfold srt; split
  · exact List.Perm.swap _ _ _
  · exact List.Perm.refl _
theorem srt_rise {x y : Int} (h : [x, y].Nodup) : (srt x y).Pairwise (· < ·) := by
  simp at h
  unfold srt; split
  · rename_i h1; simp [h1]
  · rename_i h1; simp; omega
end Go.Proofs.Tryz.K
