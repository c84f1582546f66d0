/- Parts K25to29: the machine's runs of small codes, contracts of functions, plain facts. -/
import Derived.Test.YtmaclakgkllojaaProg
import Derived.Test.YtmaclakgkllojaaK20to24
namespace Go.Proofs.Try.S
open Go Go.Ax Go.Ax.N
set_option maxRecDepth 100000

/-- cellar/filter.Zero -/
def c35 : SF := ⟨13, [.c true 6 4, .t 5], (.seq (.ops [k 2 (.bx 34 (t 0)),
 k 4 (.al 34 [.int .i64 0, .bool false, .int .i64 0, .int .i64 0, .int .i64 0, .int .i64 0]),
 o 5 (.mv (i 0))])
 (.seq (.seq (.ops [o 6 (.ld true 6 (t 2)),
 k 7 (.ca (.func 74) [(t 6)]),
 o 8 (.un .not (t 7))])
 (.cond (t 8)
 (.seq (.ops [o 9 (.bd [.int .i64 0, .bool false, .int .i64 0, .int .i64 0, .int .i64 0, .int .i64 0] []),
 kn (.st [] 6 (t 4) (t 9)),
 o 5 (.mv (i 1))])
 .ret)
 .skip))
 (.seq (.ops [o 10 (.ld true 6 (t 2)),
 o 11 (.mv (t 1)),
 k 12 (.ca (.func 75) [(t 10), (t 11)]),
 kn (.st [] 6 (t 4) (t 12)),
 o 5 (.mv (i 0))])
 .ret)))⟩
theorem e35 : slimF Try.prog Try.f35 [] = some c35 := by kernel_rfl
/-- cellar/cellarlaw5.num -/
def c37 : SF := ⟨4, [.t 2], (.seq (.ops [o 2 (.mv (i 0))])
 (.seq (.ops [o 3 (.mv (t 0)),
 o 2 (.mv (t 3))])
 .ret))⟩
theorem e37 : slimF Try.prog Try.f37 [] = some c37 := by kernel_rfl
/-- cellar/cellarlaw5.wakes -/
def c42 : SF := ⟨39, [.t 0], (.seq (.ops [o 0 (.mv (b false))])
 (.seq (.ops [k 7 (.ca (.func 81) [(i 8)]),
 k 8 (.ca (.func 82) [(i 8), (i 3)]),
 k 9 (.ca (.func 43) [(i 18), (i 1), (t 7), (t 8), (b true)]),
 o 6 (.mv (t 9)),
 o 10 (.ex (t 6) 0),
 o 11 (.ex (t 6) 1),
 o 12 (.ex (t 6) 2),
 k 1 (.al 34 [.int .i64 0, .bool false, .int .i64 0, .int .i64 0, .int .i64 0, .int .i64 0]),
 k 2 (.al 34 [.int .i64 0, .bool false, .int .i64 0, .int .i64 0, .int .i64 0, .int .i64 0]),
 kn (.st [] 6 (t 1) (t 10)),
 kn (.st [] 6 (t 2) (t 11)),
 o 3 (.mv (t 12))])
 (.seq (.ops [k 14 (.ca (.func 82) [(i 8), (i 3)]),
 k 15 (.ca (.func 35) [(t 14), (b true)]),
 o 13 (.mv (t 15)),
 o 16 (.ex (t 13) 0),
 o 17 (.ex (t 13) 1),
 k 4 (.al 34 [.int .i64 0, .bool false, .int .i64 0, .int .i64 0, .int .i64 0, .int .i64 0]),
 kn (.st [] 6 (t 4) (t 16)),
 o 5 (.mv (t 17))])
 (.seq (.ops [o 18 (.mv (t 3)),
 k 19 (.ca (.func 37) [(t 18)]),
 o 20 (.bin .eql (t 19) (i 0)),
 o 21 (.mv (t 20)),
 og 22 21 true (.mv (t 5)),
 ⟨some 23, some (21, true), .ca (.func 37) [(t 22)]⟩,
 og 24 21 true (.bin .eql (t 23) (i 0)),
 o 25 (.pick (t 21) (t 24) (b false)),
 o 26 (.mv (t 25)),
 og 27 26 true (.ld true 6 (t 1)),
 ⟨some 28, some (26, true), .ca (.func 40) [(t 27), (i 3)]⟩,
 o 29 (.pick (t 26) (t 28) (b false)),
 o 30 (.mv (t 29)),
 og 31 30 true (.ld true 6 (t 4)),
 ⟨some 32, some (30, true), .ca (.func 41) [(t 31), (i 0)]⟩,
 og 33 30 true (.bin .lss (t 32) (i 0)),
 o 34 (.pick (t 30) (t 33) (b false)),
 o 35 (.mv (t 34)),
 og 36 35 true (.ld true 6 (t 4)),
 ⟨some 37, some (35, true), .ca (.func 36) [(t 36)]⟩,
 o 38 (.pick (t 35) (t 37) (b false)),
 o 0 (.mv (t 38))])
 .ret))))⟩
theorem e42 : slimF Try.prog Try.f42 [] = some c42 := by kernel_rfl
/-- cellar/filter.Two -/
def c43 : SF := ⟨44, [.c true 6 10, .c true 6 11, .t 12], (.seq (.ops [k 7 (.bx 34 (t 2)),
 k 8 (.bx 34 (t 3)),
 k 10 (.al 34 [.int .i64 0, .bool false, .int .i64 0, .int .i64 0, .int .i64 0, .int .i64 0]),
 k 11 (.al 34 [.int .i64 0, .bool false, .int .i64 0, .int .i64 0, .int .i64 0, .int .i64 0]),
 o 12 (.mv (i 0))])
 (.seq (.seq (.ops [o 13 (.mv (t 0)),
 o 14 (.bin .neq (t 13) (i 18)),
 o 15 (.mv (t 14)),
 og 16 15 true (.mv (t 0)),
 og 17 15 true (.bin .neq (t 16) (i 19)),
 o 18 (.pick (t 15) (t 17) (b false)),
 o 19 (.mv (t 18)),
 og 20 19 false (.mv (t 1)),
 og 21 19 false (.ld true 6 (t 7)),
 ⟨some 22, some (19, false), .ca (.func 83) [(t 20), (t 21)]⟩,
 og 23 19 false (.un .not (t 22)),
 o 24 (.pick (t 19) (b true) (t 23)),
 o 25 (.mv (t 24)),
 og 26 25 false (.mv (t 1)),
 og 27 25 false (.ld true 6 (t 8)),
 ⟨some 28, some (25, false), .ca (.func 83) [(t 26), (t 27)]⟩,
 og 29 25 false (.un .not (t 28)),
 o 30 (.pick (t 25) (b true) (t 29))])
 (.cond (t 30)
 (.seq (.opq [o 31 (.ld true 6 (t 10)),
 o 32 (.ld true 6 (t 11)),
 kn (.st [11] 6 (t 10) (t 31)),
 kn (.st [] 6 (t 11) (t 32)),
 o 12 (.mv (i 1))])
 .ret)
 .skip))
 (.seq (.ops [o 34 (.mv (t 0)),
 o 35 (.mv (t 1)),
 o 36 (.ld true 6 (t 7)),
 o 37 (.ld true 6 (t 8)),
 o 38 (.mv (t 4)),
 k 39 (.ca (.func 84) [(t 34), (t 35), (t 36), (t 37), (t 38)]),
 o 33 (.mv (t 39)),
 o 40 (.ex (t 33) 0),
 o 41 (.ex (t 33) 1),
 kn (.st [] 6 (t 10) (t 40)),
 kn (.st [] 6 (t 11) (t 41))])
 (.seq (.opq [o 42 (.ld true 6 (t 10)),
 o 43 (.ld true 6 (t 11)),
 kn (.st [11] 6 (t 10) (t 42)),
 kn (.st [] 6 (t 11) (t 43)),
 o 12 (.mv (i 0))])
 .ret))))⟩
theorem e43 : slimF Try.prog Try.f43 [[(0, []), (1, []), (2, [11]), (3, []), (4, [])], [(0, []), (1, []), (2, [11]), (3, []), (4, [])]] = some c43 := by kernel_rfl
/-- cellar/cellarref1.Two -/
def c44 : SF := ⟨138, [.t 8, .t 9], (.seq (.ops [o 8 (.mv (i 0)),
 o 9 (.mv (i 0))])
 (.seq (.ops [o 13 (.mv (t 1)),
 k 14 (.ca (.func 46) [(t 13)]),
 o 10 (.mv (t 14))])
 (.seq (.ops [o 15 (.mv (t 1)),
 o 16 (.mv (t 2)),
 k 17 (.ca (.func 85) [(t 15), (t 16)]),
 o 18 (.mv (t 1)),
 o 19 (.mv (t 3)),
 k 20 (.ca (.func 85) [(t 18), (t 19)]),
 o 11 (.mv (t 17)),
 o 12 (.mv (t 20))])
 (.seq (.seq (.ops [o 21 (.mv (t 0))])
 (.block 0 (.seq (.ops [o 23 (.bin .eql (t 21) (i 8)),
 o 22 (.mv (t 23))])
 (.cond (t 22)
 (.seq (.ops [o 24 (.mv (t 1)),
 o 25 (.mv (t 11)),
 o 26 (.mv (t 12)),
 o 27 (.bin .add (t 25) (t 26)),
 k 28 (.ca (.func 86) [(t 24), (t 27)]),
 o 29 (.ex (t 28) 0),
 o 30 (.ex (t 28) 1),
 o 8 (.mv (t 29)),
 o 9 (.mv (t 30))])
 .ret)
 (.seq (.ops [o 32 (.bin .eql (t 21) (i 9)),
 o 31 (.mv (t 32))])
 (.cond (t 31)
 (.seq (.ops [o 33 (.mv (t 1)),
 o 34 (.mv (t 11)),
 o 35 (.mv (t 12)),
 o 36 (.bin .sub (t 34) (t 35)),
 k 37 (.ca (.func 86) [(t 33), (t 36)]),
 o 38 (.ex (t 37) 0),
 o 39 (.ex (t 37) 1),
 o 8 (.mv (t 38)),
 o 9 (.mv (t 39))])
 .ret)
 (.seq (.ops [o 41 (.bin .eql (t 21) (i 10)),
 o 40 (.mv (t 41))])
 (.cond (t 40)
 (.seq (.seq (.ops [o 42 (.mv (t 1)),
 k 43 (.ca (.func 87) [(t 42)]),
 o 44 (.un .not (t 43))])
 (.cond (t 44)
 (.seq (.ops [o 45 (.mv (t 11)),
 o 46 (.cv .u64 (t 45)),
 o 47 (.mv (t 12)),
 o 48 (.cv .u64 (t 47)),
 o 49 (.bin .mul (t 46) (t 48)),
 o 50 (.mv (t 10)),
 o 51 (.bin .shl (.const (.int .u64 1)) (t 50)),
 o 52 (.bin .sub (t 51) (.const (.int .u64 1))),
 o 53 (.bin .and (t 49) (t 52)),
 o 54 (.cv .i64 (t 53)),
 o 8 (.mv (t 54)),
 o 9 (.mv (i 0))])
 .ret)
 .skip))
 (.seq (.ops [o 55 (.mv (t 1)),
 o 56 (.mv (t 11)),
 o 57 (.mv (t 12)),
 o 58 (.bin .mul (t 56) (t 57)),
 k 59 (.ca (.func 86) [(t 55), (t 58)]),
 o 60 (.ex (t 59) 0),
 o 61 (.ex (t 59) 1),
 o 8 (.mv (t 60)),
 o 9 (.mv (t 61))])
 .ret))
 (.seq (.seq (.ops [o 63 (.bin .eql (t 21) (i 11)),
 o 62 (.mv (t 63))])
 (.cond (t 62)
 .skip
 (.ops [o 64 (.bin .eql (t 21) (i 12)),
 o 62 (.mv (t 64))])))
 (.cond (t 62)
 (.seq (.seq (.ops [o 65 (.mv (t 12)),
 o 66 (.bin .eql (t 65) (i 0))])
 (.cond (t 66)
 (.seq (.ops [o 8 (.mv (i 0)),
 o 9 (.mv (i 6))])
 .ret)
 .skip))
 (.seq (.seq (.ops [o 67 (.mv (t 1)),
 k 68 (.ca (.func 87) [(t 67)]),
 o 69 (.mv (t 68)),
 og 70 69 true (.mv (t 11)),
 og 71 69 true (.mv (t 10)),
 og 72 69 true (.bin .sub (t 71) (i 1)),
 og 73 69 true (.bin .shl (i 1) (t 72)),
 og 74 69 true (.un .neg (t 73)),
 og 75 69 true (.bin .eql (t 70) (t 74)),
 o 76 (.pick (t 69) (t 75) (b false)),
 o 77 (.mv (t 76)),
 og 78 77 true (.mv (t 12)),
 og 79 77 true (.bin .eql (t 78) (i (-1))),
 o 80 (.pick (t 77) (t 79) (b false))])
 (.cond (t 80)
 (.seq (.ops [o 8 (.mv (i 0)),
 o 9 (.mv (i 4))])
 .ret)
 .skip))
 (.seq (.seq (.ops [o 81 (.mv (t 0)),
 o 82 (.bin .eql (t 81) (i 11))])
 (.cond (t 82)
 (.seq (.ops [o 83 (.mv (t 11)),
 o 84 (.mv (t 12)),
 o 85 (.bin .quo (t 83) (t 84)),
 o 86 (.mv (t 10)),
 k 87 (.ca (.func 57) [(t 85), (t 86)]),
 o 8 (.mv (t 87)),
 o 9 (.mv (i 0))])
 .ret)
 .skip))
 (.seq (.ops [o 88 (.mv (t 11)),
 o 89 (.mv (t 12)),
 o 90 (.bin .rem (t 88) (t 89)),
 o 91 (.mv (t 10)),
 k 92 (.ca (.func 57) [(t 90), (t 91)]),
 o 8 (.mv (t 92)),
 o 9 (.mv (i 0))])
 .ret))))
 (.seq (.ops [o 94 (.bin .eql (t 21) (i 13)),
 o 93 (.mv (t 94))])
 (.cond (t 93)
 (.seq (.ops [o 95 (.mv (t 2)),
 o 96 (.mv (t 3)),
 o 97 (.bin .and (t 95) (t 96)),
 o 8 (.mv (t 97)),
 o 9 (.mv (i 0))])
 .ret)
 (.seq (.ops [o 99 (.bin .eql (t 21) (i 14)),
 o 98 (.mv (t 99))])
 (.cond (t 98)
 (.seq (.ops [o 100 (.mv (t 2)),
 o 101 (.mv (t 3)),
 o 102 (.bin .or (t 100) (t 101)),
 o 8 (.mv (t 102)),
 o 9 (.mv (i 0))])
 .ret)
 (.seq (.ops [o 104 (.bin .eql (t 21) (i 15)),
 o 103 (.mv (t 104))])
 (.cond (t 103)
 (.seq (.ops [o 105 (.mv (t 2)),
 o 106 (.mv (t 3)),
 o 107 (.bin .xor (t 105) (t 106)),
 o 8 (.mv (t 107)),
 o 9 (.mv (i 0))])
 .ret)
 (.seq (.seq (.ops [o 109 (.bin .eql (t 21) (i 16)),
 o 108 (.mv (t 109))])
 (.cond (t 108)
 .skip
 (.ops [o 110 (.bin .eql (t 21) (i 17)),
 o 108 (.mv (t 110))])))
 (.cond (t 108)
 (.seq (.seq (.ops [o 111 (.mv (t 12)),
 o 112 (.mv (t 10)),
 o 113 (.bin .sub (t 112) (i 1)),
 k 114 (.ca (.func 22) [(t 111), (t 113)]),
 o 115 (.un .not (t 114))])
 (.cond (t 115)
 (.seq (.ops [o 8 (.mv (i 0)),
 o 9 (.mv (i 5))])
 .ret)
 .skip))
 (.seq (.seq (.ops [o 116 (.mv (t 0)),
 o 117 (.bin .eql (t 116) (i 16))])
 (.cond (t 117)
 (.seq (.ops [o 118 (.mv (t 2)),
 o 119 (.mv (t 12)),
 o 120 (.bin .shl (t 118) (t 119)),
 o 121 (.mv (t 10)),
 k 122 (.ca (.func 57) [(t 120), (t 121)]),
 o 8 (.mv (t 122)),
 o 9 (.mv (i 0))])
 .ret)
 .skip))
 (.seq (.ops [o 123 (.mv (t 11)),
 o 124 (.mv (t 12)),
 o 125 (.bin .shr (t 123) (t 124)),
 o 126 (.mv (t 10)),
 k 127 (.ca (.func 57) [(t 125), (t 126)]),
 o 8 (.mv (t 127)),
 o 9 (.mv (i 0))])
 .ret)))
 (.seq (.ops [o 129 (.bin .eql (t 21) (i 18)),
 o 128 (.mv (t 129))])
 (.cond (t 128)
 (.seq (.ops [o 130 (.mv (t 2)),
 o 131 (.mv (t 3)),
 o 132 (.bin .eql (t 130) (t 131)),
 k 133 (.ca (.func 88) [(t 132)]),
 o 8 (.mv (t 133)),
 o 9 (.mv (i 0))])
 .ret)
 .skip))))))))))))))))))))
 (.seq (.ops [o 134 (.mv (t 11)),
 o 135 (.mv (t 12)),
 o 136 (.bin .lss (t 134) (t 135)),
 k 137 (.ca (.func 88) [(t 136)]),
 o 8 (.mv (t 137)),
 o 9 (.mv (i 0))])
 .ret)))))⟩
theorem e44 : slimF Try.prog Try.f44 [] = some c44 := by kernel_rfl
/-- cellar/cellarref1.Width -/
def c46 : SF := ⟨13, [.t 2], (.seq (.ops [o 2 (.mv (i 0))])
 (.seq (.seq (.ops [o 3 (.mv (t 0))])
 (.block 0 (.seq (.seq (.ops [o 5 (.bin .eql (t 3) (i 1)),
 o 4 (.mv (t 5))])
 (.cond (t 4)
 .skip
 (.ops [o 6 (.bin .eql (t 3) (i 2)),
 o 4 (.mv (t 6))])))
 (.cond (t 4)
 (.seq (.ops [o 2 (.mv (i 8))])
 .ret)
 (.seq (.seq (.ops [o 8 (.bin .eql (t 3) (i 3)),
 o 7 (.mv (t 8))])
 (.cond (t 7)
 .skip
 (.ops [o 9 (.bin .eql (t 3) (i 4)),
 o 7 (.mv (t 9))])))
 (.cond (t 7)
 (.seq (.ops [o 2 (.mv (i 16))])
 .ret)
 (.seq (.seq (.ops [o 11 (.bin .eql (t 3) (i 5)),
 o 10 (.mv (t 11))])
 (.cond (t 10)
 .skip
 (.ops [o 12 (.bin .eql (t 3) (i 6)),
 o 10 (.mv (t 12))])))
 (.cond (t 10)
 (.seq (.ops [o 2 (.mv (i 32))])
 .ret)
 .skip))))))))
 (.seq (.ops [o 2 (.mv (i 0))])
 .ret)))⟩
theorem e46 : slimF Try.prog Try.f46 [] = some c46 := by kernel_rfl
/-- cellar/cellarref1.Cast -/
def c48 : SF := ⟨13, [.t 6], (.seq (.ops [o 6 (.mv (i 0))])
 (.seq (.ops [o 7 (.mv (t 0)),
 o 8 (.mv (t 2)),
 k 9 (.ca (.func 85) [(t 7), (t 8)]),
 o 10 (.mv (t 1)),
 k 11 (.ca (.func 46) [(t 10)]),
 k 12 (.ca (.func 57) [(t 9), (t 11)]),
 o 6 (.mv (t 12))])
 .ret))⟩
theorem e48 : slimF Try.prog Try.f48 [] = some c48 := by kernel_rfl
/-- cellar/filter.Nought -/
def c75 : SF := ⟨13, [.c true 6 4], (.seq (.ops [k 2 (.bx 34 (t 0)),
 k 4 (.al 34 [.int .i64 0, .bool false, .int .i64 0, .int .i64 0, .int .i64 0, .int .i64 0])])
 (.seq (.seq (.ops [o 5 (.mv (t 1))])
 (.cond (t 5)
 (.seq (.opd [o 6 (.ld true 6 (t 2)),
 o 7 (.fa 0 (t 2)),
 o 8 (.ld false 1 (t 7)),
 k 9 (.ca (.func 100) [(t 8), (i 0)]),
 k 10 (.ca (.func 117) [(t 6), (t 9)]),
 kn (.st [] 6 (t 4) (t 10))])
 .ret)
 .skip))
 (.seq (.ops [o 11 (.ld true 6 (t 2)),
 k 12 (.ca (.func 118) [(t 11), (i 0)]),
 kn (.st [] 6 (t 4) (t 12))])
 .ret)))⟩
theorem e75 : slimF Try.prog Try.f75 [[(0, []), (1, []), (2, []), (3, []), (4, []), (5, [])]] = some c75 := by kernel_rfl
/-- cellar/cellarref1.All -/
def c81 : SF := ⟨11, [.c true 6 2], (.seq (.ops [k 2 (.al 34 [.int .i64 0, .bool false, .int .i64 0, .int .i64 0, .int .i64 0, .int .i64 0])])
 (.seq (.opq [o 3 (.mv (t 0)),
 o 4 (.mv (t 0)),
 o 5 (.bin .shl (i 1) (t 4)),
 o 6 (.bin .sub (t 5) (i 1)),
 o 7 (.mv (t 0)),
 o 8 (.bin .shl (i 1) (t 7)),
 o 9 (.bin .sub (t 8) (i 1)),
 o 10 (.bd [.int .i64 0, .bool false, .int .i64 0, .int .i64 0, .int .i64 0, .int .i64 0] [(0, 1, (t 3)), (3, 1, (t 6)), (4, 1, (t 9))]),
 kn (.st [] 6 (t 2) (t 10))])
 .ret))⟩
theorem e81 : slimF Try.prog Try.f81 [[(0, []), (1, []), (2, []), (3, []), (4, []), (5, []), (6, []), (7, []), (8, [])]] = some c81 := by kernel_rfl
/-- cellar/filter.asked -/
def c83 : SF := ⟨18, [.t 4], (.seq (.ops [k 3 (.bx 34 (t 1)),
 o 4 (.mv (b false))])
 (.seq (.opd [o 5 (.mv (t 0)),
 k 6 (.ca (.func 104) [(t 5)]),
 o 7 (.mv (t 6)),
 og 8 7 true (.ld true 6 (t 3)),
 ⟨some 9, some (7, true), .ca (.func 74) [(t 8)]⟩,
 o 10 (.pick (t 7) (t 9) (b false)),
 o 11 (.mv (t 10)),
 og 12 11 true (.fa 0 (t 3)),
 og 13 11 true (.ld false 1 (t 12)),
 og 14 11 true (.mv (t 0)),
 ⟨some 15, some (11, true), .ca (.func 101) [(t 14)]⟩,
 og 16 11 true (.bin .eql (t 13) (t 15)),
 o 17 (.pick (t 11) (t 16) (b false)),
 o 4 (.mv (t 17))])
 .ret))⟩
theorem e83 : slimF Try.prog Try.f83 [[(0, []), (1, []), (2, []), (3, []), (4, []), (5, []), (6, []), (7, []), (8, []), (9, []), (10, []), (11, []), (12, []), (13, [])]] = some c83 := by kernel_rfl
/-- cellar/filter.Do -/
def c84 : SF := ⟨51, [.c true 6 10, .c true 6 11], (.seq (.ops [k 7 (.bx 34 (t 2)),
 k 8 (.bx 34 (t 3)),
 k 10 (.al 34 [.int .i64 0, .bool false, .int .i64 0, .int .i64 0, .int .i64 0, .int .i64 0]),
 k 11 (.al 34 [.int .i64 0, .bool false, .int .i64 0, .int .i64 0, .int .i64 0, .int .i64 0])])
 (.seq (.ops [o 13 (.fa 0 (t 7)),
 o 14 (.ld false 1 (t 13)),
 k 15 (.ca (.func 115) [(t 14)]),
 k 12 (.al 34 [.int .i64 0, .bool false, .int .i64 0, .int .i64 0, .int .i64 0, .int .i64 0]),
 kn (.st [] 6 (t 12) (t 15))])
 (.seq (.seq (.ops [o 16 (.ld true 6 (t 7)),
 k 17 (.ca (.func 109) [(t 16)]),
 o 18 (.mv (t 17)),
 og 19 18 false (.ld true 6 (t 8)),
 ⟨some 20, some (18, false), .ca (.func 109) [(t 19)]⟩,
 o 21 (.pick (t 18) (b true) (t 20))])
 (.cond (t 21)
 (.seq (.opq [o 22 (.ld true 6 (t 12)),
 o 23 (.ld true 6 (t 12)),
 kn (.st [12] 6 (t 10) (t 22)),
 kn (.st [] 6 (t 11) (t 23))])
 .ret)
 .skip))
 (.seq (.seq (.ops [o 24 (.mv (t 0)),
 o 25 (.bin .eql (t 24) (i 18))])
 (.cond (t 25)
 (.ops [o 27 (.ld true 6 (t 7)),
 o 28 (.ld true 6 (t 8)),
 o 29 (.mv (t 4)),
 k 30 (.ca (.func 120) [(t 27), (t 28), (t 29)]),
 o 26 (.mv (t 30)),
 o 31 (.ex (t 26) 0),
 o 32 (.ex (t 26) 1),
 kn (.st [] 6 (t 10) (t 31)),
 kn (.st [] 6 (t 11) (t 32))])
 (.ops [o 34 (.mv (t 1)),
 o 35 (.ld true 6 (t 7)),
 o 36 (.ld true 6 (t 8)),
 o 37 (.mv (t 4)),
 k 38 (.ca (.func 121) [(t 34), (t 35), (t 36), (t 37)]),
 o 33 (.mv (t 38)),
 o 39 (.ex (t 33) 0),
 o 40 (.ex (t 33) 1),
 kn (.st [] 6 (t 10) (t 39)),
 kn (.st [] 6 (t 11) (t 40))])))
 (.seq (.seq (.ops [o 41 (.ld true 6 (t 10)),
 k 42 (.ca (.func 109) [(t 41)]),
 o 43 (.mv (t 42)),
 og 44 43 false (.ld true 6 (t 11)),
 ⟨some 45, some (43, false), .ca (.func 109) [(t 44)]⟩,
 o 46 (.pick (t 43) (b true) (t 45))])
 (.cond (t 46)
 (.seq (.opq [o 47 (.ld true 6 (t 12)),
 o 48 (.ld true 6 (t 12)),
 kn (.st [12] 6 (t 10) (t 47)),
 kn (.st [] 6 (t 11) (t 48))])
 .ret)
 .skip))
 (.seq (.opq [o 49 (.ld true 6 (t 10)),
 o 50 (.ld true 6 (t 11)),
 kn (.st [11] 6 (t 10) (t 49)),
 kn (.st [] 6 (t 11) (t 50))])
 .ret))))))⟩
theorem e84 : slimF Try.prog Try.f84 [[(0, []), (1, []), (2, [12]), (3, [])], [(0, []), (1, []), (2, [12]), (3, [])], [(0, []), (1, []), (2, [11]), (3, [])]] = some c84 := by kernel_rfl
/-- cellar/cellarref1.see -/
def c85 : SF := ⟨12, [.t 4], (.seq (.ops [o 4 (.mv (i 0))])
 (.seq (.seq (.ops [o 5 (.mv (t 0)),
 k 6 (.ca (.func 87) [(t 5)])])
 (.cond (t 6)
 (.seq (.ops [o 7 (.mv (t 1)),
 o 8 (.mv (t 0)),
 k 9 (.ca (.func 46) [(t 8)]),
 k 10 (.ca (.func 122) [(t 7), (t 9)]),
 o 4 (.mv (t 10))])
 .ret)
 .skip))
 (.seq (.ops [o 11 (.mv (t 1)),
 o 4 (.mv (t 11))])
 .ret)))⟩
theorem e85 : slimF Try.prog Try.f85 [] = some c85 := by kernel_rfl
/-- cellar/cellarref1.Signed -/
def c87 : SF := ⟨13, [.t 2], (.seq (.ops [o 2 (.mv (b false))])
 (.seq (.ops [o 3 (.mv (t 0)),
 o 4 (.bin .eql (t 3) (i 2)),
 o 5 (.mv (t 4)),
 og 6 5 false (.mv (t 0)),
 og 7 5 false (.bin .eql (t 6) (i 4)),
 o 8 (.pick (t 5) (b true) (t 7)),
 o 9 (.mv (t 8)),
 og 10 9 false (.mv (t 0)),
 og 11 9 false (.bin .eql (t 10) (i 6)),
 o 12 (.pick (t 9) (b true) (t 11)),
 o 2 (.mv (t 12))])
 .ret))⟩
theorem e87 : slimF Try.prog Try.f87 [] = some c87 := by kernel_rfl
/-- cellar/cellarref1.truth -/
def c88 : SF := ⟨4, [.t 2], (.seq (.ops [o 2 (.mv (i 0))])
 (.seq (.seq (.ops [o 3 (.mv (t 0))])
 (.cond (t 3)
 (.seq (.ops [o 2 (.mv (i 1))])
 .ret)
 .skip))
 (.seq (.ops [o 2 (.mv (i 0))])
 .ret)))⟩
theorem e88 : slimF Try.prog Try.f88 [] = some c88 := by kernel_rfl
/-- cellar/cellarref1.No -/
def c89 : SF := ⟨5, [.c true 6 2], (.seq (.ops [k 2 (.al 34 [.int .i64 0, .bool false, .int .i64 0, .int .i64 0, .int .i64 0, .int .i64 0])])
 (.seq (.ops [o 3 (.mv (t 0)),
 o 4 (.bd [.int .i64 0, .bool false, .int .i64 0, .int .i64 0, .int .i64 0, .int .i64 0] [(0, 1, (t 3)), (1, 1, (b true))]),
 kn (.st [] 6 (t 2) (t 4))])
 .ret))⟩
theorem e89 : slimF Try.prog Try.f89 [] = some c89 := by kernel_rfl
/-- cellar/word.Of -/
def c101 : SF := ⟨7, [.t 2], (.seq (.ops [o 2 (.mv (i 0))])
 (.seq (.ops [o 3 (.mv (t 0)),
 o 4 (.bin .sub (t 3) (i 1)),
 o 5 (.bin .quo (t 4) (i 2)),
 o 6 (.bin .shl (i 8) (t 5)),
 o 2 (.mv (t 6))])
 .ret))⟩
theorem e101 : slimF Try.prog Try.f101 [] = some c101 := by kernel_rfl
/-- cellar/word.IsKind -/
def c104 : SF := ⟨9, [.t 2], (.seq (.ops [o 2 (.mv (b false))])
 (.seq (.ops [o 3 (.mv (t 0)),
 o 4 (.bin .geq (t 3) (i 1)),
 o 5 (.mv (t 4)),
 og 6 5 true (.mv (t 0)),
 og 7 5 true (.bin .leq (t 6) (i 6)),
 o 8 (.pick (t 5) (t 7) (b false)),
 o 2 (.mv (t 8))])
 .ret))⟩
theorem e104 : slimF Try.prog Try.f104 [] = some c104 := by kernel_rfl
/-- cellar/filter.without -/
def c118 : SF := ⟨20, [.c true 6 4], (.seq (.ops [k 2 (.bx 34 (t 0)),
 k 4 (.al 34 [.int .i64 0, .bool false, .int .i64 0, .int .i64 0, .int .i64 0, .int .i64 0])])
 (.seq (.ops [o 6 (.fa 0 (t 2)),
 o 7 (.ld false 1 (t 6)),
 o 5 (.mv (t 7))])
 (.seq (.opd [o 8 (.ld true 6 (t 2)),
 o 9 (.mv (t 5)),
 o 10 (.mv (t 1)),
 o 11 (.bin .add (t 10) (i 1)),
 o 12 (.mv (t 5)),
 o 14 (.mv (t 1)),
 o 15 (.bin .sub (t 14) (i 1)),
 o 16 (.mv (t 5)),
 k 13 (.ca (.func 145) [(t 11), (t 12)]),
 k 17 (.ca (.func 145) [(t 15), (t 16)]),
 k 18 (.ca (.func 103) [(t 9), (t 13), (t 17)]),
 k 19 (.ca (.func 117) [(t 8), (t 18)]),
 kn (.st [] 6 (t 4) (t 19))])
 .ret)))⟩
theorem e118 : slimF Try.prog Try.f118 [[(0, []), (1, []), (2, []), (3, []), (4, []), (6, []), (7, []), (8, []), (5, []), (9, []), (10, []), (11, []), (12, [])]] = some c118 := by kernel_rfl
/-- cellar/filter.equal -/
def c120 : SF := ⟨43, [.c true 6 6, .c true 6 7], (.seq (.ops [k 3 (.bx 34 (t 0)),
 k 4 (.bx 34 (t 1)),
 k 6 (.al 34 [.int .i64 0, .bool false, .int .i64 0, .int .i64 0, .int .i64 0, .int .i64 0]),
 k 7 (.al 34 [.int .i64 0, .bool false, .int .i64 0, .int .i64 0, .int .i64 0, .int .i64 0])])
 (.seq (.seq (.ops [o 14 (.mv (t 2))])
 (.cond (t 14)
 (.seq (.opd [o 15 (.ld true 6 (t 3)),
 o 16 (.ld true 6 (t 4)),
 o 18 (.ld true 6 (t 4)),
 o 19 (.ld true 6 (t 3)),
 k 17 (.ca (.func 117) [(t 15), (t 16)]),
 k 20 (.ca (.func 117) [(t 18), (t 19)]),
 kn (.st [] 6 (t 6) (t 17)),
 kn (.st [] 6 (t 7) (t 20))])
 .ret)
 .skip))
 (.seq (.opq [o 21 (.ld true 6 (t 3)),
 o 22 (.ld true 6 (t 4)),
 k 8 (.al 34 [.int .i64 0, .bool false, .int .i64 0, .int .i64 0, .int .i64 0, .int .i64 0]),
 k 9 (.al 34 [.int .i64 0, .bool false, .int .i64 0, .int .i64 0, .int .i64 0, .int .i64 0]),
 kn (.st [4] 6 (t 8) (t 21)),
 kn (.st [] 6 (t 9) (t 22))])
 (.seq (.seq (.ops [o 24 (.ld true 6 (t 4)),
 k 25 (.ca (.func 110) [(t 24)]),
 o 23 (.mv (t 25)),
 o 26 (.ex (t 23) 0),
 o 27 (.ex (t 23) 1),
 o 10 (.mv (t 26)),
 o 11 (.mv (t 27))])
 (.seq (.ops [o 28 (.mv (t 11))])
 (.cond (t 28)
 (.ops [o 29 (.ld true 6 (t 3)),
 o 30 (.mv (t 10)),
 k 31 (.ca (.func 118) [(t 29), (t 30)]),
 kn (.st [] 6 (t 8) (t 31))])
 .skip)))
 (.seq (.seq (.ops [o 33 (.ld true 6 (t 3)),
 k 34 (.ca (.func 110) [(t 33)]),
 o 32 (.mv (t 34)),
 o 35 (.ex (t 32) 0),
 o 36 (.ex (t 32) 1),
 o 12 (.mv (t 35)),
 o 13 (.mv (t 36))])
 (.seq (.ops [o 37 (.mv (t 13))])
 (.cond (t 37)
 (.ops [o 38 (.ld true 6 (t 4)),
 o 39 (.mv (t 12)),
 k 40 (.ca (.func 118) [(t 38), (t 39)]),
 kn (.st [] 6 (t 9) (t 40))])
 .skip)))
 (.seq (.opq [o 41 (.ld true 6 (t 8)),
 o 42 (.ld true 6 (t 9)),
 kn (.st [9] 6 (t 6) (t 41)),
 kn (.st [] 6 (t 7) (t 42))])
 .ret))))))⟩
theorem e120 : slimF Try.prog Try.f120 [[(0, []), (1, []), (3, []), (4, []), (2, []), (5, []), (6, []), (7, [])], [(0, []), (1, []), (2, []), (3, []), (4, [4]), (5, [])], [(0, []), (1, []), (2, [9]), (3, [])]] = some c120 := by kernel_rfl
/-- cellar/filter.less -/
def c121 : SF := ⟨60, [.c true 6 8, .c true 6 9], (.seq (.ops [k 5 (.bx 34 (t 1)),
 k 6 (.bx 34 (t 2)),
 k 8 (.al 34 [.int .i64 0, .bool false, .int .i64 0, .int .i64 0, .int .i64 0, .int .i64 0]),
 k 9 (.al 34 [.int .i64 0, .bool false, .int .i64 0, .int .i64 0, .int .i64 0, .int .i64 0])])
 (.seq (.ops [o 17 (.mv (t 0)),
 k 18 (.ca (.func 146) [(t 17)]),
 o 16 (.mv (t 18)),
 o 19 (.ex (t 16) 0),
 o 20 (.ex (t 16) 1),
 o 10 (.mv (t 19)),
 o 11 (.mv (t 20))])
 (.seq (.ops [o 22 (.mv (t 0)),
 o 23 (.ld true 6 (t 5)),
 k 24 (.ca (.func 147) [(t 22), (t 23)]),
 o 21 (.mv (t 24)),
 o 25 (.ex (t 21) 0),
 o 26 (.ex (t 21) 1),
 o 12 (.mv (t 25)),
 o 13 (.mv (t 26))])
 (.seq (.ops [o 28 (.mv (t 0)),
 o 29 (.ld true 6 (t 6)),
 k 30 (.ca (.func 147) [(t 28), (t 29)]),
 o 27 (.mv (t 30)),
 o 31 (.ex (t 27) 0),
 o 32 (.ex (t 27) 1),
 o 14 (.mv (t 31)),
 o 15 (.mv (t 32))])
 (.seq (.seq (.ops [o 33 (.mv (t 3))])
 (.cond (t 33)
 (.seq (.opd [o 34 (.ld true 6 (t 5)),
 o 35 (.mv (t 0)),
 o 36 (.mv (t 10)),
 o 37 (.mv (t 15)),
 o 38 (.bin .sub (t 37) (i 1)),
 o 41 (.ld true 6 (t 6)),
 o 42 (.mv (t 0)),
 o 43 (.mv (t 12)),
 o 44 (.bin .add (t 43) (i 1)),
 o 45 (.mv (t 11)),
 k 39 (.ca (.func 148) [(t 35), (t 36), (t 38)]),
 k 40 (.ca (.func 117) [(t 34), (t 39)]),
 k 46 (.ca (.func 148) [(t 42), (t 44), (t 45)]),
 k 47 (.ca (.func 117) [(t 41), (t 46)]),
 kn (.st [] 6 (t 8) (t 40)),
 kn (.st [] 6 (t 9) (t 47))])
 .ret)
 .skip))
 (.seq (.opd [o 48 (.ld true 6 (t 5)),
 o 49 (.mv (t 0)),
 o 50 (.mv (t 14)),
 o 51 (.mv (t 11)),
 o 54 (.ld true 6 (t 6)),
 o 55 (.mv (t 0)),
 o 56 (.mv (t 10)),
 o 57 (.mv (t 13)),
 k 52 (.ca (.func 148) [(t 49), (t 50), (t 51)]),
 k 53 (.ca (.func 117) [(t 48), (t 52)]),
 k 58 (.ca (.func 148) [(t 55), (t 56), (t 57)]),
 k 59 (.ca (.func 117) [(t 54), (t 58)]),
 kn (.st [] 6 (t 8) (t 53)),
 kn (.st [] 6 (t 9) (t 59))])
 .ret))))))⟩
theorem e121 : slimF Try.prog Try.f121 [[(0, []), (1, []), (2, []), (3, []), (4, []), (7, []), (8, []), (9, []), (10, []), (11, []), (5, []), (6, []), (12, []), (13, []), (14, []), (15, [])], [(0, []), (1, []), (2, []), (3, []), (6, []), (7, []), (8, []), (9, []), (4, []), (5, []), (10, []), (11, []), (12, []), (13, [])]] = some c121 := by kernel_rfl
/-- cellar/cellarref1.View -/
def c122 : SF := ⟨15, [.t 4], (.seq (.ops [o 4 (.mv (i 0))])
 (.seq (.seq (.ops [o 5 (.mv (t 0)),
 o 6 (.mv (t 1)),
 o 7 (.bin .sub (t 6) (i 1)),
 o 8 (.bin .shl (i 1) (t 7)),
 o 9 (.bin .geq (t 5) (t 8))])
 (.cond (t 9)
 (.seq (.ops [o 10 (.mv (t 0)),
 o 11 (.mv (t 1)),
 o 12 (.bin .shl (i 1) (t 11)),
 o 13 (.bin .sub (t 10) (t 12)),
 o 4 (.mv (t 13))])
 .ret)
 .skip))
 (.seq (.ops [o 14 (.mv (t 0)),
 o 4 (.mv (t 14))])
 .ret)))⟩
theorem e122 : slimF Try.prog Try.f122 [] = some c122 := by kernel_rfl
/-- cellar/alu.Turn -/
def c124 : SF := ⟨13, [.t 6], (.seq (.ops [o 6 (.mv (i 0))])
 (.seq (.ops [o 7 (.mv (t 0)),
 o 8 (.mv (t 2)),
 k 9 (.ca (.func 149) [(t 7), (t 8)]),
 o 10 (.mv (t 1)),
 k 11 (.ca (.func 101) [(t 10)]),
 k 12 (.ca (.func 145) [(t 9), (t 11)]),
 o 6 (.mv (t 12))])
 .ret))⟩
theorem e124 : slimF Try.prog Try.f124 [] = some c124 := by kernel_rfl
/-- cellar/alu.Most -/
def c146 : SF := ⟨18, [.t 2, .t 3], (.seq (.ops [o 2 (.mv (i 0)),
 o 3 (.mv (i 0))])
 (.seq (.ops [o 5 (.mv (t 0)),
 k 6 (.ca (.func 101) [(t 5)]),
 o 4 (.mv (t 6))])
 (.seq (.seq (.ops [o 7 (.mv (t 0)),
 k 8 (.ca (.func 157) [(t 7)])])
 (.cond (t 8)
 (.seq (.opq [o 9 (.mv (t 4)),
 o 10 (.bin .sub (t 9) (i 1)),
 o 11 (.bin .shl (i (-1)) (t 10)),
 o 12 (.mv (t 4)),
 o 13 (.bin .sub (t 12) (i 1)),
 o 14 (.bin .shl (i 1) (t 13)),
 o 15 (.bin .sub (t 14) (i 1)),
 o 2 (.mv (t 11)),
 o 3 (.mv (t 15))])
 .ret)
 .skip))
 (.seq (.ops [o 16 (.mv (t 4)),
 k 17 (.ca (.func 137) [(t 16)]),
 o 2 (.mv (i 0)),
 o 3 (.mv (t 17))])
 .ret))))⟩
theorem e146 : slimF Try.prog Try.f146 [[(0, []), (1, []), (2, []), (3, []), (4, []), (5, []), (6, []), (7, []), (8, [])]] = some c146 := by kernel_rfl
/-- cellar/maths.Seen -/
def c147 : SF := ⟨47, [.t 4, .t 5], (.seq (.ops [k 3 (.bx 34 (t 1)),
 o 4 (.mv (i 0)),
 o 5 (.mv (i 0))])
 (.seq (.seq (.ops [o 7 (.mv (t 0)),
 k 8 (.ca (.func 157) [(t 7)]),
 o 9 (.un .not (t 8))])
 (.cond (t 9)
 (.seq (.opd [o 10 (.ld true 6 (t 3)),
 o 12 (.ld true 6 (t 3)),
 o 13 (.fa 0 (t 3)),
 o 14 (.ld false 1 (t 13)),
 k 11 (.ca (.func 140) [(t 10), (i 0)]),
 k 15 (.ca (.func 137) [(t 14)]),
 k 16 (.ca (.func 158) [(t 12), (t 15)]),
 o 4 (.mv (t 11)),
 o 5 (.mv (t 16))])
 .ret)
 .skip))
 (.seq (.ops [o 17 (.fa 0 (t 3)),
 o 18 (.ld false 1 (t 17)),
 o 19 (.bin .sub (t 18) (i 1)),
 o 20 (.bin .shl (i 1) (t 19)),
 o 6 (.mv (t 20))])
 (.seq (.opd [o 21 (.ld true 6 (t 3)),
 o 22 (.mv (t 6)),
 o 24 (.ld true 6 (t 3)),
 o 25 (.mv (t 6)),
 o 26 (.bin .sub (t 25) (i 1)),
 k 23 (.ca (.func 140) [(t 21), (t 22)]),
 k 27 (.ca (.func 158) [(t 24), (t 26)]),
 o 4 (.mv (t 23)),
 o 5 (.mv (t 27))])
 (.seq (.seq (.ops [o 28 (.mv (t 4)),
 o 29 (.bin .lss (t 28) (i 0))])
 (.cond (t 29)
 (.ops [o 30 (.ld true 6 (t 3)),
 k 31 (.ca (.func 140) [(t 30), (i 0)]),
 o 4 (.mv (t 31))])
 .skip))
 (.seq (.seq (.ops [o 32 (.mv (t 5)),
 o 33 (.bin .lss (t 32) (i 0))])
 (.cond (t 33)
 (.opd [o 34 (.ld true 6 (t 3)),
 o 35 (.fa 0 (t 3)),
 o 36 (.ld false 1 (t 35)),
 k 37 (.ca (.func 137) [(t 36)]),
 k 38 (.ca (.func 158) [(t 34), (t 37)]),
 o 5 (.mv (t 38))])
 .skip))
 (.seq (.opd [o 39 (.mv (t 4)),
 o 40 (.fa 0 (t 3)),
 o 41 (.ld false 1 (t 40)),
 o 43 (.mv (t 5)),
 o 44 (.fa 0 (t 3)),
 o 45 (.ld false 1 (t 44)),
 k 42 (.ca (.func 159) [(t 39), (t 41)]),
 k 46 (.ca (.func 159) [(t 43), (t 45)]),
 o 4 (.mv (t 42)),
 o 5 (.mv (t 46))])
 .ret)))))))⟩
theorem e147 : slimF Try.prog Try.f147 [[(0, []), (2, []), (3, []), (4, []), (1, []), (5, []), (6, []), (7, []), (8, [])], [(0, []), (1, []), (3, []), (4, []), (5, []), (2, []), (6, []), (7, []), (8, [])], [(0, []), (1, []), (2, []), (3, []), (4, []), (5, [])], [(0, []), (1, []), (2, []), (4, []), (5, []), (6, []), (3, []), (7, []), (8, []), (9, [])]] = some c147 := by kernel_rfl
/-- cellar/filter.range1 -/
def c148 : SF := ⟨23, [.c true 6 6], (.seq (.ops [k 6 (.al 34 [.int .i64 0, .bool false, .int .i64 0, .int .i64 0, .int .i64 0, .int .i64 0])])
 (.seq (.ops [o 8 (.mv (t 0)),
 k 9 (.ca (.func 101) [(t 8)]),
 o 7 (.mv (t 9))])
 (.seq (.seq (.ops [o 10 (.mv (t 1)),
 o 11 (.mv (t 2)),
 o 12 (.bin .gtr (t 10) (t 11))])
 (.cond (t 12)
 (.seq (.ops [o 13 (.mv (t 7)),
 k 14 (.ca (.func 115) [(t 13)]),
 kn (.st [] 6 (t 6) (t 14))])
 .ret)
 .skip))
 (.seq (.ops [o 15 (.mv (t 7)),
 o 16 (.mv (t 1)),
 o 17 (.mv (t 7)),
 k 18 (.ca (.func 145) [(t 16), (t 17)]),
 o 19 (.mv (t 2)),
 o 20 (.mv (t 7)),
 k 21 (.ca (.func 145) [(t 19), (t 20)]),
 k 22 (.ca (.func 103) [(t 15), (t 18), (t 21)]),
 kn (.st [] 6 (t 6) (t 22))])
 .ret))))⟩
theorem e148 : slimF Try.prog Try.f148 [] = some c148 := by kernel_rfl
/-- cellar/word.Seen -/
def c149 : SF := ⟨12, [.t 4], (.seq (.ops [o 4 (.mv (i 0))])
 (.seq (.seq (.ops [o 5 (.mv (t 0)),
 k 6 (.ca (.func 157) [(t 5)])])
 (.cond (t 6)
 (.seq (.ops [o 7 (.mv (t 1)),
 o 8 (.mv (t 0)),
 k 9 (.ca (.func 101) [(t 8)]),
 k 10 (.ca (.func 159) [(t 7), (t 9)]),
 o 4 (.mv (t 10))])
 .ret)
 .skip))
 (.seq (.ops [o 11 (.mv (t 1)),
 o 4 (.mv (t 11))])
 .ret)))⟩
theorem e149 : slimF Try.prog Try.f149 [] = some c149 := by kernel_rfl
/-- cellar/word.IsSigned -/
def c157 : SF := ⟨13, [.t 2], (.seq (.ops [o 2 (.mv (b false))])
 (.seq (.ops [o 3 (.mv (t 0)),
 o 4 (.bin .eql (t 3) (i 2)),
 o 5 (.mv (t 4)),
 og 6 5 false (.mv (t 0)),
 og 7 5 false (.bin .eql (t 6) (i 4)),
 o 8 (.pick (t 5) (b true) (t 7)),
 o 9 (.mv (t 8)),
 og 10 9 false (.mv (t 0)),
 og 11 9 false (.bin .eql (t 10) (i 6)),
 o 12 (.pick (t 9) (b true) (t 11)),
 o 2 (.mv (t 12))])
 .ret))⟩
theorem e157 : slimF Try.prog Try.f157 [] = some c157 := by kernel_rfl
/-- cellar/maths.last -/
def c158 : SF := ⟨43, [.t 4], (.seq (.ops [k 2 (.bx 34 (t 0)),
 o 4 (.mv (i 0))])
 (.seq (.ops [o 9 (.ld true 6 (t 2)),
 k 10 (.ca (.func 140) [(t 9), (i 0)]),
 o 11 (.mv (t 1)),
 o 12 (.bin .add (t 11) (i 1)),
 o 5 (.mv (t 10)),
 o 6 (.mv (t 12))])
 (.seq (.seq (.ops [o 13 (.mv (t 5)),
 o 14 (.bin .lss (t 13) (i 0)),
 o 15 (.mv (t 14)),
 og 16 15 false (.mv (t 5)),
 og 17 15 false (.mv (t 1)),
 og 18 15 false (.bin .gtr (t 16) (t 17)),
 o 19 (.pick (t 15) (b true) (t 18))])
 (.cond (t 19)
 (.seq (.ops [o 4 (.mv (i (-1)))])
 .ret)
 .skip))
 (.seq (.block 0 (.loop (.seq (.seq (.ops [o 20 (.mv (t 5)),
 o 21 (.bin .add (t 20) (i 1)),
 o 22 (.mv (t 6)),
 o 23 (.bin .lss (t 21) (t 22))])
 (.cond (t 23)
 .skip
 (.exit 0)))
 (.block 1 (.seq (.ops [o 24 (.mv (t 5)),
 o 25 (.mv (t 6)),
 o 26 (.mv (t 5)),
 o 27 (.bin .sub (t 25) (t 26)),
 o 28 (.bin .quo (t 27) (i 2)),
 o 29 (.bin .add (t 24) (t 28)),
 o 7 (.mv (t 29))])
 (.seq (.ops [o 30 (.ld true 6 (t 2)),
 o 31 (.mv (t 7)),
 k 32 (.ca (.func 140) [(t 30), (t 31)]),
 o 8 (.mv (t 32))])
 (.seq (.ops [o 33 (.mv (t 8)),
 o 34 (.bin .geq (t 33) (i 0)),
 o 35 (.mv (t 34)),
 og 36 35 true (.mv (t 8)),
 og 37 35 true (.mv (t 1)),
 og 38 35 true (.bin .leq (t 36) (t 37)),
 o 39 (.pick (t 35) (t 38) (b false))])
 (.cond (t 39)
 (.ops [o 40 (.mv (t 8)),
 o 5 (.mv (t 40))])
 (.ops [o 41 (.mv (t 7)),
 o 6 (.mv (t 41))])))))))))
 (.seq (.ops [o 42 (.mv (t 5)),
 o 4 (.mv (t 42))])
 .ret)))))⟩
theorem e158 : slimF Try.prog Try.f158 [] = some c158 := by kernel_rfl
/-- cellar/word.Look -/
def c159 : SF := ⟨15, [.t 4], (.seq (.ops [o 4 (.mv (i 0))])
 (.seq (.seq (.ops [o 5 (.mv (t 0)),
 o 6 (.mv (t 1)),
 o 7 (.bin .sub (t 6) (i 1)),
 o 8 (.bin .shl (i 1) (t 7)),
 o 9 (.bin .geq (t 5) (t 8))])
 (.cond (t 9)
 (.seq (.ops [o 10 (.mv (t 0)),
 o 11 (.mv (t 1)),
 o 12 (.bin .shl (i 1) (t 11)),
 o 13 (.bin .sub (t 10) (t 12)),
 o 4 (.mv (t 13))])
 .ret)
 .skip))
 (.seq (.ops [o 14 (.mv (t 0)),
 o 4 (.mv (t 14))])
 .ret)))⟩
theorem e159 : slimF Try.prog Try.f159 [] = some c159 := by kernel_rfl
end Go.Proofs.Try.S
/- Contracts: kinds of numbers. -/
namespace Go.Proofs.Try.K
open Go Go.Ax Go.Proofs.Try.S
set_option maxRecDepth 100000
set_option linter.unusedSimpArgs false
set_option linter.unusedVariables false
variable (F : Fz) (M : Hp)

theorem k104 (k : Int) : CallsA Try.prog 104 [.int .i64 k] F M (Same F M (.bool (isK k))) := by
  refine callsA_of hm Try.func104 e104 (Nat.le_of_ble_eq_true rfl) ?_
  by_cases h1 : 1 ≤ k
  · by_cases h2 : k ≤ 6
    · simp only [c104, go_sem, reduceCtorEq, reduceIte, Nat.reduceEqDiff, Nat.reduceAdd, Nat.reduceLeDiff, Nat.reduceMul, Int.reduceLT, Int.reduceLE, Int.reduceAdd, Int.reduceSub, Int.reduceMul, Int.reduceNeg, Int.reduceToNat, Int.reduceEq, h1, h2]
      exact endK_same ⟨by simp [isK, h1, h2], rfl, rfl⟩
    · simp only [c104, go_sem, reduceCtorEq, reduceIte, Nat.reduceEqDiff, Nat.reduceAdd, Nat.reduceLeDiff, Nat.reduceMul, Int.reduceLT, Int.reduceLE, Int.reduceAdd, Int.reduceSub, Int.reduceMul, Int.reduceNeg, Int.reduceToNat, Int.reduceEq, h1, h2]
      exact endK_same ⟨by simp [isK, h1, h2], rfl, rfl⟩
  · simp only [c104, go_sem, reduceCtorEq, reduceIte, Nat.reduceEqDiff, Nat.reduceAdd, Nat.reduceLeDiff, Nat.reduceMul, Int.reduceLT, Int.reduceLE, Int.reduceAdd, Int.reduceSub, Int.reduceMul, Int.reduceNeg, Int.reduceToNat, Int.reduceEq, h1]
    exact endK_same ⟨by simp [isK, h1], rfl, rfl⟩
theorem k101 (k : Int) (hk : isK k = true) : CallsA Try.prog 101 [.int .i64 k] F M (Same F M (.int .i64 (ofW k))) := by
  refine callsA_of hm Try.func101 e101 (Nat.le_of_ble_eq_true rfl) ?_
  have q0 : (0 : Int).tdiv 2 = 0 := by decide
  have q1 : (1 : Int).tdiv 2 = 0 := by decide
  have q2 : (2 : Int).tdiv 2 = 1 := by decide
  have q3 : (3 : Int).tdiv 2 = 1 := by decide
  have q4 : (4 : Int).tdiv 2 = 2 := by decide
  have q5 : (5 : Int).tdiv 2 = 2 := by decide
  have w0 : IntKind.i64.wrap 0 = 0 := by decide
  have w1 : IntKind.i64.wrap 1 = 1 := by decide
  have w2 : IntKind.i64.wrap 2 = 2 := by decide
  have w3 : IntKind.i64.wrap 3 = 3 := by decide
  have w4 : IntKind.i64.wrap 4 = 4 := by decide
  have w5 : IntKind.i64.wrap 5 = 5 := by decide
  have s0 : shlv .i64 8 0 = 8 := by decide +kernel
  have s1 : shlv .i64 8 1 = 16 := by decide +kernel
  have s2 : shlv .i64 8 2 = 32 := by decide +kernel
  have n2 : ¬ (2 : Int) = 0 := by decide
  rcases isK_cases hk with rfl | rfl | rfl | rfl | rfl | rfl <;>
    simp only [c101, go_sem, reduceCtorEq, reduceIte, Nat.reduceEqDiff, Nat.reduceAdd, Nat.reduceLeDiff, Nat.reduceMul, Int.reduceLT, Int.reduceLE, Int.reduceAdd, Int.reduceSub, Int.reduceMul, Int.reduceNeg, Int.reduceToNat, Int.reduceEq, w0, w1, w2, w3, w4, w5, q0, q1, q2, q3, q4, q5, s0, s1, s2, n2, not_false_eq_true, Int.sub_self] <;>
    exact endK_same ⟨rfl, rfl, rfl⟩
theorem k157 (k : Int) : CallsA Try.prog 157 [.int .i64 k] F M (Same F M (.bool (sgn k))) := by
  refine callsA_of hm Try.func157 e157 (Nat.le_of_ble_eq_true rfl) ?_
  by_cases h1 : k = 2
  · simp only [c157, go_sem, reduceCtorEq, reduceIte, Nat.reduceEqDiff, Nat.reduceAdd, Nat.reduceLeDiff, Nat.reduceMul, Int.reduceLT, Int.reduceLE, Int.reduceAdd, Int.reduceSub, Int.reduceMul, Int.reduceNeg, Int.reduceToNat, Int.reduceEq, h1]
    exact endK_same ⟨rfl, rfl, rfl⟩
  by_cases h2 : k = 4
  · simp only [c157, go_sem, reduceCtorEq, reduceIte, Nat.reduceEqDiff, Nat.reduceAdd, Nat.reduceLeDiff, Nat.reduceMul, Int.reduceLT, Int.reduceLE, Int.reduceAdd, Int.reduceSub, Int.reduceMul, Int.reduceNeg, Int.reduceToNat, Int.reduceEq, h1, h2]
    exact endK_same ⟨rfl, rfl, rfl⟩
  simp only [c157, go_sem, reduceCtorEq, reduceIte, Nat.reduceEqDiff, Nat.reduceAdd, Nat.reduceLeDiff, Nat.reduceMul, Int.reduceLT, Int.reduceLE, Int.reduceAdd, Int.reduceSub, Int.reduceMul, Int.reduceNeg, Int.reduceToNat, Int.reduceEq, h1, h2]
  exact endK_same ⟨by simp [sgn, h1, h2], rfl, rfl⟩
theorem k87 (k : Int) : CallsA Try.prog 87 [.int .i64 k] F M (Same F M (.bool (sgn k))) := by
  refine callsA_of hm Try.func87 e87 (Nat.le_of_ble_eq_true rfl) ?_
  by_cases h1 : k = 2
  · simp only [c87, go_sem, reduceCtorEq, reduceIte, Nat.reduceEqDiff, Nat.reduceAdd, Nat.reduceLeDiff, Nat.reduceMul, Int.reduceLT, Int.reduceLE, Int.reduceAdd, Int.reduceSub, Int.reduceMul, Int.reduceNeg, Int.reduceToNat, Int.reduceEq, h1]
    exact endK_same ⟨rfl, rfl, rfl⟩
  by_cases h2 : k = 4
  · simp only [c87, go_sem, reduceCtorEq, reduceIte, Nat.reduceEqDiff, Nat.reduceAdd, Nat.reduceLeDiff, Nat.reduceMul, Int.reduceLT, Int.reduceLE, Int.reduceAdd, Int.reduceSub, Int.reduceMul, Int.reduceNeg, Int.reduceToNat, Int.reduceEq, h1, h2]
    exact endK_same ⟨rfl, rfl, rfl⟩
  simp only [c87, go_sem, reduceCtorEq, reduceIte, Nat.reduceEqDiff, Nat.reduceAdd, Nat.reduceLeDiff, Nat.reduceMul, Int.reduceLT, Int.reduceLE, Int.reduceAdd, Int.reduceSub, Int.reduceMul, Int.reduceNeg, Int.reduceToNat, Int.reduceEq, h1, h2]
  exact endK_same ⟨by simp [sgn, h1, h2], rfl, rfl⟩
theorem k46 (k : Int) : CallsA Try.prog 46 [.int .i64 k] F M (Same F M (.int .i64 (wK k))) := by
  refine callsA_of hm Try.func46 e46 (Nat.le_of_ble_eq_true rfl) ?_
  by_cases h : isK k = true
  · rcases isK_cases h with rfl | rfl | rfl | rfl | rfl | rfl <;>
      simp only [c46, go_sem, reduceCtorEq, reduceIte, Nat.reduceEqDiff, Nat.reduceAdd, Nat.reduceLeDiff, Nat.reduceMul, Int.reduceLT, Int.reduceLE, Int.reduceAdd, Int.reduceSub, Int.reduceMul, Int.reduceNeg, Int.reduceToNat, Int.reduceEq] <;>
      exact endK_same ⟨rfl, rfl, rfl⟩
  · have hn : ¬ k = 1 ∧ ¬ k = 2 ∧ ¬ k = 3 ∧ ¬ k = 4 ∧ ¬ k = 5 ∧ ¬ k = 6 := by simp [isK] at h; omega
    simp only [c46, go_sem, reduceCtorEq, reduceIte, Nat.reduceEqDiff, Nat.reduceAdd, Nat.reduceLeDiff, Nat.reduceMul, Int.reduceLT, Int.reduceLE, Int.reduceAdd, Int.reduceSub, Int.reduceMul, Int.reduceNeg, Int.reduceToNat, Int.reduceEq, hn]
    exact endK_same ⟨by simp [wK, h], rfl, rfl⟩
theorem k159 (n w : Int) (hw : isW w = true) (h0 : 0 ≤ n) (h1 : n ≤ mostV w) : CallsA Try.prog 159 [.int .i64 n, .int .i64 w] F M (Same F M (.int .i64 (lookV n w))) := by
  refine callsA_of hm Try.func159 e159 (Nat.le_of_ble_eq_true rfl) ?_
  have lw := isW_le hw
  have hp := pow_w hw
  have w1 : IntKind.i64.wrap (w - 1) = w - 1 := w64 (by omega) (by omega)
  have s0 : ¬ w - 1 < 0 := by omega
  have s1 : ¬ w < 0 := by omega
  have e1 : shlv .i64 1 (w - 1) = halfV w := shl1 (by omega) (by omega)
  have e2 : IntKind.i64.wrap (n - 2 ^ w.toNat) = n - 2 ^ w.toNat := w64 (by omega) (by omega)
  by_cases h : halfV w ≤ n
  · simp only [c159, go_sem, reduceCtorEq, reduceIte, Nat.reduceEqDiff, Nat.reduceAdd, Nat.reduceLeDiff, Nat.reduceMul, Int.reduceLT, Int.reduceLE, Int.reduceAdd, Int.reduceSub, Int.reduceMul, Int.reduceNeg, Int.reduceToNat, Int.reduceEq, w1, s0, s1, e1, shl1 lw.1 lw.2, h, e2, not_false_eq_true]
    exact endK_same ⟨by simp [lookV, h], rfl, rfl⟩
  · simp only [c159, go_sem, reduceCtorEq, reduceIte, Nat.reduceEqDiff, Nat.reduceAdd, Nat.reduceLeDiff, Nat.reduceMul, Int.reduceLT, Int.reduceLE, Int.reduceAdd, Int.reduceSub, Int.reduceMul, Int.reduceNeg, Int.reduceToNat, Int.reduceEq, w1, s0, s1, e1, shl1 lw.1 lw.2, h, not_false_eq_true]
    exact endK_same ⟨by simp [lookV, h], rfl, rfl⟩
theorem k122 (n w : Int) (hw : isW w = true) (h0 : 0 ≤ n) (h1 : n ≤ mostV w) : CallsA Try.prog 122 [.int .i64 n, .int .i64 w] F M (Same F M (.int .i64 (lookV n w))) := by
  refine callsA_of hm Try.func122 e122 (Nat.le_of_ble_eq_true rfl) ?_
  have lw := isW_le hw
  have hp := pow_w hw
  have w1 : IntKind.i64.wrap (w - 1) = w - 1 := w64 (by omega) (by omega)
  have s0 : ¬ w - 1 < 0 := by omega
  have s1 : ¬ w < 0 := by omega
  have e1 : shlv .i64 1 (w - 1) = halfV w := shl1 (by omega) (by omega)
  have e2 : IntKind.i64.wrap (n - 2 ^ w.toNat) = n - 2 ^ w.toNat := w64 (by omega) (by omega)
  by_cases h : halfV w ≤ n
  · simp only [c122, go_sem, reduceCtorEq, reduceIte, Nat.reduceEqDiff, Nat.reduceAdd, Nat.reduceLeDiff, Nat.reduceMul, Int.reduceLT, Int.reduceLE, Int.reduceAdd, Int.reduceSub, Int.reduceMul, Int.reduceNeg, Int.reduceToNat, Int.reduceEq, w1, s0, s1, e1, shl1 lw.1 lw.2, h, e2, not_false_eq_true]
    exact endK_same ⟨by simp [lookV, h], rfl, rfl⟩
  · simp only [c122, go_sem, reduceCtorEq, reduceIte, Nat.reduceEqDiff, Nat.reduceAdd, Nat.reduceLeDiff, Nat.reduceMul, Int.reduceLT, Int.reduceLE, Int.reduceAdd, Int.reduceSub, Int.reduceMul, Int.reduceNeg, Int.reduceToNat, Int.reduceEq, w1, s0, s1, e1, shl1 lw.1 lw.2, h, not_false_eq_true]
    exact endK_same ⟨by simp [lookV, h], rfl, rfl⟩
theorem wK_of {k : Int} (h : isK k = true) : wK k = ofW k := by simp [wK, h]
theorem sgn_isK {k : Int} (h : sgn k = true) : isK k = true := by
  simp [sgn] at h; simp [isK]; omega
theorem k149 (k n : Int) (h0 : 0 ≤ n) (h1 : n ≤ mostV (ofW k)) : CallsA Try.prog 149 [.int .i64 k, .int .i64 n] F M (Same F M (.int .i64 (seenV k n))) := by
  refine callsA_of hm Try.func149 e149 (Nat.le_of_ble_eq_true rfl) ?_
  simp only [c149, go_sem, reduceCtorEq, reduceIte, Nat.reduceEqDiff, Nat.reduceAdd, Nat.reduceLeDiff, Nat.reduceMul, Int.reduceLT, Int.reduceLE, Int.reduceAdd, Int.reduceSub, Int.reduceMul, Int.reduceNeg, Int.reduceToNat, Int.reduceEq]
  refine callK_same (k157 F _ k) ?_
  cases hs : sgn k
  · simp only [go_sem, reduceCtorEq, reduceIte, Nat.reduceEqDiff, Nat.reduceAdd, Nat.reduceLeDiff, Nat.reduceMul, Int.reduceLT, Int.reduceLE, Int.reduceAdd, Int.reduceSub, Int.reduceMul, Int.reduceNeg, Int.reduceToNat, Int.reduceEq]
    exact endK_same ⟨by simp [seenV, hs], rfl, rfl⟩
  · simp only [go_sem, reduceCtorEq, reduceIte, Nat.reduceEqDiff, Nat.reduceAdd, Nat.reduceLeDiff, Nat.reduceMul, Int.reduceLT, Int.reduceLE, Int.reduceAdd, Int.reduceSub, Int.reduceMul, Int.reduceNeg, Int.reduceToNat, Int.reduceEq]
    refine callK_same (k101 F _ k (sgn_isK hs)) ?_
    simp only [go_sem, reduceCtorEq, reduceIte, Nat.reduceEqDiff, Nat.reduceAdd, Nat.reduceLeDiff, Nat.reduceMul, Int.reduceLT, Int.reduceLE, Int.reduceAdd, Int.reduceSub, Int.reduceMul, Int.reduceNeg, Int.reduceToNat, Int.reduceEq]
    refine callK_same (k159 F _ n _ (ofW_isW k) h0 h1) ?_
    simp only [go_sem, reduceCtorEq, reduceIte, Nat.reduceEqDiff, Nat.reduceAdd, Nat.reduceLeDiff, Nat.reduceMul, Int.reduceLT, Int.reduceLE, Int.reduceAdd, Int.reduceSub, Int.reduceMul, Int.reduceNeg, Int.reduceToNat, Int.reduceEq]
    exact endK_same ⟨by simp [seenV, hs], rfl, rfl⟩
theorem k85 (k n : Int) (h0 : 0 ≤ n) (h1 : n ≤ mostV (ofW k)) : CallsA Try.prog 85 [.int .i64 k, .int .i64 n] F M (Same F M (.int .i64 (seenV k n))) := by
  refine callsA_of hm Try.func85 e85 (Nat.le_of_ble_eq_true rfl) ?_
  simp only [c85, go_sem, reduceCtorEq, reduceIte, Nat.reduceEqDiff, Nat.reduceAdd, Nat.reduceLeDiff, Nat.reduceMul, Int.reduceLT, Int.reduceLE, Int.reduceAdd, Int.reduceSub, Int.reduceMul, Int.reduceNeg, Int.reduceToNat, Int.reduceEq]
  refine callK_same (k87 F _ k) ?_
  cases hs : sgn k
  · simp only [go_sem, reduceCtorEq, reduceIte, Nat.reduceEqDiff, Nat.reduceAdd, Nat.reduceLeDiff, Nat.reduceMul, Int.reduceLT, Int.reduceLE, Int.reduceAdd, Int.reduceSub, Int.reduceMul, Int.reduceNeg, Int.reduceToNat, Int.reduceEq]
    exact endK_same ⟨by simp [seenV, hs], rfl, rfl⟩
  · simp only [go_sem, reduceCtorEq, reduceIte, Nat.reduceEqDiff, Nat.reduceAdd, Nat.reduceLeDiff, Nat.reduceMul, Int.reduceLT, Int.reduceLE, Int.reduceAdd, Int.reduceSub, Int.reduceMul, Int.reduceNeg, Int.reduceToNat, Int.reduceEq]
    refine callK_same (k46 F _ k) ?_
    simp only [go_sem, reduceCtorEq, reduceIte, Nat.reduceEqDiff, Nat.reduceAdd, Nat.reduceLeDiff, Nat.reduceMul, Int.reduceLT, Int.reduceLE, Int.reduceAdd, Int.reduceSub, Int.reduceMul, Int.reduceNeg, Int.reduceToNat, Int.reduceEq, wK_of (sgn_isK hs)]
    refine callK_same (k122 F _ n _ (ofW_isW k) h0 h1) ?_
    simp only [go_sem, reduceCtorEq, reduceIte, Nat.reduceEqDiff, Nat.reduceAdd, Nat.reduceLeDiff, Nat.reduceMul, Int.reduceLT, Int.reduceLE, Int.reduceAdd, Int.reduceSub, Int.reduceMul, Int.reduceNeg, Int.reduceToNat, Int.reduceEq]
    exact endK_same ⟨by simp [seenV, hs], rfl, rfl⟩
theorem k146 (k : Int) (hk : isK k = true) : CallsA Try.prog 146 [.int .i64 k] F M (Same F M (.tuple #[.int .i64 (leastK k), .int .i64 (mostK k)])) := by
  refine callsA_of hm Try.func146 e146 (Nat.le_of_ble_eq_true rfl) ?_
  have hw := ofW_isW k
  have lw := isW_le hw
  have hp := pow_w hw
  simp only [c146, go_sem, reduceCtorEq, reduceIte, Nat.reduceEqDiff, Nat.reduceAdd, Nat.reduceLeDiff, Nat.reduceMul, Int.reduceLT, Int.reduceLE, Int.reduceAdd, Int.reduceSub, Int.reduceMul, Int.reduceNeg, Int.reduceToNat, Int.reduceEq]
  refine callK_same (k101 F _ k hk) ?_
  simp only [go_sem, reduceCtorEq, reduceIte, Nat.reduceEqDiff, Nat.reduceAdd, Nat.reduceLeDiff, Nat.reduceMul, Int.reduceLT, Int.reduceLE, Int.reduceAdd, Int.reduceSub, Int.reduceMul, Int.reduceNeg, Int.reduceToNat, Int.reduceEq]
  refine callK_same (k157 F _ k) ?_
  have w1 : IntKind.i64.wrap (ofW k - 1) = ofW k - 1 := w64 (by omega) (by omega)
  have s0 : ¬ ofW k - 1 < 0 := by omega
  have e1 : shlv .i64 1 (ofW k - 1) = halfV (ofW k) := shl1 (by omega) (by omega)
  have e3 : shlv .i64 (-1) (ofW k - 1) = -(halfV (ofW k)) := shlm (by omega) (by omega)
  have e2 : IntKind.i64.wrap (halfV (ofW k) - 1) = halfV (ofW k) - 1 := w64 (by omega) (by omega)
  cases hs : sgn k
  · simp only [go_sem, reduceCtorEq, reduceIte, Nat.reduceEqDiff, Nat.reduceAdd, Nat.reduceLeDiff, Nat.reduceMul, Int.reduceLT, Int.reduceLE, Int.reduceAdd, Int.reduceSub, Int.reduceMul, Int.reduceNeg, Int.reduceToNat, Int.reduceEq]
    refine callK_same (k137 F _ _ lw.1 lw.2) ?_
    simp only [go_sem, reduceCtorEq, reduceIte, Nat.reduceEqDiff, Nat.reduceAdd, Nat.reduceLeDiff, Nat.reduceMul, Int.reduceLT, Int.reduceLE, Int.reduceAdd, Int.reduceSub, Int.reduceMul, Int.reduceNeg, Int.reduceToNat, Int.reduceEq]
    exact endK_same ⟨by simp [leastK, mostK, hs], rfl, rfl⟩
  · simp only [go_sem, reduceCtorEq, reduceIte, Nat.reduceEqDiff, Nat.reduceAdd, Nat.reduceLeDiff, Nat.reduceMul, Int.reduceLT, Int.reduceLE, Int.reduceAdd, Int.reduceSub, Int.reduceMul, Int.reduceNeg, Int.reduceToNat, Int.reduceEq, w1, s0, e1, e2, e3, not_false_eq_true]
    exact endK_same ⟨by simp [leastK, mostK, hs], rfl, rfl⟩
theorem k88 (b : Bool) : CallsA Try.prog 88 [.bool b] F M (Same F M (.int .i64 (if b then 1 else 0))) := by
  refine callsA_of hm Try.func88 e88 (Nat.le_of_ble_eq_true rfl) ?_
  cases b
  · simp only [c88, go_sem, reduceCtorEq, reduceIte, Nat.reduceEqDiff, Nat.reduceAdd, Nat.reduceLeDiff, Nat.reduceMul, Int.reduceLT, Int.reduceLE, Int.reduceAdd, Int.reduceSub, Int.reduceMul, Int.reduceNeg, Int.reduceToNat, Int.reduceEq]
    exact endK_same ⟨rfl, rfl, rfl⟩
  · simp only [c88, go_sem, reduceCtorEq, reduceIte, Nat.reduceEqDiff, Nat.reduceAdd, Nat.reduceLeDiff, Nat.reduceMul, Int.reduceLT, Int.reduceLE, Int.reduceAdd, Int.reduceSub, Int.reduceMul, Int.reduceNeg, Int.reduceToNat, Int.reduceEq]
    exact endK_same ⟨rfl, rfl, rfl⟩
theorem k44q (op k a b : Int) (hop : op = 18 ∨ op = 19) (a0 : 0 ≤ a) (a1 : a ≤ mostV (ofW k)) (b0 : 0 ≤ b) (b1 : b ≤ mostV (ofW k)) :
    CallsA Try.prog 44 [.int .i64 op, .int .i64 k, .int .i64 a, .int .i64 b] F M (Same F M (.tuple #[.int .i64 (if askV op k a b then 1 else 0), .int .i64 0])) := by
  refine callsA_of hm Try.func44 e44 (Nat.le_of_ble_eq_true rfl) ?_
  simp only [c44, go_sem, reduceCtorEq, reduceIte, Nat.reduceEqDiff, Nat.reduceAdd, Nat.reduceLeDiff, Nat.reduceMul, Int.reduceLT, Int.reduceLE, Int.reduceAdd, Int.reduceSub, Int.reduceMul, Int.reduceNeg, Int.reduceToNat, Int.reduceEq]
  refine callK_same (k46 F _ k) ?_
  simp only [go_sem, reduceCtorEq, reduceIte, Nat.reduceEqDiff, Nat.reduceAdd, Nat.reduceLeDiff, Nat.reduceMul, Int.reduceLT, Int.reduceLE, Int.reduceAdd, Int.reduceSub, Int.reduceMul, Int.reduceNeg, Int.reduceToNat, Int.reduceEq]
  refine callK_same (k85 F _ k a a0 a1) ?_
  simp only [go_sem, reduceCtorEq, reduceIte, Nat.reduceEqDiff, Nat.reduceAdd, Nat.reduceLeDiff, Nat.reduceMul, Int.reduceLT, Int.reduceLE, Int.reduceAdd, Int.reduceSub, Int.reduceMul, Int.reduceNeg, Int.reduceToNat, Int.reduceEq]
  refine callK_same (k85 F _ k b b0 b1) ?_
  rcases hop with rfl | rfl
  · simp only [go_sem, reduceCtorEq, reduceIte, Nat.reduceEqDiff, Nat.reduceAdd, Nat.reduceLeDiff, Nat.reduceMul, Int.reduceLT, Int.reduceLE, Int.reduceAdd, Int.reduceSub, Int.reduceMul, Int.reduceNeg, Int.reduceToNat, Int.reduceEq]
    refine callK_same (k88 F _ _) ?_
    simp only [go_sem, reduceCtorEq, reduceIte, Nat.reduceEqDiff, Nat.reduceAdd, Nat.reduceLeDiff, Nat.reduceMul, Int.reduceLT, Int.reduceLE, Int.reduceAdd, Int.reduceSub, Int.reduceMul, Int.reduceNeg, Int.reduceToNat, Int.reduceEq]
    exact endK_same ⟨by simp [askV], rfl, rfl⟩
  · simp only [go_sem, reduceCtorEq, reduceIte, Nat.reduceEqDiff, Nat.reduceAdd, Nat.reduceLeDiff, Nat.reduceMul, Int.reduceLT, Int.reduceLE, Int.reduceAdd, Int.reduceSub, Int.reduceMul, Int.reduceNeg, Int.reduceToNat, Int.reduceEq]
    refine callK_same (k88 F _ _) ?_
    simp only [go_sem, reduceCtorEq, reduceIte, Nat.reduceEqDiff, Nat.reduceAdd, Nat.reduceLeDiff, Nat.reduceMul, Int.reduceLT, Int.reduceLE, Int.reduceAdd, Int.reduceSub, Int.reduceMul, Int.reduceNeg, Int.reduceToNat, Int.reduceEq]
    exact endK_same ⟨by simp [askV], rfl, rfl⟩
theorem k124 (k t a : Int) (ht : isK t = true) (a0 : 0 ≤ a) (a1 : a ≤ mostV (ofW k)) : CallsA Try.prog 124 [.int .i64 k, .int .i64 t, .int .i64 a] F M (Same F M (.int .i64 (seenV k a % 2 ^ (ofW t).toNat))) := by
  refine callsA_of hm Try.func124 e124 (Nat.le_of_ble_eq_true rfl) ?_
  have lw := isW_le (ofW_isW t)
  simp only [c124, go_sem, reduceCtorEq, reduceIte, Nat.reduceEqDiff, Nat.reduceAdd, Nat.reduceLeDiff, Nat.reduceMul, Int.reduceLT, Int.reduceLE, Int.reduceAdd, Int.reduceSub, Int.reduceMul, Int.reduceNeg, Int.reduceToNat, Int.reduceEq]
  refine callK_same (k149 F _ k a a0 a1) ?_
  simp only [go_sem, reduceCtorEq, reduceIte, Nat.reduceEqDiff, Nat.reduceAdd, Nat.reduceLeDiff, Nat.reduceMul, Int.reduceLT, Int.reduceLE, Int.reduceAdd, Int.reduceSub, Int.reduceMul, Int.reduceNeg, Int.reduceToNat, Int.reduceEq]
  refine callK_same (k101 F _ t ht) ?_
  simp only [go_sem, reduceCtorEq, reduceIte, Nat.reduceEqDiff, Nat.reduceAdd, Nat.reduceLeDiff, Nat.reduceMul, Int.reduceLT, Int.reduceLE, Int.reduceAdd, Int.reduceSub, Int.reduceMul, Int.reduceNeg, Int.reduceToNat, Int.reduceEq]
  refine callK_same (k145 F _ _ _ lw.1 lw.2) ?_
  simp only [go_sem, reduceCtorEq, reduceIte, Nat.reduceEqDiff, Nat.reduceAdd, Nat.reduceLeDiff, Nat.reduceMul, Int.reduceLT, Int.reduceLE, Int.reduceAdd, Int.reduceSub, Int.reduceMul, Int.reduceNeg, Int.reduceToNat, Int.reduceEq]
  exact endK_same ⟨rfl, rfl, rfl⟩
theorem k48 (k t a : Int) (ht : isK t = true) (a0 : 0 ≤ a) (a1 : a ≤ mostV (ofW k)) : CallsA Try.prog 48 [.int .i64 k, .int .i64 t, .int .i64 a] F M (Same F M (.int .i64 (seenV k a % 2 ^ (ofW t).toNat))) := by
  refine callsA_of hm Try.func48 e48 (Nat.le_of_ble_eq_true rfl) ?_
  have lw := isW_le (ofW_isW t)
  simp only [c48, go_sem, reduceCtorEq, reduceIte, Nat.reduceEqDiff, Nat.reduceAdd, Nat.reduceLeDiff, Nat.reduceMul, Int.reduceLT, Int.reduceLE, Int.reduceAdd, Int.reduceSub, Int.reduceMul, Int.reduceNeg, Int.reduceToNat, Int.reduceEq]
  refine callK_same (k85 F _ k a a0 a1) ?_
  simp only [go_sem, reduceCtorEq, reduceIte, Nat.reduceEqDiff, Nat.reduceAdd, Nat.reduceLeDiff, Nat.reduceMul, Int.reduceLT, Int.reduceLE, Int.reduceAdd, Int.reduceSub, Int.reduceMul, Int.reduceNeg, Int.reduceToNat, Int.reduceEq]
  refine callK_same (k46 F _ t) ?_
  simp only [go_sem, reduceCtorEq, reduceIte, Nat.reduceEqDiff, Nat.reduceAdd, Nat.reduceLeDiff, Nat.reduceMul, Int.reduceLT, Int.reduceLE, Int.reduceAdd, Int.reduceSub, Int.reduceMul, Int.reduceNeg, Int.reduceToNat, Int.reduceEq, wK_of ht]
  refine callK_same (k57 F _ _ _ lw.1 lw.2) ?_
  simp only [go_sem, reduceCtorEq, reduceIte, Nat.reduceEqDiff, Nat.reduceAdd, Nat.reduceLeDiff, Nat.reduceMul, Int.reduceLT, Int.reduceLE, Int.reduceAdd, Int.reduceSub, Int.reduceMul, Int.reduceNeg, Int.reduceToNat, Int.reduceEq]
  exact endK_same ⟨rfl, rfl, rfl⟩
end Go.Proofs.Try.K

/- Contracts: the least and the greatest that a kind sees in a set. -/
namespace Go.Proofs.Try.K
open Go Go.Ax Go.Proofs.Try.S
set_option maxRecDepth 100000
set_option linter.unusedSimpArgs false
set_option linter.unusedVariables false
variable (F : Fz) (M : Hp)

def laI (v : V) (n : Int) (F0 : Fz) (M0 : Hp) (r2 : Nat) (m : Nat) (σ : Env) (F : Fz) (M : Hp) : Prop :=
  F = F0 ∧ M = M0 ∧ Ax.look σ 1 = some (.int .i64 n) ∧ Ax.look σ 2 = some (.pointer (some ⟨r2, 0, none⟩)) ∧ ∃ lo hi : Int, Ax.look σ 5 = some (.int .i64 lo) ∧ Ax.look σ 6 = some (.int .i64 hi) ∧
  0 ≤ lo ∧ lo ≤ n ∧ v.has lo = true ∧ lo < hi ∧ hi ≤ n + 1 ∧ (∀ y, hi ≤ y → y ≤ n → v.has y = false) ∧ m = (hi - lo).toNat
theorem k158 (v : V) (n : Int) (hv : v.ok = true) (h0 : 0 ≤ n) (h1 : n ≤ mostV v.w) : CallsA Try.prog 158 [v.val, .int .i64 n] F M fun u F' M' => F' = F ∧ M' = M ∧ ∃ z : Int, u = .int .i64 z ∧ LastR v n z := by
  refine callsA_of hm Try.func158 e158 (Nat.le_of_ble_eq_true rfl) ?_
  have hw := (ok_in hv).w
  have hp := pow_w hw
  have e1 : IntKind.i64.wrap (n + 1) = n + 1 := w64 (by omega) (by omega)
  simp only [c158, go_sem, reduceCtorEq, reduceIte, Nat.reduceEqDiff, Nat.reduceAdd, Nat.reduceLeDiff, Nat.reduceMul, Int.reduceLT, Int.reduceLE, Int.reduceAdd, Int.reduceSub, Int.reduceMul, Int.reduceNeg, Int.reduceToNat, Int.reduceEq]
  intro r2 hF2 hM2
  simp only [go_sem, reduceCtorEq, reduceIte, Nat.reduceEqDiff, Nat.reduceAdd, Nat.reduceLeDiff, Nat.reduceMul, Int.reduceLT, Int.reduceLE, Int.reduceAdd, Int.reduceSub, Int.reduceMul, Int.reduceNeg, Int.reduceToNat, Int.reduceEq]
  refine callK_same (k140 F _ v 0 hv) ?_
  have sp := nextR_spec hv (n := 0) (by omega)
  generalize v.nextR 0 = x at *
  by_cases hx : x < 0
  · simp only [go_sem, reduceCtorEq, reduceIte, Nat.reduceEqDiff, Nat.reduceAdd, Nat.reduceLeDiff, Nat.reduceMul, Int.reduceLT, Int.reduceLE, Int.reduceAdd, Int.reduceSub, Int.reduceMul, Int.reduceNeg, Int.reduceToNat, Int.reduceEq, e1, hx]
    refine endK_drop hM2 (endK_same ⟨rfl, rfl, -1, rfl, .inl ⟨rfl, fun y y0 y1 => ?_⟩⟩)
    rcases sp with ⟨k1, _⟩ | ⟨_, k⟩
    · omega
    · exact k y y0 (by omega)
  by_cases hxn : n < x
  · simp only [go_sem, reduceCtorEq, reduceIte, Nat.reduceEqDiff, Nat.reduceAdd, Nat.reduceLeDiff, Nat.reduceMul, Int.reduceLT, Int.reduceLE, Int.reduceAdd, Int.reduceSub, Int.reduceMul, Int.reduceNeg, Int.reduceToNat, Int.reduceEq, e1, hx, hxn]
    refine endK_drop hM2 (endK_same ⟨rfl, rfl, -1, rfl, .inl ⟨rfl, fun y y0 y1 => ?_⟩⟩)
    rcases sp with ⟨k1, k2, k3, k4, k5⟩ | ⟨k, _⟩
    · exact k5 y y0 (by omega)
    · omega
  have hxh : v.has x = true ∧ 0 ≤ x := by
    rcases sp with ⟨k1, k2, k3, k4, k5⟩ | ⟨k, _⟩
    · exact ⟨k4, by omega⟩
    · omega
  simp only [go_sem, reduceCtorEq, reduceIte, Nat.reduceEqDiff, Nat.reduceAdd, Nat.reduceLeDiff, Nat.reduceMul, Int.reduceLT, Int.reduceLE, Int.reduceAdd, Int.reduceSub, Int.reduceMul, Int.reduceNeg, Int.reduceToNat, Int.reduceEq, e1, hx, hxn]
  refine loop_of (laI v n F (M.upd r2 ⟨v.cs, 34, 6⟩) r2) (n + 1 - x).toNat ?_ ?_
  · exact ⟨rfl, rfl, by simp only [go_sem, reduceCtorEq, reduceIte, Nat.reduceEqDiff], by simp only [go_sem, reduceCtorEq, reduceIte, Nat.reduceEqDiff], x, n + 1, by simp only [go_sem, reduceCtorEq, reduceIte, Nat.reduceEqDiff], by simp only [go_sem, reduceCtorEq, reduceIte, Nat.reduceEqDiff], by omega, by omega, hxh.1, by omega, by omega, fun y y0 y1 => by omega, rfl⟩
  clear hx hxn hxh sp x
  rintro m σ F' M' ⟨rfl, rfl, q1, q2, lo, hi, q5, q6, l0, l1, hl, lh, hn, hnone, rfl⟩
  have e2 : IntKind.i64.wrap (lo + 1) = lo + 1 := w64 (by omega) (by omega)
  by_cases hlh : lo + 1 < hi
  · have e3 : IntKind.i64.wrap (hi - lo) = hi - lo := w64 (by omega) (by omega)
    have e4 : (hi - lo).tdiv 2 = (hi - lo) / 2 := Int.tdiv_eq_ediv_of_nonneg (by omega)
    have e5 : IntKind.i64.wrap ((hi - lo) / 2) = (hi - lo) / 2 := w64 (by omega) (by omega)
    have e6 : IntKind.i64.wrap (lo + (hi - lo) / 2) = lo + (hi - lo) / 2 := w64 (by omega) (by omega)
    have n2 : ¬ (2 : Int) = 0 := by decide
    simp only [go_sem, reduceCtorEq, reduceIte, Nat.reduceEqDiff, Nat.reduceAdd, Nat.reduceLeDiff, Nat.reduceMul, Int.reduceLT, Int.reduceLE, Int.reduceAdd, Int.reduceSub, Int.reduceMul, Int.reduceNeg, Int.reduceToNat, Int.reduceEq, q1, q2, q5, q6, e2, hlh, e3, e4, e5, e6, n2, not_false_eq_true]
    have hm : lo < lo + (hi - lo) / 2 ∧ lo + (hi - lo) / 2 < hi := by omega
    generalize lo + (hi - lo) / 2 = mid at *
    refine callK_same (k140 F' _ v mid hv) ?_
    have sp := nextR_spec hv (n := mid) (by omega)
    generalize v.nextR mid = x at *
    have up : x < 0 ∨ n < x → ∀ y, mid ≤ y → y ≤ n → v.has y = false := by
      intro hx y y0 y1
      rcases sp with ⟨k1, k2, k3, k4, k5⟩ | ⟨k, kk⟩
      · exact k5 y y0 (by omega)
      · exact kk y y0 (by omega)
    by_cases hx0 : 0 ≤ x
    · by_cases hxn : x ≤ n
      · have hxh : v.has x = true ∧ mid ≤ x := by
          rcases sp with ⟨k1, k2, k3, k4, k5⟩ | ⟨k, _⟩
          · exact ⟨k4, k2⟩
          · omega
        have hxhi : x < hi := by
          by_cases h : hi ≤ x
          · have := hnone x h hxn
            rw [hxh.1] at this; cases this
          · omega
        simp only [go_sem, reduceCtorEq, reduceIte, Nat.reduceEqDiff, Nat.reduceAdd, Nat.reduceLeDiff, Nat.reduceMul, Int.reduceLT, Int.reduceLE, Int.reduceAdd, Int.reduceSub, Int.reduceMul, Int.reduceNeg, Int.reduceToNat, Int.reduceEq, q1, q2, q5, q6, hx0, hxn]
        exact ⟨(hi - x).toNat, by omega, rfl, rfl, by simp only [go_sem, reduceCtorEq, reduceIte, Nat.reduceEqDiff, q1], by simp only [go_sem, reduceCtorEq, reduceIte, Nat.reduceEqDiff, q2], x, hi, by simp only [go_sem, reduceCtorEq, reduceIte, Nat.reduceEqDiff], by simp only [go_sem, reduceCtorEq, reduceIte, Nat.reduceEqDiff, q6], hx0, hxn, hxh.1, hxhi, hn, hnone, rfl⟩
      · simp only [go_sem, reduceCtorEq, reduceIte, Nat.reduceEqDiff, Nat.reduceAdd, Nat.reduceLeDiff, Nat.reduceMul, Int.reduceLT, Int.reduceLE, Int.reduceAdd, Int.reduceSub, Int.reduceMul, Int.reduceNeg, Int.reduceToNat, Int.reduceEq, q1, q2, q5, q6, hx0, hxn]
        exact ⟨(mid - lo).toNat, by omega, rfl, rfl, by simp only [go_sem, reduceCtorEq, reduceIte, Nat.reduceEqDiff, q1], by simp only [go_sem, reduceCtorEq, reduceIte, Nat.reduceEqDiff, q2], lo, mid, by simp only [go_sem, reduceCtorEq, reduceIte, Nat.reduceEqDiff, q5], by simp only [go_sem, reduceCtorEq, reduceIte, Nat.reduceEqDiff], l0, l1, hl, hm.1, by omega, up (.inr (by omega)), rfl⟩
    · simp only [go_sem, reduceCtorEq, reduceIte, Nat.reduceEqDiff, Nat.reduceAdd, Nat.reduceLeDiff, Nat.reduceMul, Int.reduceLT, Int.reduceLE, Int.reduceAdd, Int.reduceSub, Int.reduceMul, Int.reduceNeg, Int.reduceToNat, Int.reduceEq, q1, q2, q5, q6, hx0]
      exact ⟨(mid - lo).toNat, by omega, rfl, rfl, by simp only [go_sem, reduceCtorEq, reduceIte, Nat.reduceEqDiff, q1], by simp only [go_sem, reduceCtorEq, reduceIte, Nat.reduceEqDiff, q2], lo, mid, by simp only [go_sem, reduceCtorEq, reduceIte, Nat.reduceEqDiff, q5], by simp only [go_sem, reduceCtorEq, reduceIte, Nat.reduceEqDiff], l0, l1, hl, hm.1, by omega, up (.inl (by omega)), rfl⟩
  · simp only [go_sem, reduceCtorEq, reduceIte, Nat.reduceEqDiff, Nat.reduceAdd, Nat.reduceLeDiff, Nat.reduceMul, Int.reduceLT, Int.reduceLE, Int.reduceAdd, Int.reduceSub, Int.reduceMul, Int.reduceNeg, Int.reduceToNat, Int.reduceEq, q1, q2, q5, q6, e2, hlh]
    exact endK_drop hM2 (endK_same ⟨rfl, rfl, lo, rfl, .inr ⟨l0, l1, hl, fun y y0 y1 => hnone y (by omega) y1⟩⟩)

theorem last_some {v : V} {n z : Int} (h : LastR v n z) {y : Int} (y0 : 0 ≤ y) (y1 : y ≤ n) (hy : v.has y = true) : 0 ≤ z ∧ z ≤ n ∧ v.has z = true ∧ ∀ y, z < y → y ≤ n → v.has y = false := by
  rcases h with ⟨_, h⟩ | h
  · rw [h y y0 y1] at hy; cases hy
  · exact h
theorem k147 (k : Int) (v : V) (hk : isK k = true) (hv : v.ok = true) (hvw : v.w = ofW k) (hne : ¬ v.nextR 0 < 0) :
    CallsA Try.prog 147 [.int .i64 k, v.val] F M fun u F' M' => F' = F ∧ M' = M ∧ ∃ lo hi : Int, u = .tuple #[.int .i64 lo, .int .i64 hi] ∧ SeenR k v lo hi := by
  refine callsA_of hm Try.func147 e147 (Nat.le_of_ble_eq_true rfl) ?_
  have hw := (ok_in hv).w
  have lw := isW_le hw
  have hp := pow_w hw
  obtain ⟨s1, s2, s3⟩ := some_has hv hne
  have sp0 := nextR_spec hv (n := 0) (by omega)
  simp only [c147, go_sem, reduceCtorEq, reduceIte, Nat.reduceEqDiff, Nat.reduceAdd, Nat.reduceLeDiff, Nat.reduceMul, Int.reduceLT, Int.reduceLE, Int.reduceAdd, Int.reduceSub, Int.reduceMul, Int.reduceNeg, Int.reduceToNat, Int.reduceEq]
  intro r3 hF3 hM3
  simp only [go_sem, reduceCtorEq, reduceIte, Nat.reduceEqDiff, Nat.reduceAdd, Nat.reduceLeDiff, Nat.reduceMul, Int.reduceLT, Int.reduceLE, Int.reduceAdd, Int.reduceSub, Int.reduceMul, Int.reduceNeg, Int.reduceToNat, Int.reduceEq]
  refine callK_same (k157 F _ k) ?_
  cases hs : sgn k
  · have es : ∀ n, seenV k n = n := fun n => by simp [seenV, hs]
    simp only [go_sem, reduceCtorEq, reduceIte, Nat.reduceEqDiff, Nat.reduceAdd, Nat.reduceLeDiff, Nat.reduceMul, Int.reduceLT, Int.reduceLE, Int.reduceAdd, Int.reduceSub, Int.reduceMul, Int.reduceNeg, Int.reduceToNat, Int.reduceEq]
    refine callK_same (k140 F _ v 0 hv) ?_
    simp only [go_sem, reduceCtorEq, reduceIte, Nat.reduceEqDiff, Nat.reduceAdd, Nat.reduceLeDiff, Nat.reduceMul, Int.reduceLT, Int.reduceLE, Int.reduceAdd, Int.reduceSub, Int.reduceMul, Int.reduceNeg, Int.reduceToNat, Int.reduceEq]
    refine callK_same (k137 F _ v.w lw.1 lw.2) ?_
    simp only [go_sem, reduceCtorEq, reduceIte, Nat.reduceEqDiff, Nat.reduceAdd, Nat.reduceLeDiff, Nat.reduceMul, Int.reduceLT, Int.reduceLE, Int.reduceAdd, Int.reduceSub, Int.reduceMul, Int.reduceNeg, Int.reduceToNat, Int.reduceEq]
    refine callK_of (k158 F _ v _ hv (by omega) (by omega)) ?_
    rintro u G M' ⟨rfl, rfl, z, rfl, hz⟩
    refine ⟨fun _ => Le.refl _ _, ?_⟩
    simp only [go_sem, reduceCtorEq, reduceIte, Nat.reduceEqDiff, Nat.reduceAdd, Nat.reduceLeDiff, Nat.reduceMul, Int.reduceLT, Int.reduceLE, Int.reduceAdd, Int.reduceSub, Int.reduceMul, Int.reduceNeg, Int.reduceToNat, Int.reduceEq]
    obtain ⟨z1, z2, z3, z4⟩ := last_some hz s1 s2 s3
    refine endK_drop hM3 (endK_same ⟨rfl, rfl, _, _, rfl, ?_, ⟨_, s1, s2, s3, es _⟩, ⟨z, z1, z2, z3, es _⟩⟩)
    intro n n0 n1 hn
    rw [es]
    constructor
    · rcases sp0 with ⟨_, _, _, _, k5⟩ | ⟨k, _⟩
      · by_cases h : v.nextR 0 ≤ n
        · exact h
        · rw [k5 n n0 (by omega)] at hn; cases hn
      · omega
    · by_cases h : n ≤ z
      · exact h
      · rw [z4 n (by omega) n1] at hn; cases hn
  · have es : ∀ n, seenV k n = lookV n v.w := fun n => by simp [seenV, hs, hvw]
    have w1 : IntKind.i64.wrap (v.w - 1) = v.w - 1 := w64 (by omega) (by omega)
    have c0 : ¬ v.w - 1 < 0 := by omega
    have e1 : shlv .i64 1 (v.w - 1) = halfV v.w := shl1 (by omega) (by omega)
    have e2 : IntKind.i64.wrap (halfV v.w - 1) = halfV v.w - 1 := w64 (by omega) (by omega)
    simp only [go_sem, reduceCtorEq, reduceIte, Nat.reduceEqDiff, Nat.reduceAdd, Nat.reduceLeDiff, Nat.reduceMul, Int.reduceLT, Int.reduceLE, Int.reduceAdd, Int.reduceSub, Int.reduceMul, Int.reduceNeg, Int.reduceToNat, Int.reduceEq, w1, c0, e1, e2, not_false_eq_true]
    refine callK_same (k140 F _ v _ hv) ?_
    have sph := nextR_spec hv (n := halfV v.w) (by omega)
    simp only [go_sem, reduceCtorEq, reduceIte, Nat.reduceEqDiff, Nat.reduceAdd, Nat.reduceLeDiff, Nat.reduceMul, Int.reduceLT, Int.reduceLE, Int.reduceAdd, Int.reduceSub, Int.reduceMul, Int.reduceNeg, Int.reduceToNat, Int.reduceEq, w1, c0, e1, e2]
    refine callK_of (k158 F _ v _ hv (by omega) (by omega)) ?_
    rintro u G M' ⟨rfl, rfl, z, rfl, hz⟩
    refine ⟨fun _ => Le.refl _ _, ?_⟩
    -- the least that is seen, and the greatest
    have lowD : ∀ l, (v.nextR (halfV v.w) < 0 ∧ l = v.nextR 0 ∨ ¬ v.nextR (halfV v.w) < 0 ∧ l = v.nextR (halfV v.w)) → 0 ≤ l ∧ l ≤ mostV v.w ∧ v.has l = true ∧ ∀ n, 0 ≤ n → n ≤ mostV v.w → v.has n = true → lookV l v.w ≤ lookV n v.w := by
      intro l hl
      rcases hl with ⟨h1, rfl⟩ | ⟨h1, rfl⟩
      · refine ⟨s1, s2, s3, fun n n0 n1 hn => ?_⟩
        have g1 : n < halfV v.w := by
          by_cases h : n < halfV v.w
          · exact h
          · rcases sph with ⟨k1, _⟩ | ⟨_, kk⟩
            · omega
            · rw [kk n (by omega) n1] at hn; cases hn
        have g2 : v.nextR 0 ≤ n := by
          rcases sp0 with ⟨_, _, _, _, k5⟩ | ⟨k, _⟩
          · by_cases h : v.nextR 0 ≤ n
            · exact h
            · rw [k5 n n0 (by omega)] at hn; cases hn
          · omega
        unfold lookV
        rw [if_neg (by omega), if_neg (by omega)]; exact g2
      · rcases sph with ⟨k1, k2, k3, k4, k5⟩ | ⟨kk, _⟩
        · refine ⟨k1, k3, k4, fun n n0 n1 hn => ?_⟩
          unfold lookV
          rw [if_pos k2]
          split
          · rename_i g
            by_cases h : v.nextR (halfV v.w) ≤ n
            · omega
            · rw [k5 n g (by omega)] at hn; cases hn
          · omega
        · omega
    have highD : ∀ h, (z < 0 ∧ LastR v (mostV v.w) h ∨ ¬ z < 0 ∧ h = z) → 0 ≤ h ∧ h ≤ mostV v.w ∧ v.has h = true ∧ ∀ n, 0 ≤ n → n ≤ mostV v.w → v.has n = true → lookV n v.w ≤ lookV h v.w := by
      intro h hh
      rcases hh with ⟨h1, hz2⟩ | ⟨h1, rfl⟩
      · obtain ⟨a1, a2, a3, a4⟩ := last_some hz2 s1 s2 s3
        have none : ∀ y, 0 ≤ y → y ≤ halfV v.w - 1 → v.has y = false := by
          rcases hz with ⟨_, g⟩ | ⟨g, _⟩
          · exact g
          · omega
        have big : ∀ n, 0 ≤ n → v.has n = true → halfV v.w ≤ n := by
          intro n n0 hn
          by_cases g : halfV v.w ≤ n
          · exact g
          · rw [none n n0 (by omega)] at hn; cases hn
        refine ⟨a1, a2, a3, fun n n0 n1 hn => ?_⟩
        have g1 := big n n0 hn
        have g2 := big h a1 a3
        unfold lookV
        rw [if_pos g1, if_pos g2]
        by_cases g : n ≤ h
        · omega
        · rw [a4 n (by omega) n1] at hn; cases hn
      · rcases hz with ⟨g, _⟩ | ⟨g1, g2, g3, g4⟩
        · omega
        · refine ⟨g1, by omega, g3, fun n n0 n1 hn => ?_⟩
          unfold lookV
          rw [if_neg (by omega : ¬ halfV v.w ≤ h)]
          split
          · omega
          · by_cases g : n ≤ h
            · exact g
            · rw [g4 n (by omega) (by omega)] at hn; cases hn
    have fin : ∀ l h, (v.nextR (halfV v.w) < 0 ∧ l = v.nextR 0 ∨ ¬ v.nextR (halfV v.w) < 0 ∧ l = v.nextR (halfV v.w)) → (z < 0 ∧ LastR v (mostV v.w) h ∨ ¬ z < 0 ∧ h = z) → (0 ≤ l ∧ l ≤ mostV v.w) ∧ (0 ≤ h ∧ h ≤ mostV v.w) ∧ SeenR k v (lookV l v.w) (lookV h v.w) := by
      intro l h hl hh
      obtain ⟨l1, l2, l3, l4⟩ := lowD l hl
      obtain ⟨h1, h2, h3, h4⟩ := highD h hh
      exact ⟨⟨l1, l2⟩, ⟨h1, h2⟩, fun n n0 n1 hn => by rw [es]; exact ⟨l4 n n0 n1 hn, h4 n n0 n1 hn⟩, ⟨l, l1, l2, l3, es l⟩, ⟨h, h1, h2, h3, es h⟩⟩
    by_cases hl : v.nextR (halfV v.w) < 0
    · simp only [go_sem, reduceCtorEq, reduceIte, Nat.reduceEqDiff, Nat.reduceAdd, Nat.reduceLeDiff, Nat.reduceMul, Int.reduceLT, Int.reduceLE, Int.reduceAdd, Int.reduceSub, Int.reduceMul, Int.reduceNeg, Int.reduceToNat, Int.reduceEq, w1, c0, e1, e2, hl]
      refine callK_same (k140 _ _ v 0 hv) ?_
      by_cases hzz : z < 0
      · skip
        simp only [go_sem, reduceCtorEq, reduceIte, Nat.reduceEqDiff, Nat.reduceAdd, Nat.reduceLeDiff, Nat.reduceMul, Int.reduceLT, Int.reduceLE, Int.reduceAdd, Int.reduceSub, Int.reduceMul, Int.reduceNeg, Int.reduceToNat, Int.reduceEq, hzz]
        refine callK_same (k137 _ _ v.w lw.1 lw.2) ?_
        simp only [go_sem, reduceCtorEq, reduceIte, Nat.reduceEqDiff, Nat.reduceAdd, Nat.reduceLeDiff, Nat.reduceMul, Int.reduceLT, Int.reduceLE, Int.reduceAdd, Int.reduceSub, Int.reduceMul, Int.reduceNeg, Int.reduceToNat, Int.reduceEq]
        refine callK_of (k158 _ _ v _ hv (by omega) (by omega)) ?_
        rintro u G M' ⟨rfl, rfl, z2, rfl, hz2⟩
        refine ⟨fun _ => Le.refl _ _, ?_⟩
        obtain ⟨b1, b2, b3⟩ := fin _ z2 (.inl ⟨hl, rfl⟩) (.inl ⟨hzz, hz2⟩)
        simp only [go_sem, reduceCtorEq, reduceIte, Nat.reduceEqDiff, Nat.reduceAdd, Nat.reduceLeDiff, Nat.reduceMul, Int.reduceLT, Int.reduceLE, Int.reduceAdd, Int.reduceSub, Int.reduceMul, Int.reduceNeg, Int.reduceToNat, Int.reduceEq]
        refine callK_same (k159 _ _ _ v.w hw b1.1 b1.2) ?_
        simp only [go_sem, reduceCtorEq, reduceIte, Nat.reduceEqDiff, Nat.reduceAdd, Nat.reduceLeDiff, Nat.reduceMul, Int.reduceLT, Int.reduceLE, Int.reduceAdd, Int.reduceSub, Int.reduceMul, Int.reduceNeg, Int.reduceToNat, Int.reduceEq]
        refine callK_same (k159 _ _ _ v.w hw b2.1 b2.2) ?_
        simp only [go_sem, reduceCtorEq, reduceIte, Nat.reduceEqDiff, Nat.reduceAdd, Nat.reduceLeDiff, Nat.reduceMul, Int.reduceLT, Int.reduceLE, Int.reduceAdd, Int.reduceSub, Int.reduceMul, Int.reduceNeg, Int.reduceToNat, Int.reduceEq]
        exact endK_drop hM3 (endK_same ⟨rfl, rfl, _, _, rfl, b3⟩)
      · obtain ⟨b1, b2, b3⟩ := fin _ z (.inl ⟨hl, rfl⟩) (.inr ⟨hzz, rfl⟩)
        simp only [go_sem, reduceCtorEq, reduceIte, Nat.reduceEqDiff, Nat.reduceAdd, Nat.reduceLeDiff, Nat.reduceMul, Int.reduceLT, Int.reduceLE, Int.reduceAdd, Int.reduceSub, Int.reduceMul, Int.reduceNeg, Int.reduceToNat, Int.reduceEq, hzz]
        refine callK_same (k159 _ _ _ v.w hw b1.1 b1.2) ?_
        simp only [go_sem, reduceCtorEq, reduceIte, Nat.reduceEqDiff, Nat.reduceAdd, Nat.reduceLeDiff, Nat.reduceMul, Int.reduceLT, Int.reduceLE, Int.reduceAdd, Int.reduceSub, Int.reduceMul, Int.reduceNeg, Int.reduceToNat, Int.reduceEq]
        refine callK_same (k159 _ _ _ v.w hw b2.1 b2.2) ?_
        simp only [go_sem, reduceCtorEq, reduceIte, Nat.reduceEqDiff, Nat.reduceAdd, Nat.reduceLeDiff, Nat.reduceMul, Int.reduceLT, Int.reduceLE, Int.reduceAdd, Int.reduceSub, Int.reduceMul, Int.reduceNeg, Int.reduceToNat, Int.reduceEq]
        exact endK_drop hM3 (endK_same ⟨rfl, rfl, _, _, rfl, b3⟩)
    · simp only [go_sem, reduceCtorEq, reduceIte, Nat.reduceEqDiff, Nat.reduceAdd, Nat.reduceLeDiff, Nat.reduceMul, Int.reduceLT, Int.reduceLE, Int.reduceAdd, Int.reduceSub, Int.reduceMul, Int.reduceNeg, Int.reduceToNat, Int.reduceEq, w1, c0, e1, e2, hl]
      by_cases hzz : z < 0
      · skip
        simp only [go_sem, reduceCtorEq, reduceIte, Nat.reduceEqDiff, Nat.reduceAdd, Nat.reduceLeDiff, Nat.reduceMul, Int.reduceLT, Int.reduceLE, Int.reduceAdd, Int.reduceSub, Int.reduceMul, Int.reduceNeg, Int.reduceToNat, Int.reduceEq, hzz]
        refine callK_same (k137 _ _ v.w lw.1 lw.2) ?_
        simp only [go_sem, reduceCtorEq, reduceIte, Nat.reduceEqDiff, Nat.reduceAdd, Nat.reduceLeDiff, Nat.reduceMul, Int.reduceLT, Int.reduceLE, Int.reduceAdd, Int.reduceSub, Int.reduceMul, Int.reduceNeg, Int.reduceToNat, Int.reduceEq]
        refine callK_of (k158 _ _ v _ hv (by omega) (by omega)) ?_
        rintro u G M' ⟨rfl, rfl, z2, rfl, hz2⟩
        refine ⟨fun _ => Le.refl _ _, ?_⟩
        obtain ⟨b1, b2, b3⟩ := fin _ z2 (.inr ⟨hl, rfl⟩) (.inl ⟨hzz, hz2⟩)
        simp only [go_sem, reduceCtorEq, reduceIte, Nat.reduceEqDiff, Nat.reduceAdd, Nat.reduceLeDiff, Nat.reduceMul, Int.reduceLT, Int.reduceLE, Int.reduceAdd, Int.reduceSub, Int.reduceMul, Int.reduceNeg, Int.reduceToNat, Int.reduceEq]
        refine callK_same (k159 _ _ _ v.w hw b1.1 b1.2) ?_
        simp only [go_sem, reduceCtorEq, reduceIte, Nat.reduceEqDiff, Nat.reduceAdd, Nat.reduceLeDiff, Nat.reduceMul, Int.reduceLT, Int.reduceLE, Int.reduceAdd, Int.reduceSub, Int.reduceMul, Int.reduceNeg, Int.reduceToNat, Int.reduceEq]
        refine callK_same (k159 _ _ _ v.w hw b2.1 b2.2) ?_
        simp only [go_sem, reduceCtorEq, reduceIte, Nat.reduceEqDiff, Nat.reduceAdd, Nat.reduceLeDiff, Nat.reduceMul, Int.reduceLT, Int.reduceLE, Int.reduceAdd, Int.reduceSub, Int.reduceMul, Int.reduceNeg, Int.reduceToNat, Int.reduceEq]
        exact endK_drop hM3 (endK_same ⟨rfl, rfl, _, _, rfl, b3⟩)
      · obtain ⟨b1, b2, b3⟩ := fin _ z (.inr ⟨hl, rfl⟩) (.inr ⟨hzz, rfl⟩)
        simp only [go_sem, reduceCtorEq, reduceIte, Nat.reduceEqDiff, Nat.reduceAdd, Nat.reduceLeDiff, Nat.reduceMul, Int.reduceLT, Int.reduceLE, Int.reduceAdd, Int.reduceSub, Int.reduceMul, Int.reduceNeg, Int.reduceToNat, Int.reduceEq, hzz]
        refine callK_same (k159 _ _ _ v.w hw b1.1 b1.2) ?_
        simp only [go_sem, reduceCtorEq, reduceIte, Nat.reduceEqDiff, Nat.reduceAdd, Nat.reduceLeDiff, Nat.reduceMul, Int.reduceLT, Int.reduceLE, Int.reduceAdd, Int.reduceSub, Int.reduceMul, Int.reduceNeg, Int.reduceToNat, Int.reduceEq]
        refine callK_same (k159 _ _ _ v.w hw b2.1 b2.2) ?_
        simp only [go_sem, reduceCtorEq, reduceIte, Nat.reduceEqDiff, Nat.reduceAdd, Nat.reduceLeDiff, Nat.reduceMul, Int.reduceLT, Int.reduceLE, Int.reduceAdd, Int.reduceSub, Int.reduceMul, Int.reduceNeg, Int.reduceToNat, Int.reduceEq]
        exact endK_drop hM3 (endK_same ⟨rfl, rfl, _, _, rfl, b3⟩)
end Go.Proofs.Try.K

/- Contracts: what is left behind a question. -/
namespace Go.Proofs.Try.K
open Go Go.Ax Go.Proofs.Try.S
set_option maxRecDepth 100000
set_option linter.unusedSimpArgs false
set_option linter.unusedVariables false
variable (F : Fz) (M : Hp)

def fitB (k : Int) (v : V) : Bool := isK k && v.ok && decide (v.w = ofW k)
theorem k83 (k : Int) (v : V) : CallsA Try.prog 83 [.int .i64 k, v.val] F M (Same F M (.bool (fitB k v))) := by
  refine callsA_of hm Try.func83 e83 (Nat.le_of_ble_eq_true rfl) ?_
  simp only [c83, go_sem, reduceCtorEq, reduceIte, Nat.reduceEqDiff, Nat.reduceAdd, Nat.reduceLeDiff, Nat.reduceMul, Int.reduceLT, Int.reduceLE, Int.reduceAdd, Int.reduceSub, Int.reduceMul, Int.reduceNeg, Int.reduceToNat, Int.reduceEq]
  intro r hF hM
  simp only [go_sem, reduceCtorEq, reduceIte, Nat.reduceEqDiff, Nat.reduceAdd, Nat.reduceLeDiff, Nat.reduceMul, Int.reduceLT, Int.reduceLE, Int.reduceAdd, Int.reduceSub, Int.reduceMul, Int.reduceNeg, Int.reduceToNat, Int.reduceEq]
  refine callK_same (k104 F _ k) ?_
  cases hk : isK k
  · simp only [go_sem, reduceCtorEq, reduceIte, Nat.reduceEqDiff, Nat.reduceAdd, Nat.reduceLeDiff, Nat.reduceMul, Int.reduceLT, Int.reduceLE, Int.reduceAdd, Int.reduceSub, Int.reduceMul, Int.reduceNeg, Int.reduceToNat, Int.reduceEq]
    exact endK_drop hM (endK_same ⟨by simp [fitB, hk], rfl, rfl⟩)
  simp only [go_sem, reduceCtorEq, reduceIte, Nat.reduceEqDiff, Nat.reduceAdd, Nat.reduceLeDiff, Nat.reduceMul, Int.reduceLT, Int.reduceLE, Int.reduceAdd, Int.reduceSub, Int.reduceMul, Int.reduceNeg, Int.reduceToNat, Int.reduceEq]
  refine callK_same (k74 F _ v) ?_
  cases hv : v.ok
  · simp only [go_sem, reduceCtorEq, reduceIte, Nat.reduceEqDiff, Nat.reduceAdd, Nat.reduceLeDiff, Nat.reduceMul, Int.reduceLT, Int.reduceLE, Int.reduceAdd, Int.reduceSub, Int.reduceMul, Int.reduceNeg, Int.reduceToNat, Int.reduceEq]
    exact endK_drop hM (endK_same ⟨by simp [fitB, hk, hv], rfl, rfl⟩)
  simp only [go_sem, reduceCtorEq, reduceIte, Nat.reduceEqDiff, Nat.reduceAdd, Nat.reduceLeDiff, Nat.reduceMul, Int.reduceLT, Int.reduceLE, Int.reduceAdd, Int.reduceSub, Int.reduceMul, Int.reduceNeg, Int.reduceToNat, Int.reduceEq]
  refine callK_same (k101 F _ k hk) ?_
  simp only [go_sem, reduceCtorEq, reduceIte, Nat.reduceEqDiff, Nat.reduceAdd, Nat.reduceLeDiff, Nat.reduceMul, Int.reduceLT, Int.reduceLE, Int.reduceAdd, Int.reduceSub, Int.reduceMul, Int.reduceNeg, Int.reduceToNat, Int.reduceEq]
  exact endK_drop hM (endK_same ⟨by simp [fitB, hk, hv], rfl, rfl⟩)
theorem k118 (v : V) (n : Int) (hv : v.ok = true) (h0 : 0 ≤ n) (h1 : n ≤ mostV v.w) : CallsA Try.prog 118 [v.val, .int .i64 n] F M fun u F' M' => F' = F ∧ M' = M ∧ ∃ z, u = V.val z ∧ MeetR v (butV v.w n) z := by
  refine callsA_of hm Try.func118 e118 (Nat.le_of_ble_eq_true rfl) ?_
  have hw := (ok_in hv).w
  have lw := isW_le hw
  have hm := mostV_pos lw.2
  have e1 : IntKind.i64.wrap (n + 1) = n + 1 := w64 (by omega) (by omega)
  have e2 : IntKind.i64.wrap (n - 1) = n - 1 := w64 (by omega) (by omega)
  have bo := but_ok (n := n) hw
  simp only [c118, go_sem, reduceCtorEq, reduceIte, Nat.reduceEqDiff, Nat.reduceAdd, Nat.reduceLeDiff, Nat.reduceMul, Int.reduceLT, Int.reduceLE, Int.reduceAdd, Int.reduceSub, Int.reduceMul, Int.reduceNeg, Int.reduceToNat, Int.reduceEq]
  intro r2 hF2 hM2
  simp only [go_sem, reduceCtorEq, reduceIte, Nat.reduceEqDiff, Nat.reduceAdd, Nat.reduceLeDiff, Nat.reduceMul, Int.reduceLT, Int.reduceLE, Int.reduceAdd, Int.reduceSub, Int.reduceMul, Int.reduceNeg, Int.reduceToNat, Int.reduceEq]
  intro r4 hF4 hM4
  have g4 := fresh_of hM4
  simp only [go_sem, reduceCtorEq, reduceIte, Nat.reduceEqDiff, Nat.reduceAdd, Nat.reduceLeDiff, Nat.reduceMul, Int.reduceLT, Int.reduceLE, Int.reduceAdd, Int.reduceSub, Int.reduceMul, Int.reduceNeg, Int.reduceToNat, Int.reduceEq, g4, e1, e2]
  refine callK_same (k145 F _ _ v.w lw.1 lw.2) ?_
  simp only [go_sem, reduceCtorEq, reduceIte, Nat.reduceEqDiff, Nat.reduceAdd, Nat.reduceLeDiff, Nat.reduceMul, Int.reduceLT, Int.reduceLE, Int.reduceAdd, Int.reduceSub, Int.reduceMul, Int.reduceNeg, Int.reduceToNat, Int.reduceEq, g4]
  refine callK_same (k145 F _ _ v.w lw.1 lw.2) ?_
  simp only [go_sem, reduceCtorEq, reduceIte, Nat.reduceEqDiff, Nat.reduceAdd, Nat.reduceLeDiff, Nat.reduceMul, Int.reduceLT, Int.reduceLE, Int.reduceAdd, Int.reduceSub, Int.reduceMul, Int.reduceNeg, Int.reduceToNat, Int.reduceEq, g4]
  refine callK_same (k103 F _ v.w _ _ lw.1 lw.2) ?_
  simp only [go_sem, reduceCtorEq, reduceIte, Nat.reduceEqDiff, Nat.reduceAdd, Nat.reduceLeDiff, Nat.reduceMul, Int.reduceLT, Int.reduceLE, Int.reduceAdd, Int.reduceSub, Int.reduceMul, Int.reduceNeg, Int.reduceToNat, Int.reduceEq, g4]
  have eb : V.span v.w ((n + 1) % 2 ^ v.w.toNat) ((n - 1) % 2 ^ v.w.toNat) = butV v.w n := rfl
  rw [eb]
  refine callK_of (k117 F _ v (butV v.w n) hv bo.1 bo.2) ?_
  rintro u G M' ⟨rfl, rfl, z, rfl, hz⟩
  refine ⟨fun _ => Le.refl _ _, ?_⟩
  simp only [go_sem, reduceCtorEq, reduceIte, Nat.reduceEqDiff, Nat.reduceAdd, Nat.reduceLeDiff, Nat.reduceMul, Int.reduceLT, Int.reduceLE, Int.reduceAdd, Int.reduceSub, Int.reduceMul, Int.reduceNeg, Int.reduceToNat, Int.reduceEq, g4]
  exact endK_keep (M := M) (((Keep.refl M).new hM2).new g4.2.2) ⟨rfl, rfl, z, rfl, hz⟩
theorem k148 (k lo hi : Int) (hk : isK k = true) : CallsA Try.prog 148 [.int .i64 k, .int .i64 lo, .int .i64 hi] F M (Same F M (rangeV k lo hi).val) := by
  refine callsA_of hm Try.func148 e148 (Nat.le_of_ble_eq_true rfl) ?_
  have lw := isW_le (ofW_isW k)
  simp only [c148, go_sem, reduceCtorEq, reduceIte, Nat.reduceEqDiff, Nat.reduceAdd, Nat.reduceLeDiff, Nat.reduceMul, Int.reduceLT, Int.reduceLE, Int.reduceAdd, Int.reduceSub, Int.reduceMul, Int.reduceNeg, Int.reduceToNat, Int.reduceEq]
  intro r hF hM
  simp only [go_sem, reduceCtorEq, reduceIte, Nat.reduceEqDiff, Nat.reduceAdd, Nat.reduceLeDiff, Nat.reduceMul, Int.reduceLT, Int.reduceLE, Int.reduceAdd, Int.reduceSub, Int.reduceMul, Int.reduceNeg, Int.reduceToNat, Int.reduceEq]
  refine callK_same (k101 F _ k hk) ?_
  by_cases h : hi < lo
  · simp only [go_sem, reduceCtorEq, reduceIte, Nat.reduceEqDiff, Nat.reduceAdd, Nat.reduceLeDiff, Nat.reduceMul, Int.reduceLT, Int.reduceLE, Int.reduceAdd, Int.reduceSub, Int.reduceMul, Int.reduceNeg, Int.reduceToNat, Int.reduceEq, h]
    refine callK_same (k115 F _ (ofW k)) ?_
    simp only [go_sem, reduceCtorEq, reduceIte, Nat.reduceEqDiff, Nat.reduceAdd, Nat.reduceLeDiff, Nat.reduceMul, Int.reduceLT, Int.reduceLE, Int.reduceAdd, Int.reduceSub, Int.reduceMul, Int.reduceNeg, Int.reduceToNat, Int.reduceEq]
    exact endK_drop hM (endK_same ⟨by simp [rangeV, h], rfl, rfl⟩)
  · simp only [go_sem, reduceCtorEq, reduceIte, Nat.reduceEqDiff, Nat.reduceAdd, Nat.reduceLeDiff, Nat.reduceMul, Int.reduceLT, Int.reduceLE, Int.reduceAdd, Int.reduceSub, Int.reduceMul, Int.reduceNeg, Int.reduceToNat, Int.reduceEq, h]
    refine callK_same (k145 F _ _ _ lw.1 lw.2) ?_
    simp only [go_sem, reduceCtorEq, reduceIte, Nat.reduceEqDiff, Nat.reduceAdd, Nat.reduceLeDiff, Nat.reduceMul, Int.reduceLT, Int.reduceLE, Int.reduceAdd, Int.reduceSub, Int.reduceMul, Int.reduceNeg, Int.reduceToNat, Int.reduceEq]
    refine callK_same (k145 F _ _ _ lw.1 lw.2) ?_
    simp only [go_sem, reduceCtorEq, reduceIte, Nat.reduceEqDiff, Nat.reduceAdd, Nat.reduceLeDiff, Nat.reduceMul, Int.reduceLT, Int.reduceLE, Int.reduceAdd, Int.reduceSub, Int.reduceMul, Int.reduceNeg, Int.reduceToNat, Int.reduceEq]
    refine callK_same (k103 F _ _ _ _ lw.1 lw.2) ?_
    simp only [go_sem, reduceCtorEq, reduceIte, Nat.reduceEqDiff, Nat.reduceAdd, Nat.reduceLeDiff, Nat.reduceMul, Int.reduceLT, Int.reduceLE, Int.reduceAdd, Int.reduceSub, Int.reduceMul, Int.reduceNeg, Int.reduceToNat, Int.reduceEq]
    exact endK_drop hM (endK_same ⟨by simp [rangeV, h], rfl, rfl⟩)
def pairA (x y : V) : Value := .tuple #[x.val, y.val]
theorem k120 (k : Int) (a b : V) (yes : Bool) (ha : a.ok = true) (hb : b.ok = true) (hw : b.w = a.w) :
    CallsA Try.prog 120 [a.val, b.val, .bool yes] F M fun u F' M' => F' = F ∧ M' = M ∧ ∃ x y, u = pairA x y ∧ PreR 18 k a b yes x y := by
  refine callsA_of hm Try.func120 e120 (Nat.le_of_ble_eq_true rfl) ?_
  simp only [c120, go_sem, reduceCtorEq, reduceIte, Nat.reduceEqDiff, Nat.reduceAdd, Nat.reduceLeDiff, Nat.reduceMul, Int.reduceLT, Int.reduceLE, Int.reduceAdd, Int.reduceSub, Int.reduceMul, Int.reduceNeg, Int.reduceToNat, Int.reduceEq]
  intro r3 hF3 hM3
  simp only [go_sem, reduceCtorEq, reduceIte, Nat.reduceEqDiff, Nat.reduceAdd, Nat.reduceLeDiff, Nat.reduceMul, Int.reduceLT, Int.reduceLE, Int.reduceAdd, Int.reduceSub, Int.reduceMul, Int.reduceNeg, Int.reduceToNat, Int.reduceEq]
  intro r4 hF4 hM4
  have g4 := fresh_of hM4
  simp only [go_sem, reduceCtorEq, reduceIte, Nat.reduceEqDiff, Nat.reduceAdd, Nat.reduceLeDiff, Nat.reduceMul, Int.reduceLT, Int.reduceLE, Int.reduceAdd, Int.reduceSub, Int.reduceMul, Int.reduceNeg, Int.reduceToNat, Int.reduceEq, g4]
  intro r6 hF6 hM6
  have g6 := fresh_of hM6
  have g62 := fresh_of g6.2.2
  simp only [go_sem, reduceCtorEq, reduceIte, Nat.reduceEqDiff, Nat.reduceAdd, Nat.reduceLeDiff, Nat.reduceMul, Int.reduceLT, Int.reduceLE, Int.reduceAdd, Int.reduceSub, Int.reduceMul, Int.reduceNeg, Int.reduceToNat, Int.reduceEq, g4, g6, g62]
  intro r7 hF7 hM7
  have g7 := fresh_of hM7
  have g72 := fresh_of g7.2.2
  have g73 := fresh_of g72.2.2
  simp only [go_sem, reduceCtorEq, reduceIte, Nat.reduceEqDiff, Nat.reduceAdd, Nat.reduceLeDiff, Nat.reduceMul, Int.reduceLT, Int.reduceLE, Int.reduceAdd, Int.reduceSub, Int.reduceMul, Int.reduceNeg, Int.reduceToNat, Int.reduceEq, g4, g6, g62, g7, g72, g73]
  have kz : ∀ e1 e2 e3 e4, Keep M ((((M.upd r3 e1).upd r4 e2).upd r6 e3).upd r7 e4) := fun e1 e2 e3 e4 => ((((Keep.refl M).new hM3).new g4.2.2).new g62.2.2).new g73.2.2
  cases yes
  rotate_left
  · simp only [go_sem, reduceCtorEq, reduceIte, Nat.reduceEqDiff, Nat.reduceAdd, Nat.reduceLeDiff, Nat.reduceMul, Int.reduceLT, Int.reduceLE, Int.reduceAdd, Int.reduceSub, Int.reduceMul, Int.reduceNeg, Int.reduceToNat, Int.reduceEq, g4, g6, g62, g7, g72, g73]
    refine callK_of (k117 F _ a b ha hb hw) ?_
    rintro u G M' ⟨rfl, rfl, x, rfl, hx⟩
    refine ⟨fun _ => Le.refl _ _, ?_⟩
    simp only [go_sem, reduceCtorEq, reduceIte, Nat.reduceEqDiff, Nat.reduceAdd, Nat.reduceLeDiff, Nat.reduceMul, Int.reduceLT, Int.reduceLE, Int.reduceAdd, Int.reduceSub, Int.reduceMul, Int.reduceNeg, Int.reduceToNat, Int.reduceEq, g4, g6, g62, g7, g72, g73]
    refine callK_of (k117 _ _ b a hb ha hw.symm) ?_
    rintro u G M' ⟨rfl, rfl, y, rfl, hy⟩
    refine ⟨fun _ => Le.refl _ _, ?_⟩
    simp only [go_sem, reduceCtorEq, reduceIte, Nat.reduceEqDiff, Nat.reduceAdd, Nat.reduceLeDiff, Nat.reduceMul, Int.reduceLT, Int.reduceLE, Int.reduceAdd, Int.reduceSub, Int.reduceMul, Int.reduceNeg, Int.reduceToNat, Int.reduceEq, g4, g6, g62, g7, g72, g73]
    exact endK_keep (M := M) (kz _ _ _ _) ⟨rfl, rfl, x, y, rfl, pre_eq_yes ha hb hw hx hy⟩
  simp only [go_sem, reduceCtorEq, reduceIte, Nat.reduceEqDiff, Nat.reduceAdd, Nat.reduceLeDiff, Nat.reduceMul, Int.reduceLT, Int.reduceLE, Int.reduceAdd, Int.reduceSub, Int.reduceMul, Int.reduceNeg, Int.reduceToNat, Int.reduceEq, g4, g6, g62, g7, g72, g73]
  intro r8 hF8 hM8
  have g8 := fresh_of hM8
  have g82 := fresh_of g8.2.2
  have g83 := fresh_of g82.2.2
  have g84 := fresh_of g83.2.2
  simp only [go_sem, reduceCtorEq, reduceIte, Nat.reduceEqDiff, Nat.reduceAdd, Nat.reduceLeDiff, Nat.reduceMul, Int.reduceLT, Int.reduceLE, Int.reduceAdd, Int.reduceSub, Int.reduceMul, Int.reduceNeg, Int.reduceToNat, Int.reduceEq, g4, g6, g62, g7, g72, g73, g8, g82, g83, g84]
  intro r9 hF9 hM9
  have g9 := fresh_of hM9
  have g92 := fresh_of g9.2.2
  have g93 := fresh_of g92.2.2
  have g94 := fresh_of g93.2.2
  have g95 := fresh_of g94.2.2
  have kz : ∀ e1 e2 e3 e4 e5 e6, Keep M ((((((M.upd r3 e1).upd r4 e2).upd r6 e3).upd r7 e4).upd r8 e5).upd r9 e6) := fun e1 e2 e3 e4 e5 e6 => ((kz e1 e2 e3 e4).new g84.2.2).new g95.2.2
  simp only [go_sem, reduceCtorEq, reduceIte, Nat.reduceEqDiff, Nat.reduceAdd, Nat.reduceLeDiff, Nat.reduceMul, Int.reduceLT, Int.reduceLE, Int.reduceAdd, Int.reduceSub, Int.reduceMul, Int.reduceNeg, Int.reduceToNat, Int.reduceEq, g4, g6, g62, g7, g72, g73, g8, g82, g83, g84, g9, g92, g93, g94, g95]
  refine callK_same (k110 _ _ b hb) ?_
  cases hb1 : b.is1
  · have hx : NotR a b a := by rw [NotR, if_neg (by rw [hb1]; decide)]
    simp only [loneA, go_sem, reduceCtorEq, reduceIte, Nat.reduceEqDiff, Nat.reduceAdd, Nat.reduceLeDiff, Nat.reduceMul, Int.reduceLT, Int.reduceLE, Int.reduceAdd, Int.reduceSub, Int.reduceMul, Int.reduceNeg, Int.reduceToNat, Int.reduceEq, g4, g6, g62, g7, g72, g73, g8, g82, g83, g84, g9, g92, g93, g94, g95, hb1]
    refine callK_same (k110 _ _ a ha) ?_
    cases ha1 : a.is1
    · simp only [loneA, go_sem, reduceCtorEq, reduceIte, Nat.reduceEqDiff, Nat.reduceAdd, Nat.reduceLeDiff, Nat.reduceMul, Int.reduceLT, Int.reduceLE, Int.reduceAdd, Int.reduceSub, Int.reduceMul, Int.reduceNeg, Int.reduceToNat, Int.reduceEq, g4, g6, g62, g7, g72, g73, g8, g82, g83, g84, g9, g92, g93, g94, g95, ha1]
      exact endK_keep (M := M) (kz _ _ _ _ _ _) ⟨rfl, rfl, _, _, rfl, pre_eq_no ha hb hw hx (by rw [NotR, if_neg (by rw [ha1]; decide)])⟩
    · obtain ⟨a1, a2, _, _⟩ := is1_mem ha ha1
      simp only [loneA, go_sem, reduceCtorEq, reduceIte, Nat.reduceEqDiff, Nat.reduceAdd, Nat.reduceLeDiff, Nat.reduceMul, Int.reduceLT, Int.reduceLE, Int.reduceAdd, Int.reduceSub, Int.reduceMul, Int.reduceNeg, Int.reduceToNat, Int.reduceEq, g4, g6, g62, g7, g72, g73, g8, g82, g83, g84, g9, g92, g93, g94, g95, ha1]
      refine callK_of (k118 _ _ b _ hb a1 (by rw [hw]; exact a2)) ?_
      rintro u G M' ⟨rfl, rfl, y, rfl, hy⟩
      refine ⟨fun _ => Le.refl _ _, ?_⟩
      simp only [go_sem, reduceCtorEq, reduceIte, Nat.reduceEqDiff, Nat.reduceAdd, Nat.reduceLeDiff, Nat.reduceMul, Int.reduceLT, Int.reduceLE, Int.reduceAdd, Int.reduceSub, Int.reduceMul, Int.reduceNeg, Int.reduceToNat, Int.reduceEq, g4, g6, g62, g7, g72, g73, g8, g82, g83, g84, g9, g92, g93, g94, g95]
      exact endK_keep (M := M) (kz _ _ _ _ _ _) ⟨rfl, rfl, _, _, rfl, pre_eq_no ha hb hw hx (by rw [NotR, if_pos ha1]; exact hy)⟩
  · obtain ⟨b1, b2, _, _⟩ := is1_mem hb hb1
    simp only [loneA, go_sem, reduceCtorEq, reduceIte, Nat.reduceEqDiff, Nat.reduceAdd, Nat.reduceLeDiff, Nat.reduceMul, Int.reduceLT, Int.reduceLE, Int.reduceAdd, Int.reduceSub, Int.reduceMul, Int.reduceNeg, Int.reduceToNat, Int.reduceEq, g4, g6, g62, g7, g72, g73, g8, g82, g83, g84, g9, g92, g93, g94, g95, hb1]
    refine callK_of (k118 _ _ a _ ha b1 (by rw [← hw]; exact b2)) ?_
    rintro u G M' ⟨rfl, rfl, x, rfl, hx⟩
    refine ⟨fun _ => Le.refl _ _, ?_⟩
    replace hx : NotR a b x := by rw [NotR, if_pos hb1]; exact hx
    simp only [loneA, go_sem, reduceCtorEq, reduceIte, Nat.reduceEqDiff, Nat.reduceAdd, Nat.reduceLeDiff, Nat.reduceMul, Int.reduceLT, Int.reduceLE, Int.reduceAdd, Int.reduceSub, Int.reduceMul, Int.reduceNeg, Int.reduceToNat, Int.reduceEq, g4, g6, g62, g7, g72, g73, g8, g82, g83, g84, g9, g92, g93, g94, g95, hb1]
    refine callK_same (k110 _ _ a ha) ?_
    cases ha1 : a.is1
    · simp only [loneA, go_sem, reduceCtorEq, reduceIte, Nat.reduceEqDiff, Nat.reduceAdd, Nat.reduceLeDiff, Nat.reduceMul, Int.reduceLT, Int.reduceLE, Int.reduceAdd, Int.reduceSub, Int.reduceMul, Int.reduceNeg, Int.reduceToNat, Int.reduceEq, g4, g6, g62, g7, g72, g73, g8, g82, g83, g84, g9, g92, g93, g94, g95, ha1]
      exact endK_keep (M := M) (kz _ _ _ _ _ _) ⟨rfl, rfl, _, _, rfl, pre_eq_no ha hb hw hx (by rw [NotR, if_neg (by rw [ha1]; decide)])⟩
    · obtain ⟨a1, a2, _, _⟩ := is1_mem ha ha1
      simp only [loneA, go_sem, reduceCtorEq, reduceIte, Nat.reduceEqDiff, Nat.reduceAdd, Nat.reduceLeDiff, Nat.reduceMul, Int.reduceLT, Int.reduceLE, Int.reduceAdd, Int.reduceSub, Int.reduceMul, Int.reduceNeg, Int.reduceToNat, Int.reduceEq, g4, g6, g62, g7, g72, g73, g8, g82, g83, g84, g9, g92, g93, g94, g95, ha1]
      refine callK_of (k118 _ _ b _ hb a1 (by rw [hw]; exact a2)) ?_
      rintro u G M' ⟨rfl, rfl, y, rfl, hy⟩
      refine ⟨fun _ => Le.refl _ _, ?_⟩
      simp only [go_sem, reduceCtorEq, reduceIte, Nat.reduceEqDiff, Nat.reduceAdd, Nat.reduceLeDiff, Nat.reduceMul, Int.reduceLT, Int.reduceLE, Int.reduceAdd, Int.reduceSub, Int.reduceMul, Int.reduceNeg, Int.reduceToNat, Int.reduceEq, g4, g6, g62, g7, g72, g73, g8, g82, g83, g84, g9, g92, g93, g94, g95]
      exact endK_keep (M := M) (kz _ _ _ _ _ _) ⟨rfl, rfl, _, _, rfl, pre_eq_no ha hb hw hx (by rw [NotR, if_pos ha1]; exact hy)⟩
theorem k121 (k : Int) (a b : V) (yes : Bool) (ha : a.ok = true) (hb : b.ok = true) (hk : isK k = true) (wa : a.w = ofW k) (wb : b.w = ofW k) (na : ¬ a.nextR 0 < 0) (nb : ¬ b.nextR 0 < 0) :
    CallsA Try.prog 121 [.int .i64 k, a.val, b.val, .bool yes] F M fun u F' M' => F' = F ∧ M' = M ∧ ∃ x y, u = pairA x y ∧ PreR 19 k a b yes x y := by
  refine callsA_of hm Try.func121 e121 (Nat.le_of_ble_eq_true rfl) ?_
  have hp := pow_w (ofW_isW k)
  simp only [c121, go_sem, reduceCtorEq, reduceIte, Nat.reduceEqDiff, Nat.reduceAdd, Nat.reduceLeDiff, Nat.reduceMul, Int.reduceLT, Int.reduceLE, Int.reduceAdd, Int.reduceSub, Int.reduceMul, Int.reduceNeg, Int.reduceToNat, Int.reduceEq]
  intro r5 hF5 hM5
  simp only [go_sem, reduceCtorEq, reduceIte, Nat.reduceEqDiff, Nat.reduceAdd, Nat.reduceLeDiff, Nat.reduceMul, Int.reduceLT, Int.reduceLE, Int.reduceAdd, Int.reduceSub, Int.reduceMul, Int.reduceNeg, Int.reduceToNat, Int.reduceEq]
  intro r6 hF6 hM6
  have g6 := fresh_of hM6
  simp only [go_sem, reduceCtorEq, reduceIte, Nat.reduceEqDiff, Nat.reduceAdd, Nat.reduceLeDiff, Nat.reduceMul, Int.reduceLT, Int.reduceLE, Int.reduceAdd, Int.reduceSub, Int.reduceMul, Int.reduceNeg, Int.reduceToNat, Int.reduceEq, g6]
  intro r8 hF8 hM8
  have g8 := fresh_of hM8
  have g82 := fresh_of g8.2.2
  simp only [go_sem, reduceCtorEq, reduceIte, Nat.reduceEqDiff, Nat.reduceAdd, Nat.reduceLeDiff, Nat.reduceMul, Int.reduceLT, Int.reduceLE, Int.reduceAdd, Int.reduceSub, Int.reduceMul, Int.reduceNeg, Int.reduceToNat, Int.reduceEq, g6, g8, g82]
  intro r9 hF9 hM9
  have g9 := fresh_of hM9
  have g92 := fresh_of g9.2.2
  have g93 := fresh_of g92.2.2
  have kz : ∀ e1 e2 e3 e4, Keep M ((((M.upd r5 e1).upd r6 e2).upd r8 e3).upd r9 e4) := fun e1 e2 e3 e4 => ((((Keep.refl M).new hM5).new g6.2.2).new g82.2.2).new g93.2.2
  simp only [go_sem, reduceCtorEq, reduceIte, Nat.reduceEqDiff, Nat.reduceAdd, Nat.reduceLeDiff, Nat.reduceMul, Int.reduceLT, Int.reduceLE, Int.reduceAdd, Int.reduceSub, Int.reduceMul, Int.reduceNeg, Int.reduceToNat, Int.reduceEq, g6, g8, g82, g9, g92, g93]
  refine callK_same (k146 _ _ k hk) ?_
  simp only [go_sem, reduceCtorEq, reduceIte, Nat.reduceEqDiff, Nat.reduceAdd, Nat.reduceLeDiff, Nat.reduceMul, Int.reduceLT, Int.reduceLE, Int.reduceAdd, Int.reduceSub, Int.reduceMul, Int.reduceNeg, Int.reduceToNat, Int.reduceEq, g6, g8, g82, g9, g92, g93]
  refine callK_of (k147 _ _ k a hk ha wa na) ?_
  rintro u G M' ⟨rfl, rfl, la, ha', rfl, sa⟩
  refine ⟨fun _ => Le.refl _ _, ?_⟩
  simp only [go_sem, reduceCtorEq, reduceIte, Nat.reduceEqDiff, Nat.reduceAdd, Nat.reduceLeDiff, Nat.reduceMul, Int.reduceLT, Int.reduceLE, Int.reduceAdd, Int.reduceSub, Int.reduceMul, Int.reduceNeg, Int.reduceToNat, Int.reduceEq, g6, g8, g82, g9, g92, g93]
  refine callK_of (k147 _ _ k b hk hb wb nb) ?_
  rintro u G M' ⟨rfl, rfl, lb, hb', rfl, sb⟩
  refine ⟨fun _ => Le.refl _ _, ?_⟩
  have b1 : -4294967296 ≤ hb' ∧ hb' ≤ 4294967296 := by
    obtain ⟨n, n0, n1, _, rfl⟩ := sb.high
    have := seen_range (k := k) n0 (by rw [← wb]; exact n1)
    unfold leastK mostK at this
    cases hs : sgn k <;> simp [hs] at this <;> omega
  have b2 : -4294967296 ≤ la ∧ la ≤ 4294967296 := by
    obtain ⟨n, n0, n1, _, rfl⟩ := sa.low
    have := seen_range (k := k) n0 (by rw [← wa]; exact n1)
    unfold leastK mostK at this
    cases hs : sgn k <;> simp [hs] at this <;> omega
  have e1 : IntKind.i64.wrap (hb' - 1) = hb' - 1 := w64 (by omega) (by omega)
  have e2 : IntKind.i64.wrap (la + 1) = la + 1 := w64 (by omega) (by omega)
  have ro := fun lo hi => range_ok k lo hi
  cases yes
  · simp only [go_sem, reduceCtorEq, reduceIte, Nat.reduceEqDiff, Nat.reduceAdd, Nat.reduceLeDiff, Nat.reduceMul, Int.reduceLT, Int.reduceLE, Int.reduceAdd, Int.reduceSub, Int.reduceMul, Int.reduceNeg, Int.reduceToNat, Int.reduceEq, g6, g8, g82, g9, g92, g93]
    refine callK_same (k148 _ _ k _ _ hk) ?_
    simp only [go_sem, reduceCtorEq, reduceIte, Nat.reduceEqDiff, Nat.reduceAdd, Nat.reduceLeDiff, Nat.reduceMul, Int.reduceLT, Int.reduceLE, Int.reduceAdd, Int.reduceSub, Int.reduceMul, Int.reduceNeg, Int.reduceToNat, Int.reduceEq, g6, g8, g82, g9, g92, g93]
    refine callK_of (k117 _ _ a _ ha (ro _ _).1 (by rw [(ro _ _).2, wa])) ?_
    rintro u G M' ⟨rfl, rfl, x, rfl, hx⟩
    refine ⟨fun _ => Le.refl _ _, ?_⟩
    simp only [go_sem, reduceCtorEq, reduceIte, Nat.reduceEqDiff, Nat.reduceAdd, Nat.reduceLeDiff, Nat.reduceMul, Int.reduceLT, Int.reduceLE, Int.reduceAdd, Int.reduceSub, Int.reduceMul, Int.reduceNeg, Int.reduceToNat, Int.reduceEq, g6, g8, g82, g9, g92, g93]
    refine callK_same (k148 _ _ k _ _ hk) ?_
    simp only [go_sem, reduceCtorEq, reduceIte, Nat.reduceEqDiff, Nat.reduceAdd, Nat.reduceLeDiff, Nat.reduceMul, Int.reduceLT, Int.reduceLE, Int.reduceAdd, Int.reduceSub, Int.reduceMul, Int.reduceNeg, Int.reduceToNat, Int.reduceEq, g6, g8, g82, g9, g92, g93]
    refine callK_of (k117 _ _ b _ hb (ro _ _).1 (by rw [(ro _ _).2, wb])) ?_
    rintro u G M' ⟨rfl, rfl, y, rfl, hy⟩
    refine ⟨fun _ => Le.refl _ _, ?_⟩
    simp only [go_sem, reduceCtorEq, reduceIte, Nat.reduceEqDiff, Nat.reduceAdd, Nat.reduceLeDiff, Nat.reduceMul, Int.reduceLT, Int.reduceLE, Int.reduceAdd, Int.reduceSub, Int.reduceMul, Int.reduceNeg, Int.reduceToNat, Int.reduceEq, g6, g8, g82, g9, g92, g93]
    exact endK_keep (M := M) (kz _ _ _ _) ⟨rfl, rfl, x, y, rfl, pre_less false ha hb hk wa wb sa sb hx hy⟩
  · simp only [go_sem, reduceCtorEq, reduceIte, Nat.reduceEqDiff, Nat.reduceAdd, Nat.reduceLeDiff, Nat.reduceMul, Int.reduceLT, Int.reduceLE, Int.reduceAdd, Int.reduceSub, Int.reduceMul, Int.reduceNeg, Int.reduceToNat, Int.reduceEq, g6, g8, g82, g9, g92, g93, e1, e2]
    refine callK_same (k148 _ _ k _ _ hk) ?_
    simp only [go_sem, reduceCtorEq, reduceIte, Nat.reduceEqDiff, Nat.reduceAdd, Nat.reduceLeDiff, Nat.reduceMul, Int.reduceLT, Int.reduceLE, Int.reduceAdd, Int.reduceSub, Int.reduceMul, Int.reduceNeg, Int.reduceToNat, Int.reduceEq, g6, g8, g82, g9, g92, g93]
    refine callK_of (k117 _ _ a _ ha (ro _ _).1 (by rw [(ro _ _).2, wa])) ?_
    rintro u G M' ⟨rfl, rfl, x, rfl, hx⟩
    refine ⟨fun _ => Le.refl _ _, ?_⟩
    simp only [go_sem, reduceCtorEq, reduceIte, Nat.reduceEqDiff, Nat.reduceAdd, Nat.reduceLeDiff, Nat.reduceMul, Int.reduceLT, Int.reduceLE, Int.reduceAdd, Int.reduceSub, Int.reduceMul, Int.reduceNeg, Int.reduceToNat, Int.reduceEq, g6, g8, g82, g9, g92, g93]
    refine callK_same (k148 _ _ k _ _ hk) ?_
    simp only [go_sem, reduceCtorEq, reduceIte, Nat.reduceEqDiff, Nat.reduceAdd, Nat.reduceLeDiff, Nat.reduceMul, Int.reduceLT, Int.reduceLE, Int.reduceAdd, Int.reduceSub, Int.reduceMul, Int.reduceNeg, Int.reduceToNat, Int.reduceEq, g6, g8, g82, g9, g92, g93]
    refine callK_of (k117 _ _ b _ hb (ro _ _).1 (by rw [(ro _ _).2, wb])) ?_
    rintro u G M' ⟨rfl, rfl, y, rfl, hy⟩
    refine ⟨fun _ => Le.refl _ _, ?_⟩
    simp only [go_sem, reduceCtorEq, reduceIte, Nat.reduceEqDiff, Nat.reduceAdd, Nat.reduceLeDiff, Nat.reduceMul, Int.reduceLT, Int.reduceLE, Int.reduceAdd, Int.reduceSub, Int.reduceMul, Int.reduceNeg, Int.reduceToNat, Int.reduceEq, g6, g8, g82, g9, g92, g93]
    exact endK_keep (M := M) (kz _ _ _ _) ⟨rfl, rfl, x, y, rfl, pre_less true ha hb hk wa wb sa sb hx hy⟩
end Go.Proofs.Try.K

/- Contracts: what is left behind a question, asked. -/
namespace Go.Proofs.Try.K
open Go Go.Ax Go.Proofs.Try.S
set_option maxRecDepth 100000
set_option linter.unusedSimpArgs false
set_option linter.unusedVariables false
variable (F : Fz) (M : Hp)

theorem k84 (op k : Int) (a b : V) (yes : Bool) (hop : op = 18 ∨ op = 19) (ha : a.ok = true) (hb : b.ok = true) (hk : isK k = true) (wa : a.w = ofW k) (wb : b.w = ofW k) :
    CallsA Try.prog 84 [.int .i64 op, .int .i64 k, a.val, b.val, .bool yes] F M fun u F' M' => F' = F ∧ M' = M ∧ ∃ x y, u = pairA x y ∧ TwoR op k a b yes x y := by
  refine callsA_of hm Try.func84 e84 (Nat.le_of_ble_eq_true rfl) ?_
  have hw : b.w = a.w := by rw [wa, wb]
  simp only [c84, go_sem, reduceCtorEq, reduceIte, Nat.reduceEqDiff, Nat.reduceAdd, Nat.reduceLeDiff, Nat.reduceMul, Int.reduceLT, Int.reduceLE, Int.reduceAdd, Int.reduceSub, Int.reduceMul, Int.reduceNeg, Int.reduceToNat, Int.reduceEq]
  intro r7 hF7 hM7
  simp only [go_sem, reduceCtorEq, reduceIte, Nat.reduceEqDiff, Nat.reduceAdd, Nat.reduceLeDiff, Nat.reduceMul, Int.reduceLT, Int.reduceLE, Int.reduceAdd, Int.reduceSub, Int.reduceMul, Int.reduceNeg, Int.reduceToNat, Int.reduceEq]
  intro r8 hF8 hM8
  have g8 := fresh_of hM8
  simp only [go_sem, reduceCtorEq, reduceIte, Nat.reduceEqDiff, Nat.reduceAdd, Nat.reduceLeDiff, Nat.reduceMul, Int.reduceLT, Int.reduceLE, Int.reduceAdd, Int.reduceSub, Int.reduceMul, Int.reduceNeg, Int.reduceToNat, Int.reduceEq, g8]
  intro r10 hF10 hM10
  have g10 := fresh_of hM10
  have g102 := fresh_of g10.2.2
  simp only [go_sem, reduceCtorEq, reduceIte, Nat.reduceEqDiff, Nat.reduceAdd, Nat.reduceLeDiff, Nat.reduceMul, Int.reduceLT, Int.reduceLE, Int.reduceAdd, Int.reduceSub, Int.reduceMul, Int.reduceNeg, Int.reduceToNat, Int.reduceEq, g8, g10, g102]
  intro r11 hF11 hM11
  have g11 := fresh_of hM11
  have g112 := fresh_of g11.2.2
  have g113 := fresh_of g112.2.2
  simp only [go_sem, reduceCtorEq, reduceIte, Nat.reduceEqDiff, Nat.reduceAdd, Nat.reduceLeDiff, Nat.reduceMul, Int.reduceLT, Int.reduceLE, Int.reduceAdd, Int.reduceSub, Int.reduceMul, Int.reduceNeg, Int.reduceToNat, Int.reduceEq, g8, g10, g102, g11, g112, g113]
  refine callK_same (k115 _ _ a.w) ?_
  simp only [go_sem, reduceCtorEq, reduceIte, Nat.reduceEqDiff, Nat.reduceAdd, Nat.reduceLeDiff, Nat.reduceMul, Int.reduceLT, Int.reduceLE, Int.reduceAdd, Int.reduceSub, Int.reduceMul, Int.reduceNeg, Int.reduceToNat, Int.reduceEq, g8, g10, g102, g11, g112, g113]
  intro r12 hF12 hM12
  have g12 := fresh_of hM12
  have g122 := fresh_of g12.2.2
  have g123 := fresh_of g122.2.2
  have g124 := fresh_of g123.2.2
  have kz : ∀ e1 e2 e3 e4 e5, Keep M (((((M.upd r7 e1).upd r8 e2).upd r10 e3).upd r11 e4).upd r12 e5) := fun e1 e2 e3 e4 e5 => (((((Keep.refl M).new hM7).new g8.2.2).new g102.2.2).new g113.2.2).new g124.2.2
  simp only [go_sem, reduceCtorEq, reduceIte, Nat.reduceEqDiff, Nat.reduceAdd, Nat.reduceLeDiff, Nat.reduceMul, Int.reduceLT, Int.reduceLE, Int.reduceAdd, Int.reduceSub, Int.reduceMul, Int.reduceNeg, Int.reduceToNat, Int.reduceEq, g8, g10, g102, g11, g112, g113, g12, g122, g123, g124]
  refine callK_same (k109 _ _ a ha) ?_
  by_cases va : a.nextR 0 < 0
  · simp only [go_sem, reduceCtorEq, reduceIte, Nat.reduceEqDiff, Nat.reduceAdd, Nat.reduceLeDiff, Nat.reduceMul, Int.reduceLT, Int.reduceLE, Int.reduceAdd, Int.reduceSub, Int.reduceMul, Int.reduceNeg, Int.reduceToNat, Int.reduceEq, g8, g10, g102, g11, g112, g113, g12, g122, g123, g124, va]
    exact endK_keep (M := M) (kz _ _ _ _ _) ⟨rfl, rfl, _, _, rfl, two_void ha hb hw (.inl va)⟩
  simp only [go_sem, reduceCtorEq, reduceIte, Nat.reduceEqDiff, Nat.reduceAdd, Nat.reduceLeDiff, Nat.reduceMul, Int.reduceLT, Int.reduceLE, Int.reduceAdd, Int.reduceSub, Int.reduceMul, Int.reduceNeg, Int.reduceToNat, Int.reduceEq, g8, g10, g102, g11, g112, g113, g12, g122, g123, g124, va]
  refine callK_same (k109 _ _ b hb) ?_
  by_cases vb : b.nextR 0 < 0
  · simp only [go_sem, reduceCtorEq, reduceIte, Nat.reduceEqDiff, Nat.reduceAdd, Nat.reduceLeDiff, Nat.reduceMul, Int.reduceLT, Int.reduceLE, Int.reduceAdd, Int.reduceSub, Int.reduceMul, Int.reduceNeg, Int.reduceToNat, Int.reduceEq, g8, g10, g102, g11, g112, g113, g12, g122, g123, g124, va, vb]
    exact endK_keep (M := M) (kz _ _ _ _ _) ⟨rfl, rfl, _, _, rfl, two_void ha hb hw (.inr vb)⟩
  rcases hop with rfl | rfl
  · simp only [go_sem, reduceCtorEq, reduceIte, Nat.reduceEqDiff, Nat.reduceAdd, Nat.reduceLeDiff, Nat.reduceMul, Int.reduceLT, Int.reduceLE, Int.reduceAdd, Int.reduceSub, Int.reduceMul, Int.reduceNeg, Int.reduceToNat, Int.reduceEq, g8, g10, g102, g11, g112, g113, g12, g122, g123, g124, va, vb]
    refine callK_of (k120 _ _ k a b yes ha hb hw) ?_
    rintro u G M' ⟨rfl, rfl, x, y, rfl, p⟩
    refine ⟨fun _ => Le.refl _ _, ?_⟩
    simp only [pairA, go_sem, reduceCtorEq, reduceIte, Nat.reduceEqDiff, Nat.reduceAdd, Nat.reduceLeDiff, Nat.reduceMul, Int.reduceLT, Int.reduceLE, Int.reduceAdd, Int.reduceSub, Int.reduceMul, Int.reduceNeg, Int.reduceToNat, Int.reduceEq, g8, g10, g102, g11, g112, g113, g12, g122, g123, g124]
    refine callK_same (k109 _ _ x p.okx) ?_
    by_cases vx : x.nextR 0 < 0
    · simp only [go_sem, reduceCtorEq, reduceIte, Nat.reduceEqDiff, Nat.reduceAdd, Nat.reduceLeDiff, Nat.reduceMul, Int.reduceLT, Int.reduceLE, Int.reduceAdd, Int.reduceSub, Int.reduceMul, Int.reduceNeg, Int.reduceToNat, Int.reduceEq, g8, g10, g102, g11, g112, g113, g12, g122, g123, g124, vx]
      exact endK_keep (M := M) (kz _ _ _ _ _) ⟨rfl, rfl, _, _, rfl, two_pre ha hb hw p (.inl vx)⟩
    simp only [go_sem, reduceCtorEq, reduceIte, Nat.reduceEqDiff, Nat.reduceAdd, Nat.reduceLeDiff, Nat.reduceMul, Int.reduceLT, Int.reduceLE, Int.reduceAdd, Int.reduceSub, Int.reduceMul, Int.reduceNeg, Int.reduceToNat, Int.reduceEq, g8, g10, g102, g11, g112, g113, g12, g122, g123, g124, vx]
    refine callK_same (k109 _ _ y p.oky) ?_
    by_cases vy : y.nextR 0 < 0
    · simp only [go_sem, reduceCtorEq, reduceIte, Nat.reduceEqDiff, Nat.reduceAdd, Nat.reduceLeDiff, Nat.reduceMul, Int.reduceLT, Int.reduceLE, Int.reduceAdd, Int.reduceSub, Int.reduceMul, Int.reduceNeg, Int.reduceToNat, Int.reduceEq, g8, g10, g102, g11, g112, g113, g12, g122, g123, g124, vx, vy]
      exact endK_keep (M := M) (kz _ _ _ _ _) ⟨rfl, rfl, _, _, rfl, two_pre ha hb hw p (.inr vy)⟩
    simp only [go_sem, reduceCtorEq, reduceIte, Nat.reduceEqDiff, Nat.reduceAdd, Nat.reduceLeDiff, Nat.reduceMul, Int.reduceLT, Int.reduceLE, Int.reduceAdd, Int.reduceSub, Int.reduceMul, Int.reduceNeg, Int.reduceToNat, Int.reduceEq, g8, g10, g102, g11, g112, g113, g12, g122, g123, g124, vx, vy]
    exact endK_keep (M := M) (kz _ _ _ _ _) ⟨rfl, rfl, _, _, rfl, two_some p vx vy⟩
  · simp only [go_sem, reduceCtorEq, reduceIte, Nat.reduceEqDiff, Nat.reduceAdd, Nat.reduceLeDiff, Nat.reduceMul, Int.reduceLT, Int.reduceLE, Int.reduceAdd, Int.reduceSub, Int.reduceMul, Int.reduceNeg, Int.reduceToNat, Int.reduceEq, g8, g10, g102, g11, g112, g113, g12, g122, g123, g124, va, vb]
    refine callK_of (k121 _ _ k a b yes ha hb hk wa wb va vb) ?_
    rintro u G M' ⟨rfl, rfl, x, y, rfl, p⟩
    refine ⟨fun _ => Le.refl _ _, ?_⟩
    simp only [pairA, go_sem, reduceCtorEq, reduceIte, Nat.reduceEqDiff, Nat.reduceAdd, Nat.reduceLeDiff, Nat.reduceMul, Int.reduceLT, Int.reduceLE, Int.reduceAdd, Int.reduceSub, Int.reduceMul, Int.reduceNeg, Int.reduceToNat, Int.reduceEq, g8, g10, g102, g11, g112, g113, g12, g122, g123, g124]
    refine callK_same (k109 _ _ x p.okx) ?_
    by_cases vx : x.nextR 0 < 0
    · simp only [go_sem, reduceCtorEq, reduceIte, Nat.reduceEqDiff, Nat.reduceAdd, Nat.reduceLeDiff, Nat.reduceMul, Int.reduceLT, Int.reduceLE, Int.reduceAdd, Int.reduceSub, Int.reduceMul, Int.reduceNeg, Int.reduceToNat, Int.reduceEq, g8, g10, g102, g11, g112, g113, g12, g122, g123, g124, vx]
      exact endK_keep (M := M) (kz _ _ _ _ _) ⟨rfl, rfl, _, _, rfl, two_pre ha hb hw p (.inl vx)⟩
    simp only [go_sem, reduceCtorEq, reduceIte, Nat.reduceEqDiff, Nat.reduceAdd, Nat.reduceLeDiff, Nat.reduceMul, Int.reduceLT, Int.reduceLE, Int.reduceAdd, Int.reduceSub, Int.reduceMul, Int.reduceNeg, Int.reduceToNat, Int.reduceEq, g8, g10, g102, g11, g112, g113, g12, g122, g123, g124, vx]
    refine callK_same (k109 _ _ y p.oky) ?_
    by_cases vy : y.nextR 0 < 0
    · simp only [go_sem, reduceCtorEq, reduceIte, Nat.reduceEqDiff, Nat.reduceAdd, Nat.reduceLeDiff, Nat.reduceMul, Int.reduceLT, Int.reduceLE, Int.reduceAdd, Int.reduceSub, Int.reduceMul, Int.reduceNeg, Int.reduceToNat, Int.reduceEq, g8, g10, g102, g11, g112, g113, g12, g122, g123, g124, vx, vy]
      exact endK_keep (M := M) (kz _ _ _ _ _) ⟨rfl, rfl, _, _, rfl, two_pre ha hb hw p (.inr vy)⟩
    simp only [go_sem, reduceCtorEq, reduceIte, Nat.reduceEqDiff, Nat.reduceAdd, Nat.reduceLeDiff, Nat.reduceMul, Int.reduceLT, Int.reduceLE, Int.reduceAdd, Int.reduceSub, Int.reduceMul, Int.reduceNeg, Int.reduceToNat, Int.reduceEq, g8, g10, g102, g11, g112, g113, g12, g122, g123, g124, vx, vy]
    exact endK_keep (M := M) (kz _ _ _ _ _) ⟨rfl, rfl, _, _, rfl, two_some p vx vy⟩
/-- May this be asked? -/
def askB (op k : Int) (a b : V) : Bool := (decide (op = 18) || decide (op = 19)) && fitB k a && fitB k b
def twoA (op k : Int) (a b : V) (yes : Bool) (u : Value) : Prop :=
  (askB op k a b = true ∧ ∃ x y, u = .tuple #[x.val, y.val, .int .i64 0] ∧ TwoR op k a b yes x y) ∨ (askB op k a b = false ∧ u = .tuple #[V.zero.val, V.zero.val, .int .i64 1])
theorem k43 (op k : Int) (a b : V) (yes : Bool) :
    CallsA Try.prog 43 [.int .i64 op, .int .i64 k, a.val, b.val, .bool yes] F M fun u F' M' => F' = F ∧ M' = M ∧ twoA op k a b yes u := by
  refine callsA_of hm Try.func43 e43 (Nat.le_of_ble_eq_true rfl) ?_
  simp only [c43, go_sem, reduceCtorEq, reduceIte, Nat.reduceEqDiff, Nat.reduceAdd, Nat.reduceLeDiff, Nat.reduceMul, Int.reduceLT, Int.reduceLE, Int.reduceAdd, Int.reduceSub, Int.reduceMul, Int.reduceNeg, Int.reduceToNat, Int.reduceEq]
  intro r7 hF7 hM7
  simp only [go_sem, reduceCtorEq, reduceIte, Nat.reduceEqDiff, Nat.reduceAdd, Nat.reduceLeDiff, Nat.reduceMul, Int.reduceLT, Int.reduceLE, Int.reduceAdd, Int.reduceSub, Int.reduceMul, Int.reduceNeg, Int.reduceToNat, Int.reduceEq]
  intro r8 hF8 hM8
  have g8 := fresh_of hM8
  simp only [go_sem, reduceCtorEq, reduceIte, Nat.reduceEqDiff, Nat.reduceAdd, Nat.reduceLeDiff, Nat.reduceMul, Int.reduceLT, Int.reduceLE, Int.reduceAdd, Int.reduceSub, Int.reduceMul, Int.reduceNeg, Int.reduceToNat, Int.reduceEq, g8]
  intro r10 hF10 hM10
  have g10 := fresh_of hM10
  have g102 := fresh_of g10.2.2
  simp only [go_sem, reduceCtorEq, reduceIte, Nat.reduceEqDiff, Nat.reduceAdd, Nat.reduceLeDiff, Nat.reduceMul, Int.reduceLT, Int.reduceLE, Int.reduceAdd, Int.reduceSub, Int.reduceMul, Int.reduceNeg, Int.reduceToNat, Int.reduceEq, g8, g10, g102]
  intro r11 hF11 hM11
  have g11 := fresh_of hM11
  have g112 := fresh_of g11.2.2
  have g113 := fresh_of g112.2.2
  have kz : ∀ e1 e2 e3 e4, Keep M ((((M.upd r7 e1).upd r8 e2).upd r10 e3).upd r11 e4) := fun e1 e2 e3 e4 => ((((Keep.refl M).new hM7).new g8.2.2).new g102.2.2).new g113.2.2
  by_cases hop : op = 18 ∨ op = 19
  rotate_left
  · have n1 : ¬ op = 18 := fun h => hop (.inl h)
    have n2 : ¬ op = 19 := fun h => hop (.inr h)
    simp only [go_sem, reduceCtorEq, reduceIte, Nat.reduceEqDiff, Nat.reduceAdd, Nat.reduceLeDiff, Nat.reduceMul, Int.reduceLT, Int.reduceLE, Int.reduceAdd, Int.reduceSub, Int.reduceMul, Int.reduceNeg, Int.reduceToNat, Int.reduceEq, g8, g10, g102, g11, g112, g113, n1, n2]
    exact endK_keep (M := M) (kz _ _ _ _) ⟨rfl, rfl, .inr ⟨by simp [askB, n1, n2], rfl⟩⟩
  have eop : (decide (op = 18) || decide (op = 19)) = true := by simpa using hop
  rcases hop with rfl | rfl
  · simp only [go_sem, reduceCtorEq, reduceIte, Nat.reduceEqDiff, Nat.reduceAdd, Nat.reduceLeDiff, Nat.reduceMul, Int.reduceLT, Int.reduceLE, Int.reduceAdd, Int.reduceSub, Int.reduceMul, Int.reduceNeg, Int.reduceToNat, Int.reduceEq, g8, g10, g102, g11, g112, g113]
    refine callK_same (k83 _ _ k a) ?_
    cases fa : fitB k a
    · simp only [go_sem, reduceCtorEq, reduceIte, Nat.reduceEqDiff, Nat.reduceAdd, Nat.reduceLeDiff, Nat.reduceMul, Int.reduceLT, Int.reduceLE, Int.reduceAdd, Int.reduceSub, Int.reduceMul, Int.reduceNeg, Int.reduceToNat, Int.reduceEq, g8, g10, g102, g11, g112, g113]
      exact endK_keep (M := M) (kz _ _ _ _) ⟨rfl, rfl, .inr ⟨by simp [askB, fa], rfl⟩⟩
    simp only [go_sem, reduceCtorEq, reduceIte, Nat.reduceEqDiff, Nat.reduceAdd, Nat.reduceLeDiff, Nat.reduceMul, Int.reduceLT, Int.reduceLE, Int.reduceAdd, Int.reduceSub, Int.reduceMul, Int.reduceNeg, Int.reduceToNat, Int.reduceEq, g8, g10, g102, g11, g112, g113]
    refine callK_same (k83 _ _ k b) ?_
    cases fb : fitB k b
    · simp only [go_sem, reduceCtorEq, reduceIte, Nat.reduceEqDiff, Nat.reduceAdd, Nat.reduceLeDiff, Nat.reduceMul, Int.reduceLT, Int.reduceLE, Int.reduceAdd, Int.reduceSub, Int.reduceMul, Int.reduceNeg, Int.reduceToNat, Int.reduceEq, g8, g10, g102, g11, g112, g113]
      exact endK_keep (M := M) (kz _ _ _ _) ⟨rfl, rfl, .inr ⟨by simp [askB, fb], rfl⟩⟩
    have fa' := fa
    have fb' := fb
    simp only [fitB, Bool.and_eq_true, decide_eq_true_eq] at fa' fb'
    simp only [go_sem, reduceCtorEq, reduceIte, Nat.reduceEqDiff, Nat.reduceAdd, Nat.reduceLeDiff, Nat.reduceMul, Int.reduceLT, Int.reduceLE, Int.reduceAdd, Int.reduceSub, Int.reduceMul, Int.reduceNeg, Int.reduceToNat, Int.reduceEq, g8, g10, g102, g11, g112, g113]
    refine callK_of (k84 _ _ _ k a b yes (by decide) fa'.1.2 fb'.1.2 fa'.1.1 fa'.2 fb'.2) ?_
    rintro u G M' ⟨rfl, rfl, x, y, rfl, p⟩
    refine ⟨fun _ => Le.refl _ _, ?_⟩
    simp only [pairA, go_sem, reduceCtorEq, reduceIte, Nat.reduceEqDiff, Nat.reduceAdd, Nat.reduceLeDiff, Nat.reduceMul, Int.reduceLT, Int.reduceLE, Int.reduceAdd, Int.reduceSub, Int.reduceMul, Int.reduceNeg, Int.reduceToNat, Int.reduceEq, g8, g10, g102, g11, g112, g113]
    exact endK_keep (M := M) (kz _ _ _ _) ⟨rfl, rfl, .inl ⟨by simp [askB, fa, fb], x, y, rfl, p⟩⟩
  · simp only [go_sem, reduceCtorEq, reduceIte, Nat.reduceEqDiff, Nat.reduceAdd, Nat.reduceLeDiff, Nat.reduceMul, Int.reduceLT, Int.reduceLE, Int.reduceAdd, Int.reduceSub, Int.reduceMul, Int.reduceNeg, Int.reduceToNat, Int.reduceEq, g8, g10, g102, g11, g112, g113]
    refine callK_same (k83 _ _ k a) ?_
    cases fa : fitB k a
    · simp only [go_sem, reduceCtorEq, reduceIte, Nat.reduceEqDiff, Nat.reduceAdd, Nat.reduceLeDiff, Nat.reduceMul, Int.reduceLT, Int.reduceLE, Int.reduceAdd, Int.reduceSub, Int.reduceMul, Int.reduceNeg, Int.reduceToNat, Int.reduceEq, g8, g10, g102, g11, g112, g113]
      exact endK_keep (M := M) (kz _ _ _ _) ⟨rfl, rfl, .inr ⟨by simp [askB, fa], rfl⟩⟩
    simp only [go_sem, reduceCtorEq, reduceIte, Nat.reduceEqDiff, Nat.reduceAdd, Nat.reduceLeDiff, Nat.reduceMul, Int.reduceLT, Int.reduceLE, Int.reduceAdd, Int.reduceSub, Int.reduceMul, Int.reduceNeg, Int.reduceToNat, Int.reduceEq, g8, g10, g102, g11, g112, g113]
    refine callK_same (k83 _ _ k b) ?_
    cases fb : fitB k b
    · simp only [go_sem, reduceCtorEq, reduceIte, Nat.reduceEqDiff, Nat.reduceAdd, Nat.reduceLeDiff, Nat.reduceMul, Int.reduceLT, Int.reduceLE, Int.reduceAdd, Int.reduceSub, Int.reduceMul, Int.reduceNeg, Int.reduceToNat, Int.reduceEq, g8, g10, g102, g11, g112, g113]
      exact endK_keep (M := M) (kz _ _ _ _) ⟨rfl, rfl, .inr ⟨by simp [askB, fb], rfl⟩⟩
    have fa' := fa
    have fb' := fb
    simp only [fitB, Bool.and_eq_true, decide_eq_true_eq] at fa' fb'
    simp only [go_sem, reduceCtorEq, reduceIte, Nat.reduceEqDiff, Nat.reduceAdd, Nat.reduceLeDiff, Nat.reduceMul, Int.reduceLT, Int.reduceLE, Int.reduceAdd, Int.reduceSub, Int.reduceMul, Int.reduceNeg, Int.reduceToNat, Int.reduceEq, g8, g10, g102, g11, g112, g113]
    refine callK_of (k84 _ _ _ k a b yes (by decide) fa'.1.2 fb'.1.2 fa'.1.1 fa'.2 fb'.2) ?_
    rintro u G M' ⟨rfl, rfl, x, y, rfl, p⟩
    refine ⟨fun _ => Le.refl _ _, ?_⟩
    simp only [pairA, go_sem, reduceCtorEq, reduceIte, Nat.reduceEqDiff, Nat.reduceAdd, Nat.reduceLeDiff, Nat.reduceMul, Int.reduceLT, Int.reduceLE, Int.reduceAdd, Int.reduceSub, Int.reduceMul, Int.reduceNeg, Int.reduceToNat, Int.reduceEq, g8, g10, g102, g11, g112, g113]
    exact endK_keep (M := M) (kz _ _ _ _) ⟨rfl, rfl, .inl ⟨by simp [askB, fa, fb], x, y, rfl, p⟩⟩
theorem k75 (a : V) (yes : Bool) (ha : a.ok = true) : CallsA Try.prog 75 [a.val, .bool yes] F M fun u F' M' => F' = F ∧ M' = M ∧ ∃ z, u = V.val z ∧ MeetR a (if yes then V.just a.w 0 else butV a.w 0) z := by
  refine callsA_of hm Try.func75 e75 (Nat.le_of_ble_eq_true rfl) ?_
  have isw := (ok_in ha).w
  have lw := isW_le isw
  have hm := mostV_pos lw.2
  simp only [c75, go_sem, reduceCtorEq, reduceIte, Nat.reduceEqDiff, Nat.reduceAdd, Nat.reduceLeDiff, Nat.reduceMul, Int.reduceLT, Int.reduceLE, Int.reduceAdd, Int.reduceSub, Int.reduceMul, Int.reduceNeg, Int.reduceToNat, Int.reduceEq]
  intro r2 hF2 hM2
  simp only [go_sem, reduceCtorEq, reduceIte, Nat.reduceEqDiff, Nat.reduceAdd, Nat.reduceLeDiff, Nat.reduceMul, Int.reduceLT, Int.reduceLE, Int.reduceAdd, Int.reduceSub, Int.reduceMul, Int.reduceNeg, Int.reduceToNat, Int.reduceEq]
  intro r4 hF4 hM4
  have g4 := fresh_of hM4
  simp only [go_sem, reduceCtorEq, reduceIte, Nat.reduceEqDiff, Nat.reduceAdd, Nat.reduceLeDiff, Nat.reduceMul, Int.reduceLT, Int.reduceLE, Int.reduceAdd, Int.reduceSub, Int.reduceMul, Int.reduceNeg, Int.reduceToNat, Int.reduceEq, g4]
  have kz : ∀ e1 e2, Keep M ((M.upd r2 e1).upd r4 e2) := fun e1 e2 => ((Keep.refl M).new hM2).new g4.2.2
  cases yes
  · simp only [go_sem, reduceCtorEq, reduceIte, Nat.reduceEqDiff, Nat.reduceAdd, Nat.reduceLeDiff, Nat.reduceMul, Int.reduceLT, Int.reduceLE, Int.reduceAdd, Int.reduceSub, Int.reduceMul, Int.reduceNeg, Int.reduceToNat, Int.reduceEq, g4]
    refine callK_of (k118 _ _ a 0 ha (by omega) (by omega)) ?_
    rintro u G M' ⟨rfl, rfl, z, rfl, hz⟩
    refine ⟨fun _ => Le.refl _ _, ?_⟩
    simp only [go_sem, reduceCtorEq, reduceIte, Nat.reduceEqDiff, Nat.reduceAdd, Nat.reduceLeDiff, Nat.reduceMul, Int.reduceLT, Int.reduceLE, Int.reduceAdd, Int.reduceSub, Int.reduceMul, Int.reduceNeg, Int.reduceToNat, Int.reduceEq, g4]
    exact endK_keep (M := M) (kz _ _) ⟨rfl, rfl, z, rfl, hz⟩
  · simp only [go_sem, reduceCtorEq, reduceIte, Nat.reduceEqDiff, Nat.reduceAdd, Nat.reduceLeDiff, Nat.reduceMul, Int.reduceLT, Int.reduceLE, Int.reduceAdd, Int.reduceSub, Int.reduceMul, Int.reduceNeg, Int.reduceToNat, Int.reduceEq, g4]
    refine callK_same (k100 _ _ a.w 0) ?_
    simp only [go_sem, reduceCtorEq, reduceIte, Nat.reduceEqDiff, Nat.reduceAdd, Nat.reduceLeDiff, Nat.reduceMul, Int.reduceLT, Int.reduceLE, Int.reduceAdd, Int.reduceSub, Int.reduceMul, Int.reduceNeg, Int.reduceToNat, Int.reduceEq, g4]
    refine callK_of (k117 _ _ a _ ha (just_ok isw (isN_zero lw.1 lw.2)) rfl) ?_
    rintro u G M' ⟨rfl, rfl, z, rfl, hz⟩
    refine ⟨fun _ => Le.refl _ _, ?_⟩
    simp only [go_sem, reduceCtorEq, reduceIte, Nat.reduceEqDiff, Nat.reduceAdd, Nat.reduceLeDiff, Nat.reduceMul, Int.reduceLT, Int.reduceLE, Int.reduceAdd, Int.reduceSub, Int.reduceMul, Int.reduceNeg, Int.reduceToNat, Int.reduceEq, g4]
    exact endK_keep (M := M) (kz _ _) ⟨rfl, rfl, z, rfl, hz⟩
def zeroA (a : V) (yes : Bool) (u : Value) : Prop := (a.ok = true ∧ ∃ z, u = .tuple #[z.val, .int .i64 0] ∧ MeetR a (if yes then V.just a.w 0 else butV a.w 0) z) ∨ (a.ok = false ∧ u = .tuple #[V.zero.val, .int .i64 1])
theorem k35 (a : V) (yes : Bool) : CallsA Try.prog 35 [a.val, .bool yes] F M fun u F' M' => F' = F ∧ M' = M ∧ zeroA a yes u := by
  refine callsA_of hm Try.func35 e35 (Nat.le_of_ble_eq_true rfl) ?_
  simp only [c35, go_sem, reduceCtorEq, reduceIte, Nat.reduceEqDiff, Nat.reduceAdd, Nat.reduceLeDiff, Nat.reduceMul, Int.reduceLT, Int.reduceLE, Int.reduceAdd, Int.reduceSub, Int.reduceMul, Int.reduceNeg, Int.reduceToNat, Int.reduceEq]
  intro r2 hF2 hM2
  simp only [go_sem, reduceCtorEq, reduceIte, Nat.reduceEqDiff, Nat.reduceAdd, Nat.reduceLeDiff, Nat.reduceMul, Int.reduceLT, Int.reduceLE, Int.reduceAdd, Int.reduceSub, Int.reduceMul, Int.reduceNeg, Int.reduceToNat, Int.reduceEq]
  intro r4 hF4 hM4
  have g4 := fresh_of hM4
  simp only [go_sem, reduceCtorEq, reduceIte, Nat.reduceEqDiff, Nat.reduceAdd, Nat.reduceLeDiff, Nat.reduceMul, Int.reduceLT, Int.reduceLE, Int.reduceAdd, Int.reduceSub, Int.reduceMul, Int.reduceNeg, Int.reduceToNat, Int.reduceEq, g4]
  have kz : ∀ e1 e2, Keep M ((M.upd r2 e1).upd r4 e2) := fun e1 e2 => ((Keep.refl M).new hM2).new g4.2.2
  refine callK_same (k74 _ _ a) ?_
  cases ha : a.ok
  · simp only [go_sem, reduceCtorEq, reduceIte, Nat.reduceEqDiff, Nat.reduceAdd, Nat.reduceLeDiff, Nat.reduceMul, Int.reduceLT, Int.reduceLE, Int.reduceAdd, Int.reduceSub, Int.reduceMul, Int.reduceNeg, Int.reduceToNat, Int.reduceEq, g4]
    exact endK_keep (M := M) (kz _ _) ⟨rfl, rfl, .inr ⟨ha, rfl⟩⟩
  simp only [go_sem, reduceCtorEq, reduceIte, Nat.reduceEqDiff, Nat.reduceAdd, Nat.reduceLeDiff, Nat.reduceMul, Int.reduceLT, Int.reduceLE, Int.reduceAdd, Int.reduceSub, Int.reduceMul, Int.reduceNeg, Int.reduceToNat, Int.reduceEq, g4]
  refine callK_of (k75 _ _ a yes ha) ?_
  rintro u G M' ⟨rfl, rfl, z, rfl, hz⟩
  refine ⟨fun _ => Le.refl _ _, ?_⟩
  simp only [go_sem, reduceCtorEq, reduceIte, Nat.reduceEqDiff, Nat.reduceAdd, Nat.reduceLeDiff, Nat.reduceMul, Int.reduceLT, Int.reduceLE, Int.reduceAdd, Int.reduceSub, Int.reduceMul, Int.reduceNeg, Int.reduceToNat, Int.reduceEq, g4]
  exact endK_keep (M := M) (kz _ _) ⟨rfl, rfl, .inl ⟨ha, z, rfl, hz⟩⟩
end Go.Proofs.Try.K

/- Contracts: small words of layer 5's statements. -/
namespace Go.Proofs.Try.K
open Go Go.Ax Go.Proofs.Try.S
set_option maxRecDepth 100000
set_option linter.unusedSimpArgs false
set_option linter.unusedVariables false
variable (F : Fz) (M : Hp)

theorem k37 (n : Int) : CallsA Try.prog 37 [.int .i64 n] F M (Same F M (.int .i64 n)) := by
  refine callsA_of hm Try.func37 e37 (Nat.le_of_ble_eq_true rfl) ?_
  simp only [c37, go_sem, reduceCtorEq, reduceIte, Nat.reduceEqDiff, Nat.reduceAdd, Nat.reduceLeDiff, Nat.reduceMul, Int.reduceLT, Int.reduceLE, Int.reduceAdd, Int.reduceSub, Int.reduceMul, Int.reduceNeg, Int.reduceToNat, Int.reduceEq]
  exact endK_same ⟨rfl, rfl, rfl⟩
theorem k81 (w : Int) (h0 : 0 ≤ w) (h1 : w ≤ 62) : CallsA Try.prog 81 [.int .i64 w] F M (Same F M (V.whole w).val) := by
  refine callsA_of hm Try.func81 e81 (Nat.le_of_ble_eq_true rfl) ?_
  have w0 : ¬ w < 0 := by omega
  simp only [c81, go_sem, reduceCtorEq, reduceIte, Nat.reduceEqDiff, Nat.reduceAdd, Nat.reduceLeDiff, Nat.reduceMul, Int.reduceLT, Int.reduceLE, Int.reduceAdd, Int.reduceSub, Int.reduceMul, Int.reduceNeg, Int.reduceToNat, Int.reduceEq]
  intro r hF hM
  simp only [go_sem, reduceCtorEq, reduceIte, Nat.reduceEqDiff, Nat.reduceAdd, Nat.reduceLeDiff, Nat.reduceMul, Int.reduceLT, Int.reduceLE, Int.reduceAdd, Int.reduceSub, Int.reduceMul, Int.reduceNeg, Int.reduceToNat, Int.reduceEq, w0, shl1 h0 h1, most_wrap h0 h1, not_false_eq_true]
  exact endK_drop hM (endK_same ⟨rfl, rfl, rfl⟩)
theorem k89 (w : Int) : CallsA Try.prog 89 [.int .i64 w] F M (Same F M (V.nothing w).val) := by
  refine callsA_of hm Try.func89 e89 (Nat.le_of_ble_eq_true rfl) ?_
  simp only [c89, go_sem, reduceCtorEq, reduceIte, Nat.reduceEqDiff, Nat.reduceAdd, Nat.reduceLeDiff, Nat.reduceMul, Int.reduceLT, Int.reduceLE, Int.reduceAdd, Int.reduceSub, Int.reduceMul, Int.reduceNeg, Int.reduceToNat, Int.reduceEq]
  intro r hF hM
  simp only [go_sem, reduceCtorEq, reduceIte, Nat.reduceEqDiff, Nat.reduceAdd, Nat.reduceLeDiff, Nat.reduceMul, Int.reduceLT, Int.reduceLE, Int.reduceAdd, Int.reduceSub, Int.reduceMul, Int.reduceNeg, Int.reduceToNat, Int.reduceEq]
  exact endK_drop hM (endK_same ⟨rfl, rfl, rfl⟩)
theorem k42 : CallsA Try.prog 42 [] F M (Same F M (.bool true)) := by
  refine callsA_of hm Try.func42 e42 (Nat.le_of_ble_eq_true rfl) ?_
  have j3 : (V.just 8 3).ok = true := by decide +kernel
  have j31 : (V.just 8 3).is1 = true := by decide +kernel
  have j3n : (V.just 8 3).nextR 0 = 3 := by decide +kernel
  have j03 : (V.just 8 0).has 3 = false := by decide +kernel
  have w3 : (V.whole 8).has 3 = true := by decide +kernel
  have j33 : (V.just 8 3).has 3 = true := by decide +kernel
  have hask : askB 18 1 (V.whole 8) (V.just 8 3) = true := by decide +kernel
  simp only [c42, go_sem, reduceCtorEq, reduceIte, Nat.reduceEqDiff, Nat.reduceAdd, Nat.reduceLeDiff, Nat.reduceMul, Int.reduceLT, Int.reduceLE, Int.reduceAdd, Int.reduceSub, Int.reduceMul, Int.reduceNeg, Int.reduceToNat, Int.reduceEq]
  refine callK_same (k81 _ _ 8 (by decide) (by decide)) ?_
  simp only [go_sem, reduceCtorEq, reduceIte, Nat.reduceEqDiff, Nat.reduceAdd, Nat.reduceLeDiff, Nat.reduceMul, Int.reduceLT, Int.reduceLE, Int.reduceAdd, Int.reduceSub, Int.reduceMul, Int.reduceNeg, Int.reduceToNat, Int.reduceEq]
  refine callK_same (k82 _ _ 8 3) ?_
  simp only [go_sem, reduceCtorEq, reduceIte, Nat.reduceEqDiff, Nat.reduceAdd, Nat.reduceLeDiff, Nat.reduceMul, Int.reduceLT, Int.reduceLE, Int.reduceAdd, Int.reduceSub, Int.reduceMul, Int.reduceNeg, Int.reduceToNat, Int.reduceEq]
  refine callK_of (k43 _ _ 18 1 (V.whole 8) (V.just 8 3) true) ?_
  rintro u G M' ⟨rfl, rfl, ⟨_, x, y, rfl, p⟩ | ⟨h, _⟩⟩
  rotate_left
  · rw [hask] at h; cases h
  refine ⟨fun _ => Le.refl _ _, ?_⟩
  simp only [go_sem, reduceCtorEq, reduceIte, Nat.reduceEqDiff, Nat.reduceAdd, Nat.reduceLeDiff, Nat.reduceMul, Int.reduceLT, Int.reduceLE, Int.reduceAdd, Int.reduceSub, Int.reduceMul, Int.reduceNeg, Int.reduceToNat, Int.reduceEq]
  intro r1 hF1 hM1
  simp only [go_sem, reduceCtorEq, reduceIte, Nat.reduceEqDiff, Nat.reduceAdd, Nat.reduceLeDiff, Nat.reduceMul, Int.reduceLT, Int.reduceLE, Int.reduceAdd, Int.reduceSub, Int.reduceMul, Int.reduceNeg, Int.reduceToNat, Int.reduceEq]
  intro r2 hF2 hM2
  have g2 := fresh_of hM2
  simp only [go_sem, reduceCtorEq, reduceIte, Nat.reduceEqDiff, Nat.reduceAdd, Nat.reduceLeDiff, Nat.reduceMul, Int.reduceLT, Int.reduceLE, Int.reduceAdd, Int.reduceSub, Int.reduceMul, Int.reduceNeg, Int.reduceToNat, Int.reduceEq, g2]
  refine callK_same (k82 _ _ 8 3) ?_
  simp only [go_sem, reduceCtorEq, reduceIte, Nat.reduceEqDiff, Nat.reduceAdd, Nat.reduceLeDiff, Nat.reduceMul, Int.reduceLT, Int.reduceLE, Int.reduceAdd, Int.reduceSub, Int.reduceMul, Int.reduceNeg, Int.reduceToNat, Int.reduceEq, g2]
  refine callK_of (k35 _ _ (V.just 8 3) true) ?_
  rintro u G M' ⟨rfl, rfl, ⟨_, z, rfl, q⟩ | ⟨h, _⟩⟩
  rotate_left
  · rw [j3] at h; cases h
  refine ⟨fun _ => Le.refl _ _, ?_⟩
  simp only [go_sem, reduceCtorEq, reduceIte, Nat.reduceEqDiff, Nat.reduceAdd, Nat.reduceLeDiff, Nat.reduceMul, Int.reduceLT, Int.reduceLE, Int.reduceAdd, Int.reduceSub, Int.reduceMul, Int.reduceNeg, Int.reduceToNat, Int.reduceEq, g2]
  intro r4 hF4 hM4
  have g4 := fresh_of hM4
  have g42 := fresh_of g4.2.2
  have hx := (p.keep 3 3 (by decide) (by decide) w3 (by decide) (by decide) j33 (by decide +kernel)).1
  have hz := void_one j3 q j31 (by rw [j3n]; exact j03)
  simp only [go_sem, reduceCtorEq, reduceIte, Nat.reduceEqDiff, Nat.reduceAdd, Nat.reduceLeDiff, Nat.reduceMul, Int.reduceLT, Int.reduceLE, Int.reduceAdd, Int.reduceSub, Int.reduceMul, Int.reduceNeg, Int.reduceToNat, Int.reduceEq, g2, g4, g42]
  refine callK_same (k37 _ _ 0) ?_
  simp only [go_sem, reduceCtorEq, reduceIte, Nat.reduceEqDiff, Nat.reduceAdd, Nat.reduceLeDiff, Nat.reduceMul, Int.reduceLT, Int.reduceLE, Int.reduceAdd, Int.reduceSub, Int.reduceMul, Int.reduceNeg, Int.reduceToNat, Int.reduceEq, g2, g4, g42]
  refine callK_same (k37 _ _ 0) ?_
  simp only [go_sem, reduceCtorEq, reduceIte, Nat.reduceEqDiff, Nat.reduceAdd, Nat.reduceLeDiff, Nat.reduceMul, Int.reduceLT, Int.reduceLE, Int.reduceAdd, Int.reduceSub, Int.reduceMul, Int.reduceNeg, Int.reduceToNat, Int.reduceEq, g2, g4, g42]
  refine callK_same (k40 _ _ x 3) ?_
  simp only [go_sem, reduceCtorEq, reduceIte, Nat.reduceEqDiff, Nat.reduceAdd, Nat.reduceLeDiff, Nat.reduceMul, Int.reduceLT, Int.reduceLE, Int.reduceAdd, Int.reduceSub, Int.reduceMul, Int.reduceNeg, Int.reduceToNat, Int.reduceEq, g2, g4, g42, hx]
  have zw := isW_le (ok_in q.ok).w
  refine callK_same (k41 _ _ z 0 zw.1 zw.2) ?_
  simp only [go_sem, reduceCtorEq, reduceIte, Nat.reduceEqDiff, Nat.reduceAdd, Nat.reduceLeDiff, Nat.reduceMul, Int.reduceLT, Int.reduceLE, Int.reduceAdd, Int.reduceSub, Int.reduceMul, Int.reduceNeg, Int.reduceToNat, Int.reduceEq, g2, g4, g42, hz]
  refine callK_same (k36 _ _ z) ?_
  simp only [go_sem, reduceCtorEq, reduceIte, Nat.reduceEqDiff, Nat.reduceAdd, Nat.reduceLeDiff, Nat.reduceMul, Int.reduceLT, Int.reduceLE, Int.reduceAdd, Int.reduceSub, Int.reduceMul, Int.reduceNeg, Int.reduceToNat, Int.reduceEq, g2, g4, g42, q.ok]
  exact endK_keep ((((Keep.refl _).new hM1).new g2.2.2).new g42.2.2) ⟨rfl, rfl, rfl⟩
end Go.Proofs.Try.K
