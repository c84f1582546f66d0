/- Parts K25to29: the machine's runs of small codes, contracts of functions, plain facts. -/
import Derived.Test.YtlcjihpdkdngkabGreatProg
import Derived.Test.YtlcjihpdkdngkabGreatK20to24
namespace Go.Proofs.Tryz.S
open Go Go.Ax Go.Ax.N
set_option maxRecDepth 100000

/-- cellar/cellarref1.Width -/
def c13 : SF := ⟨13, [.t 2], (.seq (.ops [o 2 (.mv (i 0))])
 (.seq (.seq (.ops [o 3 (.mv (t 0))])
 (.block 0 (.seq (.seq (.ops [o 5 (.bin .eql (t 3) (i 1)),
 o 4 (.mv (t 5))])
 (.cond (t 4)
 .skip
 (.ops [o 6 (.bin .eql (t 3) (i 2)),
 o 4 (.mv (t 6))])))
 (.cond (t 4)
 (.seq (.ops [o 2 (.mv (i 8))])
 .ret)
 (.seq (.seq (.ops [o 8 (.bin .eql (t 3) (i 3)),
 o 7 (.mv (t 8))])
 (.cond (t 7)
 .skip
 (.ops [o 9 (.bin .eql (t 3) (i 4)),
 o 7 (.mv (t 9))])))
 (.cond (t 7)
 (.seq (.ops [o 2 (.mv (i 16))])
 .ret)
 (.seq (.seq (.ops [o 11 (.bin .eql (t 3) (i 5)),
 o 10 (.mv (t 11))])
 (.cond (t 10)
 .skip
 (.ops [o 12 (.bin .eql (t 3) (i 6)),
 o 10 (.mv (t 12))])))
 (.cond (t 10)
 (.seq (.ops [o 2 (.mv (i 32))])
 .ret)
 .skip))))))))
 (.seq (.ops [o 2 (.mv (i 0))])
 .ret)))⟩
theorem e13 : slimF Tryz.prog Tryz.f13 [] = some c13 := by kernel_rfl
/-- cellar/cellarref1.Cast -/
def c18 : SF := ⟨13, [.t 6], (.seq (.ops [o 6 (.mv (i 0))])
 (.seq (.ops [o 7 (.mv (t 0)),
 o 8 (.mv (t 2)),
 k 9 (.ca (.func 44) [(t 7), (t 8)]),
 o 10 (.mv (t 1)),
 k 11 (.ca (.func 13) [(t 10)]),
 k 12 (.ca (.func 35) [(t 9), (t 11)]),
 o 6 (.mv (t 12))])
 .ret))⟩
theorem e18 : slimF Tryz.prog Tryz.f18 [] = some c18 := by kernel_rfl
/-- cellar/cellarref1.Two -/
def c27 : SF := ⟨138, [.t 8, .t 9], (.seq (.ops [o 8 (.mv (i 0)),
 o 9 (.mv (i 0))])
 (.seq (.ops [o 13 (.mv (t 1)),
 k 14 (.ca (.func 13) [(t 13)]),
 o 10 (.mv (t 14))])
 (.seq (.ops [o 15 (.mv (t 1)),
 o 16 (.mv (t 2)),
 k 17 (.ca (.func 44) [(t 15), (t 16)]),
 o 18 (.mv (t 1)),
 o 19 (.mv (t 3)),
 k 20 (.ca (.func 44) [(t 18), (t 19)]),
 o 11 (.mv (t 17)),
 o 12 (.mv (t 20))])
 (.seq (.seq (.ops [o 21 (.mv (t 0))])
 (.block 0 (.seq (.ops [o 23 (.bin .eql (t 21) (i 8)),
 o 22 (.mv (t 23))])
 (.cond (t 22)
 (.seq (.ops [o 24 (.mv (t 1)),
 o 25 (.mv (t 11)),
 o 26 (.mv (t 12)),
 o 27 (.bin .add (t 25) (t 26)),
 k 28 (.ca (.func 51) [(t 24), (t 27)]),
 o 29 (.ex (t 28) 0),
 o 30 (.ex (t 28) 1),
 o 8 (.mv (t 29)),
 o 9 (.mv (t 30))])
 .ret)
 (.seq (.ops [o 32 (.bin .eql (t 21) (i 9)),
 o 31 (.mv (t 32))])
 (.cond (t 31)
 (.seq (.ops [o 33 (.mv (t 1)),
 o 34 (.mv (t 11)),
 o 35 (.mv (t 12)),
 o 36 (.bin .sub (t 34) (t 35)),
 k 37 (.ca (.func 51) [(t 33), (t 36)]),
 o 38 (.ex (t 37) 0),
 o 39 (.ex (t 37) 1),
 o 8 (.mv (t 38)),
 o 9 (.mv (t 39))])
 .ret)
 (.seq (.ops [o 41 (.bin .eql (t 21) (i 10)),
 o 40 (.mv (t 41))])
 (.cond (t 40)
 (.seq (.seq (.ops [o 42 (.mv (t 1)),
 k 43 (.ca (.func 52) [(t 42)]),
 o 44 (.un .not (t 43))])
 (.cond (t 44)
 (.seq (.ops [o 45 (.mv (t 11)),
 o 46 (.cv .u64 (t 45)),
 o 47 (.mv (t 12)),
 o 48 (.cv .u64 (t 47)),
 o 49 (.bin .mul (t 46) (t 48)),
 o 50 (.mv (t 10)),
 o 51 (.bin .shl (.const (.int .u64 1)) (t 50)),
 o 52 (.bin .sub (t 51) (.const (.int .u64 1))),
 o 53 (.bin .and (t 49) (t 52)),
 o 54 (.cv .i64 (t 53)),
 o 8 (.mv (t 54)),
 o 9 (.mv (i 0))])
 .ret)
 .skip))
 (.seq (.ops [o 55 (.mv (t 1)),
 o 56 (.mv (t 11)),
 o 57 (.mv (t 12)),
 o 58 (.bin .mul (t 56) (t 57)),
 k 59 (.ca (.func 51) [(t 55), (t 58)]),
 o 60 (.ex (t 59) 0),
 o 61 (.ex (t 59) 1),
 o 8 (.mv (t 60)),
 o 9 (.mv (t 61))])
 .ret))
 (.seq (.seq (.ops [o 63 (.bin .eql (t 21) (i 11)),
 o 62 (.mv (t 63))])
 (.cond (t 62)
 .skip
 (.ops [o 64 (.bin .eql (t 21) (i 12)),
 o 62 (.mv (t 64))])))
 (.cond (t 62)
 (.seq (.seq (.ops [o 65 (.mv (t 12)),
 o 66 (.bin .eql (t 65) (i 0))])
 (.cond (t 66)
 (.seq (.ops [o 8 (.mv (i 0)),
 o 9 (.mv (i 6))])
 .ret)
 .skip))
 (.seq (.seq (.ops [o 67 (.mv (t 1)),
 k 68 (.ca (.func 52) [(t 67)]),
 o 69 (.mv (t 68)),
 og 70 69 true (.mv (t 11)),
 og 71 69 true (.mv (t 10)),
 og 72 69 true (.bin .sub (t 71) (i 1)),
 og 73 69 true (.bin .shl (i 1) (t 72)),
 og 74 69 true (.un .neg (t 73)),
 og 75 69 true (.bin .eql (t 70) (t 74)),
 o 76 (.pick (t 69) (t 75) (b false)),
 o 77 (.mv (t 76)),
 og 78 77 true (.mv (t 12)),
 og 79 77 true (.bin .eql (t 78) (i (-1))),
 o 80 (.pick (t 77) (t 79) (b false))])
 (.cond (t 80)
 (.seq (.ops [o 8 (.mv (i 0)),
 o 9 (.mv (i 4))])
 .ret)
 .skip))
 (.seq (.seq (.ops [o 81 (.mv (t 0)),
 o 82 (.bin .eql (t 81) (i 11))])
 (.cond (t 82)
 (.seq (.ops [o 83 (.mv (t 11)),
 o 84 (.mv (t 12)),
 o 85 (.bin .quo (t 83) (t 84)),
 o 86 (.mv (t 10)),
 k 87 (.ca (.func 35) [(t 85), (t 86)]),
 o 8 (.mv (t 87)),
 o 9 (.mv (i 0))])
 .ret)
 .skip))
 (.seq (.ops [o 88 (.mv (t 11)),
 o 89 (.mv (t 12)),
 o 90 (.bin .rem (t 88) (t 89)),
 o 91 (.mv (t 10)),
 k 92 (.ca (.func 35) [(t 90), (t 91)]),
 o 8 (.mv (t 92)),
 o 9 (.mv (i 0))])
 .ret))))
 (.seq (.ops [o 94 (.bin .eql (t 21) (i 13)),
 o 93 (.mv (t 94))])
 (.cond (t 93)
 (.seq (.ops [o 95 (.mv (t 2)),
 o 96 (.mv (t 3)),
 o 97 (.bin .and (t 95) (t 96)),
 o 8 (.mv (t 97)),
 o 9 (.mv (i 0))])
 .ret)
 (.seq (.ops [o 99 (.bin .eql (t 21) (i 14)),
 o 98 (.mv (t 99))])
 (.cond (t 98)
 (.seq (.ops [o 100 (.mv (t 2)),
 o 101 (.mv (t 3)),
 o 102 (.bin .or (t 100) (t 101)),
 o 8 (.mv (t 102)),
 o 9 (.mv (i 0))])
 .ret)
 (.seq (.ops [o 104 (.bin .eql (t 21) (i 15)),
 o 103 (.mv (t 104))])
 (.cond (t 103)
 (.seq (.ops [o 105 (.mv (t 2)),
 o 106 (.mv (t 3)),
 o 107 (.bin .xor (t 105) (t 106)),
 o 8 (.mv (t 107)),
 o 9 (.mv (i 0))])
 .ret)
 (.seq (.seq (.ops [o 109 (.bin .eql (t 21) (i 16)),
 o 108 (.mv (t 109))])
 (.cond (t 108)
 .skip
 (.ops [o 110 (.bin .eql (t 21) (i 17)),
 o 108 (.mv (t 110))])))
 (.cond (t 108)
 (.seq (.seq (.ops [o 111 (.mv (t 12)),
 o 112 (.mv (t 10)),
 o 113 (.bin .sub (t 112) (i 1)),
 k 114 (.ca (.func 53) [(t 111), (t 113)]),
 o 115 (.un .not (t 114))])
 (.cond (t 115)
 (.seq (.ops [o 8 (.mv (i 0)),
 o 9 (.mv (i 5))])
 .ret)
 .skip))
 (.seq (.seq (.ops [o 116 (.mv (t 0)),
 o 117 (.bin .eql (t 116) (i 16))])
 (.cond (t 117)
 (.seq (.ops [o 118 (.mv (t 2)),
 o 119 (.mv (t 12)),
 o 120 (.bin .shl (t 118) (t 119)),
 o 121 (.mv (t 10)),
 k 122 (.ca (.func 35) [(t 120), (t 121)]),
 o 8 (.mv (t 122)),
 o 9 (.mv (i 0))])
 .ret)
 .skip))
 (.seq (.ops [o 123 (.mv (t 11)),
 o 124 (.mv (t 12)),
 o 125 (.bin .shr (t 123) (t 124)),
 o 126 (.mv (t 10)),
 k 127 (.ca (.func 35) [(t 125), (t 126)]),
 o 8 (.mv (t 127)),
 o 9 (.mv (i 0))])
 .ret)))
 (.seq (.ops [o 129 (.bin .eql (t 21) (i 18)),
 o 128 (.mv (t 129))])
 (.cond (t 128)
 (.seq (.ops [o 130 (.mv (t 2)),
 o 131 (.mv (t 3)),
 o 132 (.bin .eql (t 130) (t 131)),
 k 133 (.ca (.func 54) [(t 132)]),
 o 8 (.mv (t 133)),
 o 9 (.mv (i 0))])
 .ret)
 .skip))))))))))))))))))))
 (.seq (.ops [o 134 (.mv (t 11)),
 o 135 (.mv (t 12)),
 o 136 (.bin .lss (t 134) (t 135)),
 k 137 (.ca (.func 54) [(t 136)]),
 o 8 (.mv (t 137)),
 o 9 (.mv (i 0))])
 .ret)))))⟩
theorem e27 : slimF Tryz.prog Tryz.f27 [] = some c27 := by kernel_rfl
/-- cellar/cellarref1.All -/
def c32 : SF := ⟨11, [.c true 6 2], (.seq (.ops [k 2 (.al 30 [.int .i64 0, .bool false, .int .i64 0, .int .i64 0, .int .i64 0, .int .i64 0])])
 (.seq (.opq [o 3 (.mv (t 0)),
 o 4 (.mv (t 0)),
 o 5 (.bin .shl (i 1) (t 4)),
 o 6 (.bin .sub (t 5) (i 1)),
 o 7 (.mv (t 0)),
 o 8 (.bin .shl (i 1) (t 7)),
 o 9 (.bin .sub (t 8) (i 1)),
 o 10 (.bd [.int .i64 0, .bool false, .int .i64 0, .int .i64 0, .int .i64 0, .int .i64 0] [(0, 1, (t 3)), (3, 1, (t 6)), (4, 1, (t 9))]),
 kn (.st [] 6 (t 2) (t 10))])
 .ret))⟩
theorem e32 : slimF Tryz.prog Tryz.f32 [[(0, []), (1, []), (2, []), (3, []), (4, []), (5, []), (6, []), (7, []), (8, [])]] = some c32 := by kernel_rfl
/-- cellar/cellarref1.No -/
def c33 : SF := ⟨5, [.c true 6 2], (.seq (.ops [k 2 (.al 30 [.int .i64 0, .bool false, .int .i64 0, .int .i64 0, .int .i64 0, .int .i64 0])])
 (.seq (.ops [o 3 (.mv (t 0)),
 o 4 (.bd [.int .i64 0, .bool false, .int .i64 0, .int .i64 0, .int .i64 0, .int .i64 0] [(0, 1, (t 3)), (1, 1, (b true))]),
 kn (.st [] 6 (t 2) (t 4))])
 .ret))⟩
theorem e33 : slimF Tryz.prog Tryz.f33 [] = some c33 := by kernel_rfl
/-- cellar/word.IsKind -/
def c37 : SF := ⟨9, [.t 2], (.seq (.ops [o 2 (.mv (b false))])
 (.seq (.ops [o 3 (.mv (t 0)),
 o 4 (.bin .geq (t 3) (i 1)),
 o 5 (.mv (t 4)),
 og 6 5 true (.mv (t 0)),
 og 7 5 true (.bin .leq (t 6) (i 6)),
 o 8 (.pick (t 5) (t 7) (b false)),
 o 2 (.mv (t 8))])
 .ret))⟩
theorem e37 : slimF Tryz.prog Tryz.f37 [] = some c37 := by kernel_rfl
/-- cellar/cellarref1.see -/
def c44 : SF := ⟨12, [.t 4], (.seq (.ops [o 4 (.mv (i 0))])
 (.seq (.seq (.ops [o 5 (.mv (t 0)),
 k 6 (.ca (.func 52) [(t 5)])])
 (.cond (t 6)
 (.seq (.ops [o 7 (.mv (t 1)),
 o 8 (.mv (t 0)),
 k 9 (.ca (.func 13) [(t 8)]),
 k 10 (.ca (.func 70) [(t 7), (t 9)]),
 o 4 (.mv (t 10))])
 .ret)
 .skip))
 (.seq (.ops [o 11 (.mv (t 1)),
 o 4 (.mv (t 11))])
 .ret)))⟩
theorem e44 : slimF Tryz.prog Tryz.f44 [] = some c44 := by kernel_rfl
/-- cellar/cellarref1.Signed -/
def c52 : SF := ⟨13, [.t 2], (.seq (.ops [o 2 (.mv (b false))])
 (.seq (.ops [o 3 (.mv (t 0)),
 o 4 (.bin .eql (t 3) (i 2)),
 o 5 (.mv (t 4)),
 og 6 5 false (.mv (t 0)),
 og 7 5 false (.bin .eql (t 6) (i 4)),
 o 8 (.pick (t 5) (b true) (t 7)),
 o 9 (.mv (t 8)),
 og 10 9 false (.mv (t 0)),
 og 11 9 false (.bin .eql (t 10) (i 6)),
 o 12 (.pick (t 9) (b true) (t 11)),
 o 2 (.mv (t 12))])
 .ret))⟩
theorem e52 : slimF Tryz.prog Tryz.f52 [] = some c52 := by kernel_rfl
/-- cellar/cellarref1.truth -/
def c54 : SF := ⟨4, [.t 2], (.seq (.ops [o 2 (.mv (i 0))])
 (.seq (.seq (.ops [o 3 (.mv (t 0))])
 (.cond (t 3)
 (.seq (.ops [o 2 (.mv (i 1))])
 .ret)
 .skip))
 (.seq (.ops [o 2 (.mv (i 0))])
 .ret)))⟩
theorem e54 : slimF Tryz.prog Tryz.f54 [] = some c54 := by kernel_rfl
/-- cellar/word.Of -/
def c59 : SF := ⟨7, [.t 2], (.seq (.ops [o 2 (.mv (i 0))])
 (.seq (.ops [o 3 (.mv (t 0)),
 o 4 (.bin .sub (t 3) (i 1)),
 o 5 (.bin .quo (t 4) (i 2)),
 o 6 (.bin .shl (i 8) (t 5)),
 o 2 (.mv (t 6))])
 .ret))⟩
theorem e59 : slimF Tryz.prog Tryz.f59 [] = some c59 := by kernel_rfl
/-- cellar/alu.Turn -/
def c63 : SF := ⟨13, [.t 6], (.seq (.ops [o 6 (.mv (i 0))])
 (.seq (.ops [o 7 (.mv (t 0)),
 o 8 (.mv (t 2)),
 k 9 (.ca (.func 82) [(t 7), (t 8)]),
 o 10 (.mv (t 1)),
 k 11 (.ca (.func 59) [(t 10)]),
 k 12 (.ca (.func 68) [(t 9), (t 11)]),
 o 6 (.mv (t 12))])
 .ret))⟩
theorem e63 : slimF Tryz.prog Tryz.f63 [] = some c63 := by kernel_rfl
/-- cellar/maths.Seen -/
def c64 : SF := ⟨47, [.t 4, .t 5], (.seq (.ops [k 3 (.bx 30 (t 1)),
 o 4 (.mv (i 0)),
 o 5 (.mv (i 0))])
 (.seq (.seq (.ops [o 7 (.mv (t 0)),
 k 8 (.ca (.func 83) [(t 7)]),
 o 9 (.un .not (t 8))])
 (.cond (t 9)
 (.seq (.opd [o 10 (.ld true 6 (t 3)),
 o 12 (.ld true 6 (t 3)),
 o 13 (.fa 0 (t 3)),
 o 14 (.ld false 1 (t 13)),
 k 11 (.ca (.func 79) [(t 10), (i 0)]),
 k 15 (.ca (.func 65) [(t 14)]),
 k 16 (.ca (.func 84) [(t 12), (t 15)]),
 o 4 (.mv (t 11)),
 o 5 (.mv (t 16))])
 .ret)
 .skip))
 (.seq (.ops [o 17 (.fa 0 (t 3)),
 o 18 (.ld false 1 (t 17)),
 o 19 (.bin .sub (t 18) (i 1)),
 o 20 (.bin .shl (i 1) (t 19)),
 o 6 (.mv (t 20))])
 (.seq (.opd [o 21 (.ld true 6 (t 3)),
 o 22 (.mv (t 6)),
 o 24 (.ld true 6 (t 3)),
 o 25 (.mv (t 6)),
 o 26 (.bin .sub (t 25) (i 1)),
 k 23 (.ca (.func 79) [(t 21), (t 22)]),
 k 27 (.ca (.func 84) [(t 24), (t 26)]),
 o 4 (.mv (t 23)),
 o 5 (.mv (t 27))])
 (.seq (.seq (.ops [o 28 (.mv (t 4)),
 o 29 (.bin .lss (t 28) (i 0))])
 (.cond (t 29)
 (.ops [o 30 (.ld true 6 (t 3)),
 k 31 (.ca (.func 79) [(t 30), (i 0)]),
 o 4 (.mv (t 31))])
 .skip))
 (.seq (.seq (.ops [o 32 (.mv (t 5)),
 o 33 (.bin .lss (t 32) (i 0))])
 (.cond (t 33)
 (.opd [o 34 (.ld true 6 (t 3)),
 o 35 (.fa 0 (t 3)),
 o 36 (.ld false 1 (t 35)),
 k 37 (.ca (.func 65) [(t 36)]),
 k 38 (.ca (.func 84) [(t 34), (t 37)]),
 o 5 (.mv (t 38))])
 .skip))
 (.seq (.opd [o 39 (.mv (t 4)),
 o 40 (.fa 0 (t 3)),
 o 41 (.ld false 1 (t 40)),
 o 43 (.mv (t 5)),
 o 44 (.fa 0 (t 3)),
 o 45 (.ld false 1 (t 44)),
 k 42 (.ca (.func 85) [(t 39), (t 41)]),
 k 46 (.ca (.func 85) [(t 43), (t 45)]),
 o 4 (.mv (t 42)),
 o 5 (.mv (t 46))])
 .ret)))))))⟩
theorem e64 : slimF Tryz.prog Tryz.f64 [[(0, []), (2, []), (3, []), (4, []), (1, []), (5, []), (6, []), (7, []), (8, [])], [(0, []), (1, []), (3, []), (4, []), (5, []), (2, []), (6, []), (7, []), (8, [])], [(0, []), (1, []), (2, []), (3, []), (4, []), (5, [])], [(0, []), (1, []), (2, []), (4, []), (5, []), (6, []), (3, []), (7, []), (8, []), (9, [])]] = some c64 := by kernel_rfl
/-- cellar/cellarref1.View -/
def c70 : SF := ⟨15, [.t 4], (.seq (.ops [o 4 (.mv (i 0))])
 (.seq (.seq (.ops [o 5 (.mv (t 0)),
 o 6 (.mv (t 1)),
 o 7 (.bin .sub (t 6) (i 1)),
 o 8 (.bin .shl (i 1) (t 7)),
 o 9 (.bin .geq (t 5) (t 8))])
 (.cond (t 9)
 (.seq (.ops [o 10 (.mv (t 0)),
 o 11 (.mv (t 1)),
 o 12 (.bin .shl (i 1) (t 11)),
 o 13 (.bin .sub (t 10) (t 12)),
 o 4 (.mv (t 13))])
 .ret)
 .skip))
 (.seq (.ops [o 14 (.mv (t 0)),
 o 4 (.mv (t 14))])
 .ret)))⟩
theorem e70 : slimF Tryz.prog Tryz.f70 [] = some c70 := by kernel_rfl
/-- cellar/word.Seen -/
def c82 : SF := ⟨12, [.t 4], (.seq (.ops [o 4 (.mv (i 0))])
 (.seq (.seq (.ops [o 5 (.mv (t 0)),
 k 6 (.ca (.func 83) [(t 5)])])
 (.cond (t 6)
 (.seq (.ops [o 7 (.mv (t 1)),
 o 8 (.mv (t 0)),
 k 9 (.ca (.func 59) [(t 8)]),
 k 10 (.ca (.func 85) [(t 7), (t 9)]),
 o 4 (.mv (t 10))])
 .ret)
 .skip))
 (.seq (.ops [o 11 (.mv (t 1)),
 o 4 (.mv (t 11))])
 .ret)))⟩
theorem e82 : slimF Tryz.prog Tryz.f82 [] = some c82 := by kernel_rfl
/-- cellar/word.IsSigned -/
def c83 : SF := ⟨13, [.t 2], (.seq (.ops [o 2 (.mv (b false))])
 (.seq (.ops [o 3 (.mv (t 0)),
 o 4 (.bin .eql (t 3) (i 2)),
 o 5 (.mv (t 4)),
 og 6 5 false (.mv (t 0)),
 og 7 5 false (.bin .eql (t 6) (i 4)),
 o 8 (.pick (t 5) (b true) (t 7)),
 o 9 (.mv (t 8)),
 og 10 9 false (.mv (t 0)),
 og 11 9 false (.bin .eql (t 10) (i 6)),
 o 12 (.pick (t 9) (b true) (t 11)),
 o 2 (.mv (t 12))])
 .ret))⟩
theorem e83 : slimF Tryz.prog Tryz.f83 [] = some c83 := by kernel_rfl
/-- cellar/maths.last -/
def c84 : SF := ⟨43, [.t 4], (.seq (.ops [k 2 (.bx 30 (t 0)),
 o 4 (.mv (i 0))])
 (.seq (.ops [o 9 (.ld true 6 (t 2)),
 k 10 (.ca (.func 79) [(t 9), (i 0)]),
 o 11 (.mv (t 1)),
 o 12 (.bin .add (t 11) (i 1)),
 o 5 (.mv (t 10)),
 o 6 (.mv (t 12))])
 (.seq (.seq (.ops [o 13 (.mv (t 5)),
 o 14 (.bin .lss (t 13) (i 0)),
 o 15 (.mv (t 14)),
 og 16 15 false (.mv (t 5)),
 og 17 15 false (.mv (t 1)),
 og 18 15 false (.bin .gtr (t 16) (t 17)),
 o 19 (.pick (t 15) (b true) (t 18))])
 (.cond (t 19)
 (.seq (.ops [o 4 (.mv (i (-1)))])
 .ret)
 .skip))
 (.seq (.block 0 (.loop (.seq (.seq (.ops [o 20 (.mv (t 5)),
 o 21 (.bin .add (t 20) (i 1)),
 o 22 (.mv (t 6)),
 o 23 (.bin .lss (t 21) (t 22))])
 (.cond (t 23)
 .skip
 (.exit 0)))
 (.block 1 (.seq (.ops [o 24 (.mv (t 5)),
 o 25 (.mv (t 6)),
 o 26 (.mv (t 5)),
 o 27 (.bin .sub (t 25) (t 26)),
 o 28 (.bin .quo (t 27) (i 2)),
 o 29 (.bin .add (t 24) (t 28)),
 o 7 (.mv (t 29))])
 (.seq (.ops [o 30 (.ld true 6 (t 2)),
 o 31 (.mv (t 7)),
 k 32 (.ca (.func 79) [(t 30), (t 31)]),
 o 8 (.mv (t 32))])
 (.seq (.ops [o 33 (.mv (t 8)),
 o 34 (.bin .geq (t 33) (i 0)),
 o 35 (.mv (t 34)),
 og 36 35 true (.mv (t 8)),
 og 37 35 true (.mv (t 1)),
 og 38 35 true (.bin .leq (t 36) (t 37)),
 o 39 (.pick (t 35) (t 38) (b false))])
 (.cond (t 39)
 (.ops [o 40 (.mv (t 8)),
 o 5 (.mv (t 40))])
 (.ops [o 41 (.mv (t 7)),
 o 6 (.mv (t 41))])))))))))
 (.seq (.ops [o 42 (.mv (t 5)),
 o 4 (.mv (t 42))])
 .ret)))))⟩
theorem e84 : slimF Tryz.prog Tryz.f84 [] = some c84 := by kernel_rfl
/-- cellar/word.Look -/
def c85 : SF := ⟨15, [.t 4], (.seq (.ops [o 4 (.mv (i 0))])
 (.seq (.seq (.ops [o 5 (.mv (t 0)),
 o 6 (.mv (t 1)),
 o 7 (.bin .sub (t 6) (i 1)),
 o 8 (.bin .shl (i 1) (t 7)),
 o 9 (.bin .geq (t 5) (t 8))])
 (.cond (t 9)
 (.seq (.ops [o 10 (.mv (t 0)),
 o 11 (.mv (t 1)),
 o 12 (.bin .shl (i 1) (t 11)),
 o 13 (.bin .sub (t 10) (t 12)),
 o 4 (.mv (t 13))])
 .ret)
 .skip))
 (.seq (.ops [o 14 (.mv (t 0)),
 o 4 (.mv (t 14))])
 .ret)))⟩
theorem e85 : slimF Tryz.prog Tryz.f85 [] = some c85 := by kernel_rfl
/-- cellar/alu.Most -/
def c104 : SF := ⟨18, [.t 2, .t 3], (.seq (.ops [o 2 (.mv (i 0)),
 o 3 (.mv (i 0))])
 (.seq (.ops [o 5 (.mv (t 0)),
 k 6 (.ca (.func 59) [(t 5)]),
 o 4 (.mv (t 6))])
 (.seq (.seq (.ops [o 7 (.mv (t 0)),
 k 8 (.ca (.func 83) [(t 7)])])
 (.cond (t 8)
 (.seq (.opq [o 9 (.mv (t 4)),
 o 10 (.bin .sub (t 9) (i 1)),
 o 11 (.bin .shl (i (-1)) (t 10)),
 o 12 (.mv (t 4)),
 o 13 (.bin .sub (t 12) (i 1)),
 o 14 (.bin .shl (i 1) (t 13)),
 o 15 (.bin .sub (t 14) (i 1)),
 o 2 (.mv (t 11)),
 o 3 (.mv (t 15))])
 .ret)
 .skip))
 (.seq (.ops [o 16 (.mv (t 4)),
 k 17 (.ca (.func 65) [(t 16)]),
 o 2 (.mv (i 0)),
 o 3 (.mv (t 17))])
 .ret))))⟩
theorem e104 : slimF Tryz.prog Tryz.f104 [[(0, []), (1, []), (2, []), (3, []), (4, []), (5, []), (6, []), (7, []), (8, [])]] = some c104 := by kernel_rfl
end Go.Proofs.Tryz.S
/- Contracts: kinds of numbers. -/
namespace Go.Proofs.Tryz.K
open Go Go.Ax Go.Proofs.Tryz.S
set_option maxRecDepth 100000
set_option linter.unusedSimpArgs false
set_option linter.unusedVariables false
variable (F : Fz) (M : Hp)

theorem k37 (k : Int) : CallsA Tryz.prog 37 [.int .i64 k] F M (Same F M (.bool (isK k))) := by
  refine callsA_of hm Tryz.func37 e37 (Nat.le_of_ble_eq_true rfl) ?_
  by_cases h1 : 1 ≤ k
  · by_cases h2 : k ≤ 6
    · simp only [c37, go_sem, reduceCtorEq, reduceIte, Nat.reduceEqDiff, Nat.reduceAdd, Nat.reduceLeDiff, Nat.reduceMul, Int.reduceLT, Int.reduceLE, Int.reduceAdd, Int.reduceSub, Int.reduceMul, Int.reduceNeg, Int.reduceToNat, Int.reduceEq, h1, h2]
      exact endK_same ⟨by simp [isK, h1, h2], rfl, rfl⟩
    · simp only [c37, go_sem, reduceCtorEq, reduceIte, Nat.reduceEqDiff, Nat.reduceAdd, Nat.reduceLeDiff, Nat.reduceMul, Int.reduceLT, Int.reduceLE, Int.reduceAdd, Int.reduceSub, Int.reduceMul, Int.reduceNeg, Int.reduceToNat, Int.reduceEq, h1, h2]
      exact endK_same ⟨by simp [isK, h1, h2], rfl, rfl⟩
  · simp only [c37, go_sem, reduceCtorEq, reduceIte, Nat.reduceEqDiff, Nat.reduceAdd, Nat.reduceLeDiff, Nat.reduceMul, Int.reduceLT, Int.reduceLE, Int.reduceAdd, Int.reduceSub, Int.reduceMul, Int.reduceNeg, Int.reduceToNat, Int.reduceEq, h1]
    exact endK_same ⟨by simp [isK, h1], rfl, rfl⟩
theorem k59 (k : Int) (hk : isK k = true) : CallsA Tryz.prog 59 [.int .i64 k] F M (Same F M (.int .i64 (ofW k))) := by
  refine callsA_of hm Tryz.func59 e59 (Nat.le_of_ble_eq_true rfl) ?_
  have q0 : (0 : Int).tdiv 2 = 0 := by decide
  have q1 : (1 : Int).tdiv 2 = 0 := by decide
  have q2 : (2 : Int).tdiv 2 = 1 := by decide
  have q3 : (3 : Int).tdiv 2 = 1 := by decide
  have q4 : (4 : Int).tdiv 2 = 2 := by decide
  have q5 : (5 : Int).tdiv 2 = 2 := by decide
  have w0 : IntKind.i64.wrap 0 = 0 := by decide
  have w1 : IntKind.i64.wrap 1 = 1 := by decide
  have w2 : IntKind.i64.wrap 2 = 2 := by decide
  have w3 : IntKind.i64.wrap 3 = 3 := by decide
  have w4 : IntKind.i64.wrap 4 = 4 := by decide
  have w5 : IntKind.i64.wrap 5 = 5 := by decide
  have s0 : shlv .i64 8 0 = 8 := by decide +kernel
  have s1 : shlv .i64 8 1 = 16 := by decide +kernel
  have s2 : shlv .i64 8 2 = 32 := by decide +kernel
  have n2 : ¬ (2 : Int) = 0 := by decide
  rcases isK_cases hk with rfl | rfl | rfl | rfl | rfl | rfl <;>
    simp only [c59, go_sem, reduceCtorEq, reduceIte, Nat.reduceEqDiff, Nat.reduceAdd, Nat.reduceLeDiff, Nat.reduceMul, Int.reduceLT, Int.reduceLE, Int.reduceAdd, Int.reduceSub, Int.reduceMul, Int.reduceNeg, Int.reduceToNat, Int.reduceEq, w0, w1, w2, w3, w4, w5, q0, q1, q2, q3, q4, q5, s0, s1, s2, n2, not_false_eq_true, Int.sub_self] <;>
    exact endK_same ⟨rfl, rfl, rfl⟩
theorem k83 (k : Int) : CallsA Tryz.prog 83 [.int .i64 k] F M (Same F M (.bool (sgn k))) := by
  refine callsA_of hm Tryz.func83 e83 (Nat.le_of_ble_eq_true rfl) ?_
  by_cases h1 : k = 2
  · simp only [c83, go_sem, reduceCtorEq, reduceIte, Nat.reduceEqDiff, Nat.reduceAdd, Nat.reduceLeDiff, Nat.reduceMul, Int.reduceLT, Int.reduceLE, Int.reduceAdd, Int.reduceSub, Int.reduceMul, Int.reduceNeg, Int.reduceToNat, Int.reduceEq, h1]
    exact endK_same ⟨rfl, rfl, rfl⟩
  by_cases h2 : k = 4
  · simp only [c83, go_sem, reduceCtorEq, reduceIte, Nat.reduceEqDiff, Nat.reduceAdd, Nat.reduceLeDiff, Nat.reduceMul, Int.reduceLT, Int.reduceLE, Int.reduceAdd, Int.reduceSub, Int.reduceMul, Int.reduceNeg, Int.reduceToNat, Int.reduceEq, h1, h2]
    exact endK_same ⟨rfl, rfl, rfl⟩
  simp only [c83, go_sem, reduceCtorEq, reduceIte, Nat.reduceEqDiff, Nat.reduceAdd, Nat.reduceLeDiff, Nat.reduceMul, Int.reduceLT, Int.reduceLE, Int.reduceAdd, Int.reduceSub, Int.reduceMul, Int.reduceNeg, Int.reduceToNat, Int.reduceEq, h1, h2]
  exact endK_same ⟨by simp [sgn, h1, h2], rfl, rfl⟩
theorem k52 (k : Int) : CallsA Tryz.prog 52 [.int .i64 k] F M (Same F M (.bool (sgn k))) := by
  refine callsA_of hm Tryz.func52 e52 (Nat.le_of_ble_eq_true rfl) ?_
  by_cases h1 : k = 2
  · simp only [c52, go_sem, reduceCtorEq, reduceIte, Nat.reduceEqDiff, Nat.reduceAdd, Nat.reduceLeDiff, Nat.reduceMul, Int.reduceLT, Int.reduceLE, Int.reduceAdd, Int.reduceSub, Int.reduceMul, Int.reduceNeg, Int.reduceToNat, Int.reduceEq, h1]
    exact endK_same ⟨rfl, rfl, rfl⟩
  by_cases h2 : k = 4
  · simp only [c52, go_sem, reduceCtorEq, reduceIte, Nat.reduceEqDiff, Nat.reduceAdd, Nat.reduceLeDiff, Nat.reduceMul, Int.reduceLT, Int.reduceLE, Int.reduceAdd, Int.reduceSub, Int.reduceMul, Int.reduceNeg, Int.reduceToNat, Int.reduceEq, h1, h2]
    exact endK_same ⟨rfl, rfl, rfl⟩
  simp only [c52, go_sem, reduceCtorEq, reduceIte, Nat.reduceEqDiff, Nat.reduceAdd, Nat.reduceLeDiff, Nat.reduceMul, Int.reduceLT, Int.reduceLE, Int.reduceAdd, Int.reduceSub, Int.reduceMul, Int.reduceNeg, Int.reduceToNat, Int.reduceEq, h1, h2]
  exact endK_same ⟨by simp [sgn, h1, h2], rfl, rfl⟩
theorem k13 (k : Int) : CallsA Tryz.prog 13 [.int .i64 k] F M (Same F M (.int .i64 (wK k))) := by
  refine callsA_of hm Tryz.func13 e13 (Nat.le_of_ble_eq_true rfl) ?_
  by_cases h : isK k = true
  · rcases isK_cases h with rfl | rfl | rfl | rfl | rfl | rfl <;>
      simp only [c13, go_sem, reduceCtorEq, reduceIte, Nat.reduceEqDiff, Nat.reduceAdd, Nat.reduceLeDiff, Nat.reduceMul, Int.reduceLT, Int.reduceLE, Int.reduceAdd, Int.reduceSub, Int.reduceMul, Int.reduceNeg, Int.reduceToNat, Int.reduceEq] <;>
      exact endK_same ⟨rfl, rfl, rfl⟩
  · have hn : ¬ k = 1 ∧ ¬ k = 2 ∧ ¬ k = 3 ∧ ¬ k = 4 ∧ ¬ k = 5 ∧ ¬ k = 6 := by simp [isK] at h; omega
    simp only [c13, go_sem, reduceCtorEq, reduceIte, Nat.reduceEqDiff, Nat.reduceAdd, Nat.reduceLeDiff, Nat.reduceMul, Int.reduceLT, Int.reduceLE, Int.reduceAdd, Int.reduceSub, Int.reduceMul, Int.reduceNeg, Int.reduceToNat, Int.reduceEq, hn]
    exact endK_same ⟨by simp [wK, h], rfl, rfl⟩
theorem k85 (n w : Int) (hw : isW w = true) (h0 : 0 ≤ n) (h1 : n ≤ mostV w) : CallsA Tryz.prog 85 [.int .i64 n, .int .i64 w] F M (Same F M (.int .i64 (lookV n w))) := by
  refine callsA_of hm Tryz.func85 e85 (Nat.le_of_ble_eq_true rfl) ?_
  have lw := isW_le hw
  have hp := pow_w hw
  have w1 : IntKind.i64.wrap (w - 1) = w - 1 := w64 (by omega) (by omega)
  have s0 : ¬ w - 1 < 0 := by omega
  have s1 : ¬ w < 0 := by omega
  have e1 : shlv .i64 1 (w - 1) = halfV w := shl1 (by omega) (by omega)
  have e2 : IntKind.i64.wrap (n - 2 ^ w.toNat) = n - 2 ^ w.toNat := w64 (by omega) (by omega)
  by_cases h : halfV w ≤ n
  · simp only [c85, go_sem, reduceCtorEq, reduceIte, Nat.reduceEqDiff, Nat.reduceAdd, Nat.reduceLeDiff, Nat.reduceMul, Int.reduceLT, Int.reduceLE, Int.reduceAdd, Int.reduceSub, Int.reduceMul, Int.reduceNeg, Int.reduceToNat, Int.reduceEq, w1, s0, s1, e1, shl1 lw.1 lw.2, h, e2, not_false_eq_true]
    exact endK_same ⟨by simp [lookV, h], rfl, rfl⟩
  · simp only [c85, go_sem, reduceCtorEq, reduceIte, Nat.reduceEqDiff, Nat.reduceAdd, Nat.reduceLeDiff, Nat.reduceMul, Int.reduceLT, Int.reduceLE, Int.reduceAdd, Int.reduceSub, Int.reduceMul, Int.reduceNeg, Int.reduceToNat, Int.reduceEq, w1, s0, s1, e1, shl1 lw.1 lw.2, h, not_false_eq_true]
    exact endK_same ⟨by simp [lookV, h], rfl, rfl⟩
theorem k70 (n w : Int) (hw : isW w = true) (h0 : 0 ≤ n) (h1 : n ≤ mostV w) : CallsA Tryz.prog 70 [.int .i64 n, .int .i64 w] F M (Same F M (.int .i64 (lookV n w))) := by
  refine callsA_of hm Tryz.func70 e70 (Nat.le_of_ble_eq_true rfl) ?_
  have lw := isW_le hw
  have hp := pow_w hw
  have w1 : IntKind.i64.wrap (w - 1) = w - 1 := w64 (by omega) (by omega)
  have s0 : ¬ w - 1 < 0 := by omega
  have s1 : ¬ w < 0 := by omega
  have e1 : shlv .i64 1 (w - 1) = halfV w := shl1 (by omega) (by omega)
  have e2 : IntKind.i64.wrap (n - 2 ^ w.toNat) = n - 2 ^ w.toNat := w64 (by omega) (by omega)
  by_cases h : halfV w ≤ n
  · simp only [c70, go_sem, reduceCtorEq, reduceIte, Nat.reduceEqDiff, Nat.reduceAdd, Nat.reduceLeDiff, Nat.reduceMul, Int.reduceLT, Int.reduceLE, Int.reduceAdd, Int.reduceSub, Int.reduceMul, Int.reduceNeg, Int.reduceToNat, Int.reduceEq, w1, s0, s1, e1, shl1 lw.1 lw.2, h, e2, not_false_eq_true]
    exact endK_same ⟨by simp [lookV, h], rfl, rfl⟩
  · simp only [c70, go_sem, reduceCtorEq, reduceIte, Nat.reduceEqDiff, Nat.reduceAdd, Nat.reduceLeDiff, Nat.reduceMul, Int.reduceLT, Int.reduceLE, Int.reduceAdd, Int.reduceSub, Int.reduceMul, Int.reduceNeg, Int.reduceToNat, Int.reduceEq, w1, s0, s1, e1, shl1 lw.1 lw.2, h, not_false_eq_true]
    exact endK_same ⟨by simp [lookV, h], rfl, rfl⟩
theorem wK_of {k : Int} (h : isK k = true) : wK k = ofW k := by simp [wK, h]
theorem sgn_isK {k : Int} (h : sgn k = true) : isK k = true := by
  simp [sgn] at h; simp [isK]; omega
theorem k82 (k n : Int) (h0 : 0 ≤ n) (h1 : n ≤ mostV (ofW k)) : CallsA Tryz.prog 82 [.int .i64 k, .int .i64 n] F M (Same F M (.int .i64 (seenV k n))) := by
  refine callsA_of hm Tryz.func82 e82 (Nat.le_of_ble_eq_true rfl) ?_
  simp only [c82, go_sem, reduceCtorEq, reduceIte, Nat.reduceEqDiff, Nat.reduceAdd, Nat.reduceLeDiff, Nat.reduceMul, Int.reduceLT, Int.reduceLE, Int.reduceAdd, Int.reduceSub, Int.reduceMul, Int.reduceNeg, Int.reduceToNat, Int.reduceEq]
  refine callK_same (k83 F _ k) ?_
  cases hs : sgn k
  · simp only [go_sem, reduceCtorEq, reduceIte, Nat.reduceEqDiff, Nat.reduceAdd, Nat.reduceLeDiff, Nat.reduceMul, Int.reduceLT, Int.reduceLE, Int.reduceAdd, Int.reduceSub, Int.reduceMul, Int.reduceNeg, Int.reduceToNat, Int.reduceEq]
    exact endK_same ⟨by simp [seenV, hs], rfl, rfl⟩
  · simp only [go_sem, reduceCtorEq, reduceIte, Nat.reduceEqDiff, Nat.reduceAdd, Nat.reduceLeDiff, Nat.reduceMul, Int.reduceLT, Int.reduceLE, Int.reduceAdd, Int.reduceSub, Int.reduceMul, Int.reduceNeg, Int.reduceToNat, Int.reduceEq]
    refine callK_same (k59 F _ k (sgn_isK hs)) ?_
    simp only [go_sem, reduceCtorEq, reduceIte, Nat.reduceEqDiff, Nat.reduceAdd, Nat.reduceLeDiff, Nat.reduceMul, Int.reduceLT, Int.reduceLE, Int.reduceAdd, Int.reduceSub, Int.reduceMul, Int.reduceNeg, Int.reduceToNat, Int.reduceEq]
    refine callK_same (k85 F _ n _ (ofW_isW k) h0 h1) ?_
    simp only [go_sem, reduceCtorEq, reduceIte, Nat.reduceEqDiff, Nat.reduceAdd, Nat.reduceLeDiff, Nat.reduceMul, Int.reduceLT, Int.reduceLE, Int.reduceAdd, Int.reduceSub, Int.reduceMul, Int.reduceNeg, Int.reduceToNat, Int.reduceEq]
    exact endK_same ⟨by simp [seenV, hs], rfl, rfl⟩
theorem k44 (k n : Int) (h0 : 0 ≤ n) (h1 : n ≤ mostV (ofW k)) : CallsA Tryz.prog 44 [.int .i64 k, .int .i64 n] F M (Same F M (.int .i64 (seenV k n))) := by
  refine callsA_of hm Tryz.func44 e44 (Nat.le_of_ble_eq_true rfl) ?_
  simp only [c44, go_sem, reduceCtorEq, reduceIte, Nat.reduceEqDiff, Nat.reduceAdd, Nat.reduceLeDiff, Nat.reduceMul, Int.reduceLT, Int.reduceLE, Int.reduceAdd, Int.reduceSub, Int.reduceMul, Int.reduceNeg, Int.reduceToNat, Int.reduceEq]
  refine callK_same (k52 F _ k) ?_
  cases hs : sgn k
  · simp only [go_sem, reduceCtorEq, reduceIte, Nat.reduceEqDiff, Nat.reduceAdd, Nat.reduceLeDiff, Nat.reduceMul, Int.reduceLT, Int.reduceLE, Int.reduceAdd, Int.reduceSub, Int.reduceMul, Int.reduceNeg, Int.reduceToNat, Int.reduceEq]
    exact endK_same ⟨by simp [seenV, hs], rfl, rfl⟩
  · simp only [go_sem, reduceCtorEq, reduceIte, Nat.reduceEqDiff, Nat.reduceAdd, Nat.reduceLeDiff, Nat.reduceMul, Int.reduceLT, Int.reduceLE, Int.reduceAdd, Int.reduceSub, Int.reduceMul, Int.reduceNeg, Int.reduceToNat, Int.reduceEq]
    refine callK_same (k13 F _ k) ?_
    simp only [go_sem, reduceCtorEq, reduceIte, Nat.reduceEqDiff, Nat.reduceAdd, Nat.reduceLeDiff, Nat.reduceMul, Int.reduceLT, Int.reduceLE, Int.reduceAdd, Int.reduceSub, Int.reduceMul, Int.reduceNeg, Int.reduceToNat, Int.reduceEq, wK_of (sgn_isK hs)]
    refine callK_same (k70 F _ n _ (ofW_isW k) h0 h1) ?_
    simp only [go_sem, reduceCtorEq, reduceIte, Nat.reduceEqDiff, Nat.reduceAdd, Nat.reduceLeDiff, Nat.reduceMul, Int.reduceLT, Int.reduceLE, Int.reduceAdd, Int.reduceSub, Int.reduceMul, Int.reduceNeg, Int.reduceToNat, Int.reduceEq]
    exact endK_same ⟨by simp [seenV, hs], rfl, rfl⟩
theorem k104 (k : Int) (hk : isK k = true) : CallsA Tryz.prog 104 [.int .i64 k] F M (Same F M (.tuple #[.int .i64 (leastK k), .int .i64 (mostK k)])) := by
  refine callsA_of hm Tryz.func104 e104 (Nat.le_of_ble_eq_true rfl) ?_
  have hw := ofW_isW k
  have lw := isW_le hw
  have hp := pow_w hw
  simp only [c104, go_sem, reduceCtorEq, reduceIte, Nat.reduceEqDiff, Nat.reduceAdd, Nat.reduceLeDiff, Nat.reduceMul, Int.reduceLT, Int.reduceLE, Int.reduceAdd, Int.reduceSub, Int.reduceMul, Int.reduceNeg, Int.reduceToNat, Int.reduceEq]
  refine callK_same (k59 F _ k hk) ?_
  simp only [go_sem, reduceCtorEq, reduceIte, Nat.reduceEqDiff, Nat.reduceAdd, Nat.reduceLeDiff, Nat.reduceMul, Int.reduceLT, Int.reduceLE, Int.reduceAdd, Int.reduceSub, Int.reduceMul, Int.reduceNeg, Int.reduceToNat, Int.reduceEq]
  refine callK_same (k83 F _ k) ?_
  have w1 : IntKind.i64.wrap (ofW k - 1) = ofW k - 1 := w64 (by omega) (by omega)
  have s0 : ¬ ofW k - 1 < 0 := by omega
  have e1 : shlv .i64 1 (ofW k - 1) = halfV (ofW k) := shl1 (by omega) (by omega)
  have e3 : shlv .i64 (-1) (ofW k - 1) = -(halfV (ofW k)) := shlm (by omega) (by omega)
  have e2 : IntKind.i64.wrap (halfV (ofW k) - 1) = halfV (ofW k) - 1 := w64 (by omega) (by omega)
  cases hs : sgn k
  · simp only [go_sem, reduceCtorEq, reduceIte, Nat.reduceEqDiff, Nat.reduceAdd, Nat.reduceLeDiff, Nat.reduceMul, Int.reduceLT, Int.reduceLE, Int.reduceAdd, Int.reduceSub, Int.reduceMul, Int.reduceNeg, Int.reduceToNat, Int.reduceEq]
    refine callK_same (k65 F _ _ lw.1 lw.2) ?_
    simp only [go_sem, reduceCtorEq, reduceIte, Nat.reduceEqDiff, Nat.reduceAdd, Nat.reduceLeDiff, Nat.reduceMul, Int.reduceLT, Int.reduceLE, Int.reduceAdd, Int.reduceSub, Int.reduceMul, Int.reduceNeg, Int.reduceToNat, Int.reduceEq]
    exact endK_same ⟨by simp [leastK, mostK, hs], rfl, rfl⟩
  · simp only [go_sem, reduceCtorEq, reduceIte, Nat.reduceEqDiff, Nat.reduceAdd, Nat.reduceLeDiff, Nat.reduceMul, Int.reduceLT, Int.reduceLE, Int.reduceAdd, Int.reduceSub, Int.reduceMul, Int.reduceNeg, Int.reduceToNat, Int.reduceEq, w1, s0, e1, e2, e3, not_false_eq_true]
    exact endK_same ⟨by simp [leastK, mostK, hs], rfl, rfl⟩
theorem k54 (b : Bool) : CallsA Tryz.prog 54 [.bool b] F M (Same F M (.int .i64 (if b then 1 else 0))) := by
  refine callsA_of hm Tryz.func54 e54 (Nat.le_of_ble_eq_true rfl) ?_
  cases b
  · simp only [c54, go_sem, reduceCtorEq, reduceIte, Nat.reduceEqDiff, Nat.reduceAdd, Nat.reduceLeDiff, Nat.reduceMul, Int.reduceLT, Int.reduceLE, Int.reduceAdd, Int.reduceSub, Int.reduceMul, Int.reduceNeg, Int.reduceToNat, Int.reduceEq]
    exact endK_same ⟨rfl, rfl, rfl⟩
  · simp only [c54, go_sem, reduceCtorEq, reduceIte, Nat.reduceEqDiff, Nat.reduceAdd, Nat.reduceLeDiff, Nat.reduceMul, Int.reduceLT, Int.reduceLE, Int.reduceAdd, Int.reduceSub, Int.reduceMul, Int.reduceNeg, Int.reduceToNat, Int.reduceEq]
    exact endK_same ⟨rfl, rfl, rfl⟩
theorem k27q (op k a b : Int) (hop : op = 18 ∨ op = 19) (a0 : 0 ≤ a) (a1 : a ≤ mostV (ofW k)) (b0 : 0 ≤ b) (b1 : b ≤ mostV (ofW k)) :
    CallsA Tryz.prog 27 [.int .i64 op, .int .i64 k, .int .i64 a, .int .i64 b] F M (Same F M (.tuple #[.int .i64 (if askV op k a b then 1 else 0), .int .i64 0])) := by
  refine callsA_of hm Tryz.func27 e27 (Nat.le_of_ble_eq_true rfl) ?_
  simp only [c27, go_sem, reduceCtorEq, reduceIte, Nat.reduceEqDiff, Nat.reduceAdd, Nat.reduceLeDiff, Nat.reduceMul, Int.reduceLT, Int.reduceLE, Int.reduceAdd, Int.reduceSub, Int.reduceMul, Int.reduceNeg, Int.reduceToNat, Int.reduceEq]
  refine callK_same (k13 F _ k) ?_
  simp only [go_sem, reduceCtorEq, reduceIte, Nat.reduceEqDiff, Nat.reduceAdd, Nat.reduceLeDiff, Nat.reduceMul, Int.reduceLT, Int.reduceLE, Int.reduceAdd, Int.reduceSub, Int.reduceMul, Int.reduceNeg, Int.reduceToNat, Int.reduceEq]
  refine callK_same (k44 F _ k a a0 a1) ?_
  simp only [go_sem, reduceCtorEq, reduceIte, Nat.reduceEqDiff, Nat.reduceAdd, Nat.reduceLeDiff, Nat.reduceMul, Int.reduceLT, Int.reduceLE, Int.reduceAdd, Int.reduceSub, Int.reduceMul, Int.reduceNeg, Int.reduceToNat, Int.reduceEq]
  refine callK_same (k44 F _ k b b0 b1) ?_
  rcases hop with rfl | rfl
  · simp only [go_sem, reduceCtorEq, reduceIte, Nat.reduceEqDiff, Nat.reduceAdd, Nat.reduceLeDiff, Nat.reduceMul, Int.reduceLT, Int.reduceLE, Int.reduceAdd, Int.reduceSub, Int.reduceMul, Int.reduceNeg, Int.reduceToNat, Int.reduceEq]
    refine callK_same (k54 F _ _) ?_
    simp only [go_sem, reduceCtorEq, reduceIte, Nat.reduceEqDiff, Nat.reduceAdd, Nat.reduceLeDiff, Nat.reduceMul, Int.reduceLT, Int.reduceLE, Int.reduceAdd, Int.reduceSub, Int.reduceMul, Int.reduceNeg, Int.reduceToNat, Int.reduceEq]
    exact endK_same ⟨by simp [askV], rfl, rfl⟩
  · simp only [go_sem, reduceCtorEq, reduceIte, Nat.reduceEqDiff, Nat.reduceAdd, Nat.reduceLeDiff, Nat.reduceMul, Int.reduceLT, Int.reduceLE, Int.reduceAdd, Int.reduceSub, Int.reduceMul, Int.reduceNeg, Int.reduceToNat, Int.reduceEq]
    refine callK_same (k54 F _ _) ?_
    simp only [go_sem, reduceCtorEq, reduceIte, Nat.reduceEqDiff, Nat.reduceAdd, Nat.reduceLeDiff, Nat.reduceMul, Int.reduceLT, Int.reduceLE, Int.reduceAdd, Int.reduceSub, Int.reduceMul, Int.reduceNeg, Int.reduceToNat, Int.reduceEq]
    exact endK_same ⟨by simp [askV], rfl, rfl⟩
theorem k63 (k t a : Int) (ht : isK t = true) (a0 : 0 ≤ a) (a1 : a ≤ mostV (ofW k)) : CallsA Tryz.prog 63 [.int .i64 k, .int .i64 t, .int .i64 a] F M (Same F M (.int .i64 (seenV k a % 2 ^ (ofW t).toNat))) := by
  refine callsA_of hm Tryz.func63 e63 (Nat.le_of_ble_eq_true rfl) ?_
  have lw := isW_le (ofW_isW t)
  simp only [c63, go_sem, reduceCtorEq, reduceIte, Nat.reduceEqDiff, Nat.reduceAdd, Nat.reduceLeDiff, Nat.reduceMul, Int.reduceLT, Int.reduceLE, Int.reduceAdd, Int.reduceSub, Int.reduceMul, Int.reduceNeg, Int.reduceToNat, Int.reduceEq]
  refine callK_same (k82 F _ k a a0 a1) ?_
  simp only [go_sem, reduceCtorEq, reduceIte, Nat.reduceEqDiff, Nat.reduceAdd, Nat.reduceLeDiff, Nat.reduceMul, Int.reduceLT, Int.reduceLE, Int.reduceAdd, Int.reduceSub, Int.reduceMul, Int.reduceNeg, Int.reduceToNat, Int.reduceEq]
  refine callK_same (k59 F _ t ht) ?_
  simp only [go_sem, reduceCtorEq, reduceIte, Nat.reduceEqDiff, Nat.reduceAdd, Nat.reduceLeDiff, Nat.reduceMul, Int.reduceLT, Int.reduceLE, Int.reduceAdd, Int.reduceSub, Int.reduceMul, Int.reduceNeg, Int.reduceToNat, Int.reduceEq]
  refine callK_same (k68 F _ _ _ lw.1 lw.2) ?_
  simp only [go_sem, reduceCtorEq, reduceIte, Nat.reduceEqDiff, Nat.reduceAdd, Nat.reduceLeDiff, Nat.reduceMul, Int.reduceLT, Int.reduceLE, Int.reduceAdd, Int.reduceSub, Int.reduceMul, Int.reduceNeg, Int.reduceToNat, Int.reduceEq]
  exact endK_same ⟨rfl, rfl, rfl⟩
theorem k18 (k t a : Int) (ht : isK t = true) (a0 : 0 ≤ a) (a1 : a ≤ mostV (ofW k)) : CallsA Tryz.prog 18 [.int .i64 k, .int .i64 t, .int .i64 a] F M (Same F M (.int .i64 (seenV k a % 2 ^ (ofW t).toNat))) := by
  refine callsA_of hm Tryz.func18 e18 (Nat.le_of_ble_eq_true rfl) ?_
  have lw := isW_le (ofW_isW t)
  simp only [c18, go_sem, reduceCtorEq, reduceIte, Nat.reduceEqDiff, Nat.reduceAdd, Nat.reduceLeDiff, Nat.reduceMul, Int.reduceLT, Int.reduceLE, Int.reduceAdd, Int.reduceSub, Int.reduceMul, Int.reduceNeg, Int.reduceToNat, Int.reduceEq]
  refine callK_same (k44 F _ k a a0 a1) ?_
  simp only [go_sem, reduceCtorEq, reduceIte, Nat.reduceEqDiff, Nat.reduceAdd, Nat.reduceLeDiff, Nat.reduceMul, Int.reduceLT, Int.reduceLE, Int.reduceAdd, Int.reduceSub, Int.reduceMul, Int.reduceNeg, Int.reduceToNat, Int.reduceEq]
  refine callK_same (k13 F _ t) ?_
  simp only [go_sem, reduceCtorEq, reduceIte, Nat.reduceEqDiff, Nat.reduceAdd, Nat.reduceLeDiff, Nat.reduceMul, Int.reduceLT, Int.reduceLE, Int.reduceAdd, Int.reduceSub, Int.reduceMul, Int.reduceNeg, Int.reduceToNat, Int.reduceEq, wK_of ht]
  refine callK_same (k35 F _ _ _ lw.1 lw.2) ?_
  simp only [go_sem, reduceCtorEq, reduceIte, Nat.reduceEqDiff, Nat.reduceAdd, Nat.reduceLeDiff, Nat.reduceMul, Int.reduceLT, Int.reduceLE, Int.reduceAdd, Int.reduceSub, Int.reduceMul, Int.reduceNeg, Int.reduceToNat, Int.reduceEq]
  exact endK_same ⟨rfl, rfl, rfl⟩
end Go.Proofs.Tryz.K

/- Contracts: the least and the greatest that a kind sees in a set. -/
namespace Go.Proofs.Tryz.K
open Go Go.Ax Go.Proofs.Tryz.S
set_option maxRecDepth 100000
set_option linter.unusedSimpArgs false
set_option linter.unusedVariables false
variable (F : Fz) (M : Hp)

def laI (v : V) (n : Int) (F0 : Fz) (M0 : Hp) (r2 : Nat) (m : Nat) (σ : Env) (F : Fz) (M : Hp) : Prop :=
  F = F0 ∧ M = M0 ∧ Ax.look σ 1 = some (.int .i64 n) ∧ Ax.look σ 2 = some (.pointer (some ⟨r2, 0, none⟩)) ∧ ∃ lo hi : Int, Ax.look σ 5 = some (.int .i64 lo) ∧ Ax.look σ 6 = some (.int .i64 hi) ∧
  0 ≤ lo ∧ lo ≤ n ∧ v.has lo = true ∧ lo < hi ∧ hi ≤ n + 1 ∧ (∀ y, hi ≤ y → y ≤ n → v.has y = false) ∧ m = (hi - lo).toNat
theorem k84 (v : V) (n : Int) (hv : v.ok = true) (h0 : 0 ≤ n) (h1 : n ≤ mostV v.w) : CallsA Tryz.prog 84 [v.val, .int .i64 n] F M fun u F' M' => F' = F ∧ M' = M ∧ ∃ z : Int, u = .int .i64 z ∧ LastR v n z := by
  refine callsA_of hm Tryz.func84 e84 (Nat.le_of_ble_eq_true rfl) ?_
  have hw := (ok_in hv).w
  have hp := pow_w hw
  have e1 : IntKind.i64.wrap (n + 1) = n + 1 := w64 (by omega) (by omega)
  simp only [c84, go_sem, reduceCtorEq, reduceIte, Nat.reduceEqDiff, Nat.reduceAdd, Nat.reduceLeDiff, Nat.reduceMul, Int.reduceLT, Int.reduceLE, Int.reduceAdd, Int.reduceSub, Int.reduceMul, Int.reduceNeg, Int.reduceToNat, Int.reduceEq]
  intro r2 hF2 hM2
  simp only [go_sem, reduceCtorEq, reduceIte, Nat.reduceEqDiff, Nat.reduceAdd, Nat.reduceLeDiff, Nat.reduceMul, Int.reduceLT, Int.reduceLE, Int.reduceAdd, Int.reduceSub, Int.reduceMul, Int.reduceNeg, Int.reduceToNat, Int.reduceEq]
  refine callK_same (k79 F _ v 0 hv) ?_
  have sp := nextR_spec hv (n := 0) (by omega)
  generalize v.nextR 0 = x at *
  by_cases hx : x < 0
  · simp only [go_sem, reduceCtorEq, reduceIte, Nat.reduceEqDiff, Nat.reduceAdd, Nat.reduceLeDiff, Nat.reduceMul, Int.reduceLT, Int.reduceLE, Int.reduceAdd, Int.reduceSub, Int.reduceMul, Int.reduceNeg, Int.reduceToNat, Int.reduceEq, e1, hx]
    refine endK_drop hM2 (endK_same ⟨rfl, rfl, -1, rfl, .inl ⟨rfl, fun y y0 y1 => ?_⟩⟩)
    rcases sp with ⟨k1, _⟩ | ⟨_, k⟩
    · omega
    · exact k y y0 (by omega)
  by_cases hxn : n < x
  · simp only [go_sem, reduceCtorEq, reduceIte, Nat.reduceEqDiff, Nat.reduceAdd, Nat.reduceLeDiff, Nat.reduceMul, Int.reduceLT, Int.reduceLE, Int.reduceAdd, Int.reduceSub, Int.reduceMul, Int.reduceNeg, Int.reduceToNat, Int.reduceEq, e1, hx, hxn]
    refine endK_drop hM2 (endK_same ⟨rfl, rfl, -1, rfl, .inl ⟨rfl, fun y y0 y1 => ?_⟩⟩)
    rcases sp with ⟨k1, k2, k3, k4, k5⟩ | ⟨k, _⟩
    · exact k5 y y0 (by omega)
    · omega
  have hxh : v.has x = true ∧ 0 ≤ x := by
    rcases sp with ⟨k1, k2, k3, k4, k5⟩ | ⟨k, _⟩
    · exact ⟨k4, by omega⟩
    · omega
  simp only [go_sem, reduceCtorEq, reduceIte, Nat.reduceEqDiff, Nat.reduceAdd, Nat.reduceLeDiff, Nat.reduceMul, Int.reduceLT, Int.reduceLE, Int.reduceAdd, Int.reduceSub, Int.reduceMul, Int.reduceNeg, Int.reduceToNat, Int.reduceEq, e1, hx, hxn]
  refine loop_of (laI v n F (M.upd r2 ⟨v.cs, 30, 6⟩) r2) (n + 1 - x).toNat ?_ ?_
  · exact ⟨rfl, rfl, by simp only [go_sem, reduceCtorEq, reduceIte, Nat.reduceEqDiff], by simp only [go_sem, reduceCtorEq, reduceIte, Nat.reduceEqDiff], x, n + 1, by simp only [go_sem, reduceCtorEq, reduceIte, Nat.reduceEqDiff], by simp only [go_sem, reduceCtorEq, reduceIte, Nat.reduceEqDiff], by omega, by omega, hxh.1, by omega, by omega, fun y y0 y1 => by omega, rfl⟩
  clear hx hxn hxh sp x
  rintro m σ F' M' ⟨rfl, rfl, q1, q2, lo, hi, q5, q6, l0, l1, hl, lh, hn, hnone, rfl⟩
  have e2 : IntKind.i64.wrap (lo + 1) = lo + 1 := w64 (by omega) (by omega)
  by_cases hlh : lo + 1 < hi
  · have e3 : IntKind.i64.wrap (hi - lo) = hi - lo := w64 (by omega) (by omega)
    have e4 : (hi - lo).tdiv 2 = (hi - lo) / 2 := Int.tdiv_eq_ediv_of_nonneg (by omega)
    have e5 : IntKind.i64.wrap ((hi - lo) / 2) = (hi - lo) / 2 := w64 (by omega) (by omega)
    have e6 : IntKind.i64.wrap (lo + (hi - lo) / 2) = lo + (hi - lo) / 2 := w64 (by omega) (by omega)
    have n2 : ¬ (2 : Int) = 0 := by decide
    simp only [go_sem, reduceCtorEq, reduceIte, Nat.reduceEqDiff, Nat.reduceAdd, Nat.reduceLeDiff, Nat.reduceMul, Int.reduceLT, Int.reduceLE, Int.reduceAdd, Int.reduceSub, Int.reduceMul, Int.reduceNeg, Int.reduceToNat, Int.reduceEq, q1, q2, q5, q6, e2, hlh, e3, e4, e5, e6, n2, not_false_eq_true]
    have hm : lo < lo + (hi - lo) / 2 ∧ lo + (hi - lo) / 2 < hi := by omega
    generalize lo + (hi - lo) / 2 = mid at *
    refine callK_same (k79 F' _ v mid hv) ?_
    have sp := nextR_spec hv (n := mid) (by omega)
    generalize v.nextR mid = x at *
    have up : x < 0 ∨ n < x → ∀ y, mid ≤ y → y ≤ n → v.has y = false := by
      intro hx y y0 y1
      rcases sp with ⟨k1, k2, k3, k4, k5⟩ | ⟨k, kk⟩
      · exact k5 y y0 (by omega)
      · exact kk y y0 (by omega)
    by_cases hx0 : 0 ≤ x
    · by_cases hxn : x ≤ n
      · have hxh : v.has x = true ∧ mid ≤ x := by
          rcases sp with ⟨k1, k2, k3, k4, k5⟩ | ⟨k, _⟩
          · exact ⟨k4, k2⟩
          · omega
        have hxhi : x < hi := by
          by_cases h : hi ≤ x
          · have := hnone x h hxn
            rw [hxh.1] at this; cases this
          · omega
        simp only [go_sem, reduceCtorEq, reduceIte, Nat.reduceEqDiff, Nat.reduceAdd, Nat.reduceLeDiff, Nat.reduceMul, Int.reduceLT, Int.reduceLE, Int.reduceAdd, Int.reduceSub, Int.reduceMul, Int.reduceNeg, Int.reduceToNat, Int.reduceEq, q1, q2, q5, q6, hx0, hxn]
        exact ⟨(hi - x).toNat, by omega, rfl, rfl, by simp only [go_sem, reduceCtorEq, reduceIte, Nat.reduceEqDiff, q1], by simp only [go_sem, reduceCtorEq, reduceIte, Nat.reduceEqDiff, q2], x, hi, by simp only [go_sem, reduceCtorEq, reduceIte, Nat.reduceEqDiff], by simp only [go_sem, reduceCtorEq, reduceIte, Nat.reduceEqDiff, q6], hx0, hxn, hxh.1, hxhi, hn, hnone, rfl⟩
      · simp only [go_sem, reduceCtorEq, reduceIte, Nat.reduceEqDiff, Nat.reduceAdd, Nat.reduceLeDiff, Nat.reduceMul, Int.reduceLT, Int.reduceLE, Int.reduceAdd, Int.reduceSub, Int.reduceMul, Int.reduceNeg, Int.reduceToNat, Int.reduceEq, q1, q2, q5, q6, hx0, hxn]
        exact ⟨(mid - lo).toNat, by omega, rfl, rfl, by simp only [go_sem, reduceCtorEq, reduceIte, Nat.reduceEqDiff, q1], by simp only [go_sem, reduceCtorEq, reduceIte, Nat.reduceEqDiff, q2], lo, mid, by simp only [go_sem, reduceCtorEq, reduceIte, Nat.reduceEqDiff, q5], by simp only [go_sem, reduceCtorEq, reduceIte, Nat.reduceEqDiff], l0, l1, hl, hm.1, by omega, up (.inr (by omega)), rfl⟩
    · simp only [go_sem, reduceCtorEq, reduceIte, Nat.reduceEqDiff, Nat.reduceAdd, Nat.reduceLeDiff, Nat.reduceMul, Int.reduceLT, Int.reduceLE, Int.reduceAdd, Int.reduceSub, Int.reduceMul, Int.reduceNeg, Int.reduceToNat, Int.reduceEq, q1, q2, q5, q6, hx0]
      exact ⟨(mid - lo).toNat, by omega, rfl, rfl, by simp only [go_sem, reduceCtorEq, reduceIte, Nat.reduceEqDiff, q1], by simp only [go_sem, reduceCtorEq, reduceIte, Nat.reduceEqDiff, q2], lo, mid, by simp only [go_sem, reduceCtorEq, reduceIte, Nat.reduceEqDiff, q5], by simp only [go_sem, reduceCtorEq, reduceIte, Nat.reduceEqDiff], l0, l1, hl, hm.1, by omega, up (.inl (by omega)), rfl⟩
  · simp only [go_sem, reduceCtorEq, reduceIte, Nat.reduceEqDiff, Nat.reduceAdd, Nat.reduceLeDiff, Nat.reduceMul, Int.reduceLT, Int.reduceLE, Int.reduceAdd, Int.reduceSub, Int.reduceMul, Int.reduceNeg, Int.reduceToNat, Int.reduceEq, q1, q2, q5, q6, e2, hlh]
    exact endK_drop hM2 (endK_same ⟨rfl, rfl, lo, rfl, .inr ⟨l0, l1, hl, fun y y0 y1 => hnone y (by omega) y1⟩⟩)

theorem last_some {v : V} {n z : Int} (h : LastR v n z) {y : Int} (y0 : 0 ≤ y) (y1 : y ≤ n) (hy : v.has y = true) : 0 ≤ z ∧ z ≤ n ∧ v.has z = true ∧ ∀ y, z < y → y ≤ n → v.has y = false := by
  rcases h with ⟨_, h⟩ | h
  · rw [h y y0 y1] at hy; cases hy
  · exact h
theorem k64 (k : Int) (v : V) (hk : isK k = true) (hv : v.ok = true) (hvw : v.w = ofW k) (hne : ¬ v.nextR 0 < 0) :
    CallsA Tryz.prog 64 [.int .i64 k, v.val] F M fun u F' M' => F' = F ∧ M' = M ∧ ∃ lo hi : Int, u = .tuple #[.int .i64 lo, .int .i64 hi] ∧ SeenR k v lo hi := by
  refine callsA_of hm Tryz.func64 e64 (Nat.le_of_ble_eq_true rfl) ?_
  have hw := (ok_in hv).w
  have lw := isW_le hw
  have hp := pow_w hw
  obtain ⟨s1, s2, s3⟩ := some_has hv hne
  have sp0 := nextR_spec hv (n := 0) (by omega)
  simp only [c64, go_sem, reduceCtorEq, reduceIte, Nat.reduceEqDiff, Nat.reduceAdd, Nat.reduceLeDiff, Nat.reduceMul, Int.reduceLT, Int.reduceLE, Int.reduceAdd, Int.reduceSub, Int.reduceMul, Int.reduceNeg, Int.reduceToNat, Int.reduceEq]
  intro r3 hF3 hM3
  simp only [go_sem, reduceCtorEq, reduceIte, Nat.reduceEqDiff, Nat.reduceAdd, Nat.reduceLeDiff, Nat.reduceMul, Int.reduceLT, Int.reduceLE, Int.reduceAdd, Int.reduceSub, Int.reduceMul, Int.reduceNeg, Int.reduceToNat, Int.reduceEq]
  refine callK_same (k83 F _ k) ?_
  cases hs : sgn k
  · have es : ∀ n, seenV k n = n := fun n => by simp [seenV, hs]
    simp only [go_sem, reduceCtorEq, reduceIte, Nat.reduceEqDiff, Nat.reduceAdd, Nat.reduceLeDiff, Nat.reduceMul, Int.reduceLT, Int.reduceLE, Int.reduceAdd, Int.reduceSub, Int.reduceMul, Int.reduceNeg, Int.reduceToNat, Int.reduceEq]
    refine callK_same (k79 F _ v 0 hv) ?_
    simp only [go_sem, reduceCtorEq, reduceIte, Nat.reduceEqDiff, Nat.reduceAdd, Nat.reduceLeDiff, Nat.reduceMul, Int.reduceLT, Int.reduceLE, Int.reduceAdd, Int.reduceSub, Int.reduceMul, Int.reduceNeg, Int.reduceToNat, Int.reduceEq]
    refine callK_same (k65 F _ v.w lw.1 lw.2) ?_
    simp only [go_sem, reduceCtorEq, reduceIte, Nat.reduceEqDiff, Nat.reduceAdd, Nat.reduceLeDiff, Nat.reduceMul, Int.reduceLT, Int.reduceLE, Int.reduceAdd, Int.reduceSub, Int.reduceMul, Int.reduceNeg, Int.reduceToNat, Int.reduceEq]
    refine callK_of (k84 F _ v _ hv (by omega) (by omega)) ?_
    rintro u G M' ⟨rfl, rfl, z, rfl, hz⟩
    refine ⟨fun _ => Le.refl _ _, ?_⟩
    simp only [go_sem, reduceCtorEq, reduceIte, Nat.reduceEqDiff, Nat.reduceAdd, Nat.reduceLeDiff, Nat.reduceMul, Int.reduceLT, Int.reduceLE, Int.reduceAdd, Int.reduceSub, Int.reduceMul, Int.reduceNeg, Int.reduceToNat, Int.reduceEq]
    obtain ⟨z1, z2, z3, z4⟩ := last_some hz s1 s2 s3
    refine endK_drop hM3 (endK_same ⟨rfl, rfl, _, _, rfl, ?_, ⟨_, s1, s2, s3, es _⟩, ⟨z, z1, z2, z3, es _⟩⟩)
    intro n n0 n1 hn
    rw [es]
    constructor
    · rcases sp0 with ⟨_, _, _, _, k5⟩ | ⟨k, _⟩
      · by_cases h : v.nextR 0 ≤ n
        · exact h
        · rw [k5 n n0 (by omega)] at hn; cases hn
      · omega
    · by_cases h : n ≤ z
      · exact h
      · rw [z4 n (by omega) n1] at hn; cases hn
  · have es : ∀ n, seenV k n = lookV n v.w := fun n => by simp [seenV, hs, hvw]
    have w1 : IntKind.i64.wrap (v.w - 1) = v.w - 1 := w64 (by omega) (by omega)
    have c0 : ¬ v.w - 1 < 0 := by omega
    have e1 : shlv .i64 1 (v.w - 1) = halfV v.w := shl1 (by omega) (by omega)
    have e2 : IntKind.i64.wrap (halfV v.w - 1) = halfV v.w - 1 := w64 (by omega) (by omega)
    simp only [go_sem, reduceCtorEq, reduceIte, Nat.reduceEqDiff, Nat.reduceAdd, Nat.reduceLeDiff, Nat.reduceMul, Int.reduceLT, Int.reduceLE, Int.reduceAdd, Int.reduceSub, Int.reduceMul, Int.reduceNeg, Int.reduceToNat, Int.reduceEq, w1, c0, e1, e2, not_false_eq_true]
    refine callK_same (k79 F _ v _ hv) ?_
    have sph := nextR_spec hv (n := halfV v.w) (by omega)
    simp only [go_sem, reduceCtorEq, reduceIte, Nat.reduceEqDiff, Nat.reduceAdd, Nat.reduceLeDiff, Nat.reduceMul, Int.reduceLT, Int.reduceLE, Int.reduceAdd, Int.reduceSub, Int.reduceMul, Int.reduceNeg, Int.reduceToNat, Int.reduceEq, w1, c0, e1, e2]
    refine callK_of (k84 F _ v _ hv (by omega) (by omega)) ?_
    rintro u G M' ⟨rfl, rfl, z, rfl, hz⟩
    refine ⟨fun _ => Le.refl _ _, ?_⟩
    -- the least that is seen, and the greatest
    have lowD : ∀ l, (v.nextR (halfV v.w) < 0 ∧ l = v.nextR 0 ∨ ¬ v.nextR (halfV v.w) < 0 ∧ l = v.nextR (halfV v.w)) → 0 ≤ l ∧ l ≤ mostV v.w ∧ v.has l = true ∧ ∀ n, 0 ≤ n → n ≤ mostV v.w → v.has n = true → lookV l v.w ≤ lookV n v.w := by
      intro l hl
      rcases hl with ⟨h1, rfl⟩ | ⟨h1, rfl⟩
      · refine ⟨s1, s2, s3, fun n n0 n1 hn => ?_⟩
        have g1 : n < halfV v.w := by
          by_cases h : n < halfV v.w
          · exact h
          · rcases sph with ⟨k1, _⟩ | ⟨_, kk⟩
            · omega
            · rw [kk n (by omega) n1] at hn; cases hn
        have g2 : v.nextR 0 ≤ n := by
          rcases sp0 with ⟨_, _, _, _, k5⟩ | ⟨k, _⟩
          · by_cases h : v.nextR 0 ≤ n
            · exact h
            · rw [k5 n n0 (by omega)] at hn; cases hn
          · omega
        unfold lookV
        rw [if_neg (by omega), if_neg (by omega)]; exact g2
      · rcases sph with ⟨k1, k2, k3, k4, k5⟩ | ⟨kk, _⟩
        · refine ⟨k1, k3, k4, fun n n0 n1 hn => ?_⟩
          unfold lookV
          rw [if_pos k2]
          split
          · rename_i g
            by_cases h : v.nextR (halfV v.w) ≤ n
            · omega
            · rw [k5 n g (by omega)] at hn; cases hn
          · omega
        · omega
    have highD : ∀ h, (z < 0 ∧ LastR v (mostV v.w) h ∨ ¬ z < 0 ∧ h = z) → 0 ≤ h ∧ h ≤ mostV v.w ∧ v.has h = true ∧ ∀ n, 0 ≤ n → n ≤ mostV v.w → v.has n = true → lookV n v.w ≤ lookV h v.w := by
      intro h hh
      rcases hh with ⟨h1, hz2⟩ | ⟨h1, rfl⟩
      · obtain ⟨a1, a2, a3, a4⟩ := last_some hz2 s1 s2 s3
        have none : ∀ y, 0 ≤ y → y ≤ halfV v.w - 1 → v.has y = false := by
          rcases hz with ⟨_, g⟩ | ⟨g, _⟩
          · exact g
          · omega
        have big : ∀ n, 0 ≤ n → v.has n = true → halfV v.w ≤ n := by
          intro n n0 hn
          by_cases g : halfV v.w ≤ n
          · exact g
          · rw [none n n0 (by omega)] at hn; cases hn
        refine ⟨a1, a2, a3, fun n n0 n1 hn => ?_⟩
        have g1 := big n n0 hn
        have g2 := big h a1 a3
        unfold lookV
        rw [if_pos g1, if_pos g2]
        by_cases g : n ≤ h
        · omega
        · rw [a4 n (by omega) n1] at hn; cases hn
      · rcases hz with ⟨g, _⟩ | ⟨g1, g2, g3, g4⟩
        · omega
        · refine ⟨g1, by omega, g3, fun n n0 n1 hn => ?_⟩
          unfold lookV
          rw [if_neg (by omega : ¬ halfV v.w ≤ h)]
          split
          · omega
          · by_cases g : n ≤ h
            · exact g
            · rw [g4 n (by omega) (by omega)] at hn; cases hn
    have fin : ∀ l h, (v.nextR (halfV v.w) < 0 ∧ l = v.nextR 0 ∨ ¬ v.nextR (halfV v.w) < 0 ∧ l = v.nextR (halfV v.w)) → (z < 0 ∧ LastR v (mostV v.w) h ∨ ¬ z < 0 ∧ h = z) → (0 ≤ l ∧ l ≤ mostV v.w) ∧ (0 ≤ h ∧ h ≤ mostV v.w) ∧ SeenR k v (lookV l v.w) (lookV h v.w) := by
      intro l h hl hh
      obtain ⟨l1, l2, l3, l4⟩ := lowD l hl
      obtain ⟨h1, h2, h3, h4⟩ := highD h hh
      exact ⟨⟨l1, l2⟩, ⟨h1, h2⟩, fun n n0 n1 hn => by rw [es]; exact ⟨l4 n n0 n1 hn, h4 n n0 n1 hn⟩, ⟨l, l1, l2, l3, es l⟩, ⟨h, h1, h2, h3, es h⟩⟩
    by_cases hl : v.nextR (halfV v.w) < 0
    · simp only [go_sem, reduceCtorEq, reduceIte, Nat.reduceEqDiff, Nat.reduceAdd, Nat.reduceLeDiff, Nat.reduceMul, Int.reduceLT, Int.reduceLE, Int.reduceAdd, Int.reduceSub, Int.reduceMul, Int.reduceNeg, Int.reduceToNat, Int.reduceEq, w1, c0, e1, e2, hl]
      refine callK_same (k79 _ _ v 0 hv) ?_
      by_cases hzz : z < 0
      · skip
        simp only [go_sem, reduceCtorEq, reduceIte, Nat.reduceEqDiff, Nat.reduceAdd, Nat.reduceLeDiff, Nat.reduceMul, Int.reduceLT, Int.reduceLE, Int.reduceAdd, Int.reduceSub, Int.reduceMul, Int.reduceNeg, Int.reduceToNat, Int.reduceEq, hzz]
        refine callK_same (k65 _ _ v.w lw.1 lw.2) ?_
        simp only [go_sem, reduceCtorEq, reduceIte, Nat.reduceEqDiff, Nat.reduceAdd, Nat.reduceLeDiff, Nat.reduceMul, Int.reduceLT, Int.reduceLE, Int.reduceAdd, Int.reduceSub, Int.reduceMul, Int.reduceNeg, Int.reduceToNat, Int.reduceEq]
        refine callK_of (k84 _ _ v _ hv (by omega) (by omega)) ?_
        rintro u G M' ⟨rfl, rfl, z2, rfl, hz2⟩
        refine ⟨fun _ => Le.refl _ _, ?_⟩
        obtain ⟨b1, b2, b3⟩ := fin _ z2 (.inl ⟨hl, rfl⟩) (.inl ⟨hzz, hz2⟩)
        simp only [go_sem, reduceCtorEq, reduceIte, Nat.reduceEqDiff, Nat.reduceAdd, Nat.reduceLeDiff, Nat.reduceMul, Int.reduceLT, Int.reduceLE, Int.reduceAdd, Int.reduceSub, Int.reduceMul, Int.reduceNeg, Int.reduceToNat, Int.reduceEq]
        refine callK_same (k85 _ _ _ v.w hw b1.1 b1.2) ?_
        simp only [go_sem, reduceCtorEq, reduceIte, Nat.reduceEqDiff, Nat.reduceAdd, Nat.reduceLeDiff, Nat.reduceMul, Int.reduceLT, Int.reduceLE, Int.reduceAdd, Int.reduceSub, Int.reduceMul, Int.reduceNeg, Int.reduceToNat, Int.reduceEq]
        refine callK_same (k85 _ _ _ v.w hw b2.1 b2.2) ?_
        simp only [go_sem, reduceCtorEq, reduceIte, Nat.reduceEqDiff, Nat.reduceAdd, Nat.reduceLeDiff, Nat.reduceMul, Int.reduceLT, Int.reduceLE, Int.reduceAdd, Int.reduceSub, Int.reduceMul, Int.reduceNeg, Int.reduceToNat, Int.reduceEq]
        exact endK_drop hM3 (endK_same ⟨rfl, rfl, _, _, rfl, b3⟩)
      · obtain ⟨b1, b2, b3⟩ := fin _ z (.inl ⟨hl, rfl⟩) (.inr ⟨hzz, rfl⟩)
        simp only [go_sem, reduceCtorEq, reduceIte, Nat.reduceEqDiff, Nat.reduceAdd, Nat.reduceLeDiff, Nat.reduceMul, Int.reduceLT, Int.reduceLE, Int.reduceAdd, Int.reduceSub, Int.reduceMul, Int.reduceNeg, Int.reduceToNat, Int.reduceEq, hzz]
        refine callK_same (k85 _ _ _ v.w hw b1.1 b1.2) ?_
        simp only [go_sem, reduceCtorEq, reduceIte, Nat.reduceEqDiff, Nat.reduceAdd, Nat.reduceLeDiff, Nat.reduceMul, Int.reduceLT, Int.reduceLE, Int.reduceAdd, Int.reduceSub, Int.reduceMul, Int.reduceNeg, Int.reduceToNat, Int.reduceEq]
        refine callK_same (k85 _ _ _ v.w hw b2.1 b2.2) ?_
        simp only [go_sem, reduceCtorEq, reduceIte, Nat.reduceEqDiff, Nat.reduceAdd, Nat.reduceLeDiff, Nat.reduceMul, Int.reduceLT, Int.reduceLE, Int.reduceAdd, Int.reduceSub, Int.reduceMul, Int.reduceNeg, Int.reduceToNat, Int.reduceEq]
        exact endK_drop hM3 (endK_same ⟨rfl, rfl, _, _, rfl, b3⟩)
    · simp only [go_sem, reduceCtorEq, reduceIte, Nat.reduceEqDiff, Nat.reduceAdd, Nat.reduceLeDiff, Nat.reduceMul, Int.reduceLT, Int.reduceLE, Int.reduceAdd, Int.reduceSub, Int.reduceMul, Int.reduceNeg, Int.reduceToNat, Int.reduceEq, w1, c0, e1, e2, hl]
      by_cases hzz : z < 0
      · skip
        simp only [go_sem, reduceCtorEq, reduceIte, Nat.reduceEqDiff, Nat.reduceAdd, Nat.reduceLeDiff, Nat.reduceMul, Int.reduceLT, Int.reduceLE, Int.reduceAdd, Int.reduceSub, Int.reduceMul, Int.reduceNeg, Int.reduceToNat, Int.reduceEq, hzz]
        refine callK_same (k65 _ _ v.w lw.1 lw.2) ?_
        simp only [go_sem, reduceCtorEq, reduceIte, Nat.reduceEqDiff, Nat.reduceAdd, Nat.reduceLeDiff, Nat.reduceMul, Int.reduceLT, Int.reduceLE, Int.reduceAdd, Int.reduceSub, Int.reduceMul, Int.reduceNeg, Int.reduceToNat, Int.reduceEq]
        refine callK_of (k84 _ _ v _ hv (by omega) (by omega)) ?_
        rintro u G M' ⟨rfl, rfl, z2, rfl, hz2⟩
        refine ⟨fun _ => Le.refl _ _, ?_⟩
        obtain ⟨b1, b2, b3⟩ := fin _ z2 (.inr ⟨hl, rfl⟩) (.inl ⟨hzz, hz2⟩)
        simp only [go_sem, reduceCtorEq, reduceIte, Nat.reduceEqDiff, Nat.reduceAdd, Nat.reduceLeDiff, Nat.reduceMul, Int.reduceLT, Int.reduceLE, Int.reduceAdd, Int.reduceSub, Int.reduceMul, Int.reduceNeg, Int.reduceToNat, Int.reduceEq]
        refine callK_same (k85 _ _ _ v.w hw b1.1 b1.2) ?_
        simp only [go_sem, reduceCtorEq, reduceIte, Nat.reduceEqDiff, Nat.reduceAdd, Nat.reduceLeDiff, Nat.reduceMul, Int.reduceLT, Int.reduceLE, Int.reduceAdd, Int.reduceSub, Int.reduceMul, Int.reduceNeg, Int.reduceToNat, Int.reduceEq]
        refine callK_same (k85 _ _ _ v.w hw b2.1 b2.2) ?_
        simp only [go_sem, reduceCtorEq, reduceIte, Nat.reduceEqDiff, Nat.reduceAdd, Nat.reduceLeDiff, Nat.reduceMul, Int.reduceLT, Int.reduceLE, Int.reduceAdd, Int.reduceSub, Int.reduceMul, Int.reduceNeg, Int.reduceToNat, Int.reduceEq]
        exact endK_drop hM3 (endK_same ⟨rfl, rfl, _, _, rfl, b3⟩)
      · obtain ⟨b1, b2, b3⟩ := fin _ z (.inr ⟨hl, rfl⟩) (.inr ⟨hzz, rfl⟩)
        simp only [go_sem, reduceCtorEq, reduceIte, Nat.reduceEqDiff, Nat.reduceAdd, Nat.reduceLeDiff, Nat.reduceMul, Int.reduceLT, Int.reduceLE, Int.reduceAdd, Int.reduceSub, Int.reduceMul, Int.reduceNeg, Int.reduceToNat, Int.reduceEq, hzz]
        refine callK_same (k85 _ _ _ v.w hw b1.1 b1.2) ?_
        simp only [go_sem, reduceCtorEq, reduceIte, Nat.reduceEqDiff, Nat.reduceAdd, Nat.reduceLeDiff, Nat.reduceMul, Int.reduceLT, Int.reduceLE, Int.reduceAdd, Int.reduceSub, Int.reduceMul, Int.reduceNeg, Int.reduceToNat, Int.reduceEq]
        refine callK_same (k85 _ _ _ v.w hw b2.1 b2.2) ?_
        simp only [go_sem, reduceCtorEq, reduceIte, Nat.reduceEqDiff, Nat.reduceAdd, Nat.reduceLeDiff, Nat.reduceMul, Int.reduceLT, Int.reduceLE, Int.reduceAdd, Int.reduceSub, Int.reduceMul, Int.reduceNeg, Int.reduceToNat, Int.reduceEq]
        exact endK_drop hM3 (endK_same ⟨rfl, rfl, _, _, rfl, b3⟩)
end Go.Proofs.Tryz.K

/- Contracts: what is left behind a question. -/
namespace Go.Proofs.Tryz.K
open Go Go.Ax Go.Proofs.Tryz.S
set_option maxRecDepth 100000
set_option linter.unusedSimpArgs false
set_option linter.unusedVariables false
variable (F : Fz) (M : Hp)

def fitB (k : Int) (v : V) : Bool := isK k && v.ok && decide (v.w = ofW k)
def pairA (x y : V) : Value := .tuple #[x.val, y.val]
end Go.Proofs.Tryz.K

/- Contracts: what is left behind a question, asked. -/
namespace Go.Proofs.Tryz.K
open Go Go.Ax Go.Proofs.Tryz.S
set_option maxRecDepth 100000
set_option linter.unusedSimpArgs false
set_option linter.unusedVariables false
variable (F : Fz) (M : Hp)

/-- May this be asked? -/
def askB (op k : Int) (a b : V) : Bool := (decide (op = 18) || decide (op = 19)) && fitB k a && fitB k b
def twoA (op k : Int) (a b : V) (yes : Bool) (u : Value) : Prop :=
  (askB op k a b = true ∧ ∃ x y, u = .tuple #[x.val, y.val, .int .i64 0] ∧ TwoR op k a b yes x y) ∨ (askB op k a b = false ∧ u = .tuple #[V.zero.val, V.zero.val, .int .i64 1])
def zeroA (a : V) (yes : Bool) (u : Value) : Prop := (a.ok = true ∧ ∃ z, u = .tuple #[z.val, .int .i64 0] ∧ MeetR a (if yes then V.just a.w 0 else butV a.w 0) z) ∨ (a.ok = false ∧ u = .tuple #[V.zero.val, .int .i64 1])
end Go.Proofs.Tryz.K

/- Contracts: small words of layer 5's statements. -/
namespace Go.Proofs.Tryz.K
open Go Go.Ax Go.Proofs.Tryz.S
set_option maxRecDepth 100000
set_option linter.unusedSimpArgs false
set_option linter.unusedVariables false
variable (F : Fz) (M : Hp)

theorem k32 (w : Int) (h0 : 0 ≤ w) (h1 : w ≤ 62) : CallsA Tryz.prog 32 [.int .i64 w] F M (Same F M (V.whole w).val) := by
  refine callsA_of hm Tryz.func32 e32 (Nat.le_of_ble_eq_true rfl) ?_
  have w0 : ¬ w < 0 := by omega
  simp only [c32, go_sem, reduceCtorEq, reduceIte, Nat.reduceEqDiff, Nat.reduceAdd, Nat.reduceLeDiff, Nat.reduceMul, Int.reduceLT, Int.reduceLE, Int.reduceAdd, Int.reduceSub, Int.reduceMul, Int.reduceNeg, Int.reduceToNat, Int.reduceEq]
  intro r hF hM
  simp only [go_sem, reduceCtorEq, reduceIte, Nat.reduceEqDiff, Nat.reduceAdd, Nat.reduceLeDiff, Nat.reduceMul, Int.reduceLT, Int.reduceLE, Int.reduceAdd, Int.reduceSub, Int.reduceMul, Int.reduceNeg, Int.reduceToNat, Int.reduceEq, w0, shl1 h0 h1, most_wrap h0 h1, not_false_eq_true]
  exact endK_drop hM (endK_same ⟨rfl, rfl, rfl⟩)
theorem k33 (w : Int) : CallsA Tryz.prog 33 [.int .i64 w] F M (Same F M (V.nothing w).val) := by
  refine callsA_of hm Tryz.func33 e33 (Nat.le_of_ble_eq_true rfl) ?_
  simp only [c33, go_sem, reduceCtorEq, reduceIte, Nat.reduceEqDiff, Nat.reduceAdd, Nat.reduceLeDiff, Nat.reduceMul, Int.reduceLT, Int.reduceLE, Int.reduceAdd, Int.reduceSub, Int.reduceMul, Int.reduceNeg, Int.reduceToNat, Int.reduceEq]
  intro r hF hM
  simp only [go_sem, reduceCtorEq, reduceIte, Nat.reduceEqDiff, Nat.reduceAdd, Nat.reduceLeDiff, Nat.reduceMul, Int.reduceLT, Int.reduceLE, Int.reduceAdd, Int.reduceSub, Int.reduceMul, Int.reduceNeg, Int.reduceToNat, Int.reduceEq]
  exact endK_drop hM (endK_same ⟨rfl, rfl, rfl⟩)
end Go.Proofs.Tryz.K
