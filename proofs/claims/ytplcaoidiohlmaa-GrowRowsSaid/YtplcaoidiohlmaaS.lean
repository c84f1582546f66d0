/- The small codes of functions, by program (gen.py, by this workplace's session), each with the proof that it is the function's own. -/
import Derived.Test.YtplcaoidiohlmaaProg
import Derived.Test.YtplcaoidiohlmaaAx11
namespace Go.Proofs.Try.S
open Go Go.Ax Go.Ax.N
set_option maxRecDepth 100000

/-- cellar/cellarlaw6.GrowRows -/
def c9 : SF := ⟨199, [.t 2], (.seq (.ops [k 1 (.bx 25 (t 0)),
 o 2 (.mv (b false))])
 (.seq (.seq (.ops [o 24 (.ld true 2 (t 1)),
 k 25 (.ca (.func 13) [(t 24)])])
 (.cond (t 25)
 (.seq (.ops [o 2 (.mv (b true))])
 .ret)
 .skip))
 (.seq (.seq (.ops [o 3 (.mv (i 8))])
 (.block 0 (.loop (.seq (.seq (.ops [o 26 (.mv (t 3)),
 o 27 (.bin .leq (t 26) (i 32))])
 (.cond (t 27)
 .skip
 (.exit 0)))
 (.seq (.block 1 (.seq (.ops [o 4 (.mv (.const (.slice none 0 0)))])
 (.seq (.seq (.ops [o 5 (.mv (i 0))])
 (.block 2 (.loop (.seq (.seq (.ops [o 30 (.mv (t 5)),
 o 31 (.fa 0 (t 1)),
 o 32 (.ld false 1 (t 31)),
 o 33 (.ln (t 32)),
 o 34 (.bin .lss (t 30) (t 33))])
 (.cond (t 34)
 .skip
 (.exit 2)))
 (.seq (.block 3 (.seq (.ops [o 37 (.fa 0 (t 1)),
 o 38 (.ld false 1 (t 37)),
 o 39 (.mv (t 5)),
 o 40 (.ia 6 (t 38) (t 39)),
 o 41 (.fa 0 (t 40)),
 o 42 (.ld false 1 (t 41)),
 o 43 (.mv (t 3)),
 o 44 (.bin .eql (t 42) (t 43)),
 o 45 (.mv (t 44)),
 og 46 45 true (.fa 0 (t 1)),
 og 47 45 true (.ld false 1 (t 46)),
 og 48 45 true (.mv (t 5)),
 og 49 45 true (.ia 6 (t 47) (t 48)),
 og 50 45 true (.ld true 6 (t 49)),
 ⟨some 51, some (45, true), .ca (.func 18) [(t 50)]⟩,
 o 52 (.pick (t 45) (t 51) (b false))])
 (.cond (t 52)
 (.ops [o 53 (.mv (t 4)),
 o 54 (.fa 0 (t 1)),
 o 55 (.ld false 1 (t 54)),
 o 56 (.mv (t 5)),
 o 57 (.ia 6 (t 55) (t 56)),
 o 58 (.ld true 6 (t 57)),
 k 59 (.bs 28 1 [.int .i64 0, .bool false, .int .i64 0, .int .i64 0, .int .i64 0, .int .i64 0] [(0, 6, (t 58))]),
 k 60 (.ap 28 6 48 (t 53) (t 59)),
 o 4 (.mv (t 60))])
 .skip)))
 (.ops [o 35 (.mv (t 5)),
 o 36 (.bin .add (t 35) (i 1)),
 o 5 (.mv (t 36))]))))))
 (.seq (.seq (.ops [o 6 (.mv (i 0))])
 (.block 4 (.loop (.seq (.seq (.ops [o 61 (.mv (t 6)),
 o 62 (.bin .lss (t 61) (i 60))])
 (.cond (t 62)
 .skip
 (.exit 4)))
 (.seq (.block 5 (.seq (.ops [o 65 (.mv (t 6)),
 o 66 (.mv (t 6)),
 o 67 (.bin .mul (t 65) (t 66)),
 o 68 (.bin .mul (t 67) (i 37)),
 o 7 (.mv (t 68))])
 (.seq (.seq (.ops [o 69 (.fa 1 (t 1)),
 o 70 (.ld false 1 (t 69)),
 o 71 (.ln (t 70)),
 o 72 (.bin .gtr (t 71) (i 0))])
 (.cond (t 72)
 (.opq [o 73 (.mv (t 7)),
 o 74 (.fa 1 (t 1)),
 o 75 (.ld false 1 (t 74)),
 o 76 (.mv (t 6)),
 o 77 (.fa 1 (t 1)),
 o 78 (.ld false 1 (t 77)),
 o 79 (.ln (t 78)),
 o 80 (.bin .rem (t 76) (t 79)),
 o 81 (.ia 1 (t 75) (t 80)),
 o 82 (.ld false 1 (t 81)),
 o 83 (.mv (t 6)),
 o 84 (.bin .add (t 83) (i 1)),
 o 85 (.bin .mul (t 82) (t 84)),
 o 86 (.bin .add (t 73) (t 85)),
 o 7 (.mv (t 86))])
 .skip))
 (.ops [o 87 (.mv (t 4)),
 o 88 (.mv (t 3)),
 o 89 (.mv (t 7)),
 o 90 (.mv (t 3)),
 k 91 (.ca (.func 33) [(t 89), (t 90)]),
 k 92 (.ca (.func 32) [(t 88), (t 91)]),
 k 93 (.bs 28 1 [.int .i64 0, .bool false, .int .i64 0, .int .i64 0, .int .i64 0, .int .i64 0] [(0, 6, (t 92))]),
 k 94 (.ap 28 6 48 (t 87) (t 93)),
 o 4 (.mv (t 94))]))))
 (.ops [o 63 (.mv (t 6)),
 o 64 (.bin .add (t 63) (i 1)),
 o 6 (.mv (t 64))]))))))
 (.seq (.ops [o 95 (.mv (t 4)),
 o 96 (.ia 6 (t 95) (i 0)),
 o 97 (.ld true 6 (t 96)),
 k 8 (.al 28 [.int .i64 0, .bool false, .int .i64 0, .int .i64 0, .int .i64 0, .int .i64 0]),
 kn (.st [] 6 (t 8) (t 97))])
 (.seq (.ops [o 9 (.mv (i 0))])
 (.seq (.seq (.ops [o 10 (.mv (i 1))])
 (.block 6 (.loop (.seq (.seq (.ops [o 98 (.mv (t 10)),
 o 99 (.mv (t 4)),
 o 100 (.ln (t 99)),
 o 101 (.bin .lss (t 98) (t 100))])
 (.cond (t 101)
 .skip
 (.exit 6)))
 (.seq (.block 7 (.seq (.opd [o 105 (.ld true 6 (t 8)),
 o 106 (.mv (t 4)),
 o 107 (.mv (t 10)),
 o 108 (.ia 6 (t 106) (t 107)),
 o 109 (.ld true 6 (t 108)),
 k 110 (.ca (.func 34) [(t 105), (t 109)]),
 o 104 (.mv (t 110)),
 o 111 (.ex (t 104) 0),
 o 112 (.ex (t 104) 1),
 k 11 (.al 28 [.int .i64 0, .bool false, .int .i64 0, .int .i64 0, .int .i64 0, .int .i64 0]),
 kn (.st [] 6 (t 11) (t 111)),
 o 12 (.mv (t 112))])
 (.seq (.seq (.ops [o 113 (.mv (t 12)),
 k 114 (.ca (.func 35) [(t 113)]),
 o 115 (.bin .neq (t 114) (i 0))])
 (.cond (t 115)
 (.seq (.ops [o 2 (.mv (b false))])
 .ret)
 .skip))
 (.seq (.seq (.ops [o 116 (.ld true 6 (t 11)),
 o 117 (.ld true 6 (t 8)),
 o 118 (.eqs (.st [(false, 0, 1, .i), (false, 1, 1, .b), (false, 2, 1, .i), (false, 3, 1, .i), (false, 4, 1, .i), (false, 5, 1, .i)]) true (t 116) (t 117))])
 (.cond (t 118)
 (.ops [o 119 (.mv (t 9)),
 o 120 (.bin .add (t 119) (i 1)),
 o 9 (.mv (t 120))])
 .skip))
 (.ops [o 121 (.ld true 6 (t 11)),
 kn (.st [] 6 (t 8) (t 121))])))))
 (.ops [o 102 (.mv (t 10)),
 o 103 (.bin .add (t 102) (i 1)),
 o 10 (.mv (t 103))]))))))
 (.seq (.ops [o 123 (.mv (t 4)),
 k 124 (.ca (.func 39) [(t 123)]),
 o 122 (.mv (t 124)),
 o 125 (.ex (t 122) 0),
 o 126 (.ex (t 122) 1),
 k 13 (.al 28 [.int .i64 0, .bool false, .int .i64 0, .int .i64 0, .int .i64 0, .int .i64 0]),
 kn (.st [] 6 (t 13) (t 125)),
 o 14 (.mv (t 126))])
 (.seq (.ops [o 128 (.mv (t 4)),
 k 129 (.ca (.func 40) [(t 128)]),
 o 127 (.mv (t 129)),
 o 130 (.ex (t 127) 0),
 o 131 (.ex (t 127) 1),
 o 15 (.mv (t 130)),
 o 16 (.mv (t 131))])
 (.seq (.seq (.ops [o 132 (.mv (t 14)),
 k 133 (.ca (.func 35) [(t 132)]),
 o 134 (.bin .neq (t 133) (i 0)),
 o 135 (.mv (t 134)),
 og 136 135 false (.mv (t 16)),
 ⟨some 137, some (135, false), .ca (.func 35) [(t 136)]⟩,
 og 138 135 false (.bin .neq (t 137) (i 0)),
 o 139 (.pick (t 135) (b true) (t 138)),
 o 140 (.mv (t 139)),
 og 141 140 false (.ld true 6 (t 13)),
 og 142 140 false (.ld true 6 (t 8)),
 og 143 140 false (.eqs (.st [(false, 0, 1, .i), (false, 1, 1, .b), (false, 2, 1, .i), (false, 3, 1, .i), (false, 4, 1, .i), (false, 5, 1, .i)]) true (t 141) (t 142)),
 o 144 (.pick (t 140) (b true) (t 143)),
 o 145 (.mv (t 144)),
 og 146 145 false (.mv (t 15)),
 og 147 145 false (.mv (t 9)),
 og 148 145 false (.bin .neq (t 146) (t 147)),
 o 149 (.pick (t 145) (b true) (t 148)),
 o 150 (.mv (t 149)),
 og 151 150 false (.mv (t 9)),
 og 152 150 false (.bin .gtr (t 151) (i 12)),
 o 153 (.pick (t 150) (b true) (t 152))])
 (.cond (t 153)
 (.seq (.ops [o 2 (.mv (b false))])
 .ret)
 .skip))
 (.seq (.ops [o 17 (.mv (i 0))])
 (.block 8 (.loop (.seq (.seq (.ops [o 154 (.mv (t 17)),
 o 155 (.mv (t 4)),
 o 156 (.ln (t 155)),
 o 157 (.bin .lss (t 154) (t 156))])
 (.cond (t 157)
 .skip
 (.exit 8)))
 (.seq (.block 9 (.seq (.opq [o 160 (.mv (t 4)),
 o 161 (.mv (t 17)),
 o 162 (.ia 6 (t 160) (t 161)),
 o 163 (.ld true 6 (t 162)),
 o 164 (.ld true 6 (t 13)),
 o 165 (.mv (t 17)),
 k 166 (.ca (.func 36) [(t 163), (t 164), (t 165)]),
 o 167 (.un .not (t 166))])
 (.cond (t 167)
 (.seq (.ops [o 2 (.mv (b false))])
 .ret)
 .skip)))
 (.ops [o 158 (.mv (t 17)),
 o 159 (.bin .add (t 158) (i 1)),
 o 17 (.mv (t 159))]))))))))))))))))
 (.ops [o 28 (.mv (t 3)),
 o 29 (.bin .mul (t 28) (i 2)),
 o 3 (.mv (t 29))]))))))
 (.seq (.ops [k 169 (.ca (.func 39) [(.const (.slice none 0 0))]),
 o 168 (.mv (t 169)),
 o 170 (.ex (t 168) 0),
 o 171 (.ex (t 168) 1),
 k 18 (.al 28 [.int .i64 0, .bool false, .int .i64 0, .int .i64 0, .int .i64 0, .int .i64 0]),
 kn (.st [] 6 (t 18) (t 170)),
 o 19 (.mv (t 171))])
 (.seq (.ops [k 173 (.ca (.func 40) [(.const (.slice none 0 0))]),
 o 172 (.mv (t 173)),
 o 174 (.ex (t 172) 0),
 o 175 (.ex (t 172) 1),
 o 20 (.mv (t 174)),
 o 21 (.mv (t 175))])
 (.seq (.ops [k 177 (.ca (.func 32) [(i 8), (i 1)]),
 k 178 (.ca (.func 32) [(i 16), (i 1)]),
 k 179 (.bs 28 2 [.int .i64 0, .bool false, .int .i64 0, .int .i64 0, .int .i64 0, .int .i64 0, .int .i64 0, .bool false, .int .i64 0, .int .i64 0, .int .i64 0, .int .i64 0] [(0, 6, (t 177)), (6, 6, (t 178))]),
 k 180 (.ca (.func 39) [(t 179)]),
 o 176 (.mv (t 180)),
 o 181 (.ex (t 176) 0),
 o 182 (.ex (t 176) 1),
 k 22 (.al 28 [.int .i64 0, .bool false, .int .i64 0, .int .i64 0, .int .i64 0, .int .i64 0]),
 kn (.st [] 6 (t 22) (t 181)),
 o 23 (.mv (t 182))])
 (.seq (.ops [o 183 (.mv (t 19)),
 k 184 (.ca (.func 35) [(t 183)]),
 o 185 (.bin .eql (t 184) (i 1)),
 o 186 (.mv (t 185)),
 og 187 186 true (.mv (t 21)),
 ⟨some 188, some (186, true), .ca (.func 35) [(t 187)]⟩,
 og 189 186 true (.bin .eql (t 188) (i 1)),
 o 190 (.pick (t 186) (t 189) (b false)),
 o 191 (.mv (t 190)),
 og 192 191 true (.mv (t 23)),
 ⟨some 193, some (191, true), .ca (.func 35) [(t 192)]⟩,
 og 194 191 true (.bin .eql (t 193) (i 1)),
 o 195 (.pick (t 191) (t 194) (b false)),
 o 196 (.mv (t 195)),
 ⟨some 197, some (196, true), .ca (.func 37) []⟩,
 o 198 (.pick (t 196) (t 197) (b false)),
 o 2 (.mv (t 198))])
 .ret)))))))⟩
theorem e9 : slimF Try.prog Try.f9 [[(0, []), (1, []), (2, []), (3, []), (4, []), (5, []), (6, []), (7, []), (8, []), (9, []), (10, []), (11, []), (12, []), (13, []), (14, [])], [(0, []), (1, []), (2, []), (3, []), (4, []), (5, []), (6, []), (7, []), (8, []), (9, []), (10, []), (11, [])], [(0, []), (1, []), (2, []), (3, []), (4, []), (5, []), (6, []), (7, [])]] = some c9 := by kernel_rfl
/-- cellar/cellarlaw3.Heavy -/
def c13 : SF := ⟨13, [.t 2], (.seq (.ops [k 1 (.bx 25 (t 0)),
 o 2 (.mv (b false))])
 (.seq (.ops [o 3 (.fa 0 (t 1)),
 o 4 (.ld false 1 (t 3)),
 o 5 (.ln (t 4)),
 o 6 (.bin .gtr (t 5) (i 100)),
 o 7 (.mv (t 6)),
 og 8 7 false (.fa 1 (t 1)),
 og 9 7 false (.ld false 1 (t 8)),
 og 10 7 false (.ln (t 9)),
 og 11 7 false (.bin .gtr (t 10) (i 100)),
 o 12 (.pick (t 7) (b true) (t 11)),
 o 2 (.mv (t 12))])
 .ret))⟩
theorem e13 : slimF Try.prog Try.f13 [] = some c13 := by kernel_rfl
/-- cellar/val.All -/
def c14 : SF := ⟨10, [.c true 6 2, .t 3], (.seq (.ops [k 2 (.al 28 [.int .i64 0, .bool false, .int .i64 0, .int .i64 0, .int .i64 0, .int .i64 0]),
 o 3 (.mv (i 0))])
 (.seq (.seq (.ops [o 4 (.mv (t 0)),
 k 5 (.ca (.func 44) [(t 4)]),
 o 6 (.un .not (t 5))])
 (.cond (t 6)
 (.seq (.ops [o 7 (.bd [.int .i64 0, .bool false, .int .i64 0, .int .i64 0, .int .i64 0, .int .i64 0] []),
 kn (.st [] 6 (t 2) (t 7)),
 o 3 (.mv (i 1))])
 .ret)
 .skip))
 (.seq (.ops [o 8 (.mv (t 0)),
 k 9 (.ca (.func 45) [(t 8)]),
 kn (.st [] 6 (t 2) (t 9)),
 o 3 (.mv (i 0))])
 .ret)))⟩
theorem e14 : slimF Try.prog Try.f14 [] = some c14 := by kernel_rfl
/-- cellar/val.No -/
def c15 : SF := ⟨10, [.c true 6 2, .t 3], (.seq (.ops [k 2 (.al 28 [.int .i64 0, .bool false, .int .i64 0, .int .i64 0, .int .i64 0, .int .i64 0]),
 o 3 (.mv (i 0))])
 (.seq (.seq (.ops [o 4 (.mv (t 0)),
 k 5 (.ca (.func 44) [(t 4)]),
 o 6 (.un .not (t 5))])
 (.cond (t 6)
 (.seq (.ops [o 7 (.bd [.int .i64 0, .bool false, .int .i64 0, .int .i64 0, .int .i64 0, .int .i64 0] []),
 kn (.st [] 6 (t 2) (t 7)),
 o 3 (.mv (i 1))])
 .ret)
 .skip))
 (.seq (.ops [o 8 (.mv (t 0)),
 k 9 (.ca (.func 46) [(t 8)]),
 kn (.st [] 6 (t 2) (t 9)),
 o 3 (.mv (i 0))])
 .ret)))⟩
theorem e15 : slimF Try.prog Try.f15 [] = some c15 := by kernel_rfl
/-- cellar/cellarref1.IsWidth -/
def c16 : SF := ⟨13, [.t 2], (.seq (.ops [o 2 (.mv (b false))])
 (.seq (.ops [o 3 (.mv (t 0)),
 o 4 (.bin .eql (t 3) (i 8)),
 o 5 (.mv (t 4)),
 og 6 5 false (.mv (t 0)),
 og 7 5 false (.bin .eql (t 6) (i 16)),
 o 8 (.pick (t 5) (b true) (t 7)),
 o 9 (.mv (t 8)),
 og 10 9 false (.mv (t 0)),
 og 11 9 false (.bin .eql (t 10) (i 32)),
 o 12 (.pick (t 9) (b true) (t 11)),
 o 2 (.mv (t 12))])
 .ret))⟩
theorem e16 : slimF Try.prog Try.f16 [] = some c16 := by kernel_rfl
/-- cellar/cellarlaw3.num -/
def c17 : SF := ⟨4, [.t 2], (.seq (.ops [o 2 (.mv (i 0))])
 (.seq (.ops [o 3 (.mv (t 0)),
 o 2 (.mv (t 3))])
 .ret))⟩
theorem e17 : slimF Try.prog Try.f17 [] = some c17 := by kernel_rfl
/-- cellar/cellarref1.Val -/
def c18 : SF := ⟨48, [.t 2], (.seq (.ops [k 1 (.bx 28 (t 0)),
 o 2 (.mv (b false))])
 (.seq (.seq (.ops [o 3 (.fa 0 (t 1)),
 o 4 (.ld false 1 (t 3)),
 k 5 (.ca (.func 16) [(t 4)]),
 o 6 (.un .not (t 5))])
 (.cond (t 6)
 (.seq (.ops [o 2 (.mv (b false))])
 .ret)
 .skip))
 (.seq (.seq (.ops [o 7 (.fa 1 (t 1)),
 o 8 (.ld false 1 (t 7))])
 (.cond (t 8)
 (.seq (.ops [o 9 (.ld true 6 (t 1)),
 o 10 (.fa 0 (t 1)),
 o 11 (.ld false 1 (t 10)),
 o 12 (.bd [.int .i64 0, .bool false, .int .i64 0, .int .i64 0, .int .i64 0, .int .i64 0] [(0, 1, (t 11)), (1, 1, (b true))]),
 o 13 (.eqs (.st [(false, 0, 1, .i), (false, 1, 1, .b), (false, 2, 1, .i), (false, 3, 1, .i), (false, 4, 1, .i), (false, 5, 1, .i)]) false (t 9) (t 12)),
 o 2 (.mv (t 13))])
 .ret)
 .skip))
 (.seq (.ops [o 14 (.fa 2 (t 1)),
 o 15 (.ld false 1 (t 14)),
 o 16 (.fa 0 (t 1)),
 o 17 (.ld false 1 (t 16)),
 k 18 (.ca (.func 21) [(t 15), (t 17)]),
 o 19 (.mv (t 18)),
 og 20 19 true (.fa 3 (t 1)),
 og 21 19 true (.ld false 1 (t 20)),
 og 22 19 true (.fa 0 (t 1)),
 og 23 19 true (.ld false 1 (t 22)),
 ⟨some 24, some (19, true), .ca (.func 21) [(t 21), (t 23)]⟩,
 o 25 (.pick (t 19) (t 24) (b false)),
 o 26 (.mv (t 25)),
 og 27 26 true (.fa 4 (t 1)),
 og 28 26 true (.ld false 1 (t 27)),
 og 29 26 true (.fa 0 (t 1)),
 og 30 26 true (.ld false 1 (t 29)),
 ⟨some 31, some (26, true), .ca (.func 21) [(t 28), (t 30)]⟩,
 o 32 (.pick (t 26) (t 31) (b false)),
 o 33 (.mv (t 32)),
 og 34 33 true (.fa 5 (t 1)),
 og 35 33 true (.ld false 1 (t 34)),
 og 36 33 true (.fa 0 (t 1)),
 og 37 33 true (.ld false 1 (t 36)),
 ⟨some 38, some (33, true), .ca (.func 21) [(t 35), (t 37)]⟩,
 o 39 (.pick (t 33) (t 38) (b false)),
 o 40 (.mv (t 39)),
 og 41 40 true (.fa 5 (t 1)),
 og 42 40 true (.ld false 1 (t 41)),
 og 43 40 true (.fa 4 (t 1)),
 og 44 40 true (.ld false 1 (t 43)),
 og 45 40 true (.bin .and (t 42) (t 44)),
 og 46 40 true (.bin .eql (t 45) (i 0)),
 o 47 (.pick (t 40) (t 46) (b false)),
 o 2 (.mv (t 47))])
 .ret))))⟩
theorem e18 : slimF Try.prog Try.f18 [] = some c18 := by kernel_rfl
/-- cellar/cellarref1.Next -/
def c19 : SF := ⟨73, [.t 4], (.seq (.ops [k 2 (.bx 28 (t 0)),
 o 4 (.mv (i 0))])
 (.seq (.seq (.ops [o 9 (.fa 1 (t 2)),
 o 10 (.ld false 1 (t 9)),
 o 11 (.mv (t 10)),
 og 12 11 false (.mv (t 1)),
 og 13 11 false (.fa 0 (t 2)),
 og 14 11 false (.ld false 1 (t 13)),
 og 15 11 false (.bin .shl (i 1) (t 14)),
 og 16 11 false (.bin .geq (t 12) (t 15)),
 o 17 (.pick (t 11) (b true) (t 16))])
 (.cond (t 17)
 (.seq (.ops [o 4 (.mv (i (-1)))])
 .ret)
 .skip))
 (.seq (.ops [o 18 (.fa 2 (t 2)),
 o 19 (.ld false 1 (t 18)),
 k 20 (.bs 3 2 [.int .i64 0, .int .i64 0] [(0, 1, (t 19)), (1, 1, (i 0))]),
 o 5 (.mv (t 20))])
 (.seq (.ops [o 21 (.fa 3 (t 2)),
 o 22 (.ld false 1 (t 21)),
 k 23 (.bs 3 2 [.int .i64 0, .int .i64 0] [(0, 1, (t 22)), (1, 1, (i (-1)))]),
 o 6 (.mv (t 23))])
 (.seq (.seq (.ops [o 24 (.fa 2 (t 2)),
 o 25 (.ld false 1 (t 24)),
 o 26 (.fa 3 (t 2)),
 o 27 (.ld false 1 (t 26)),
 o 28 (.bin .gtr (t 25) (t 27))])
 (.cond (t 28)
 (.opq [o 29 (.fa 2 (t 2)),
 o 30 (.ld false 1 (t 29)),
 o 32 (.fa 3 (t 2)),
 o 33 (.ld false 1 (t 32)),
 o 34 (.fa 0 (t 2)),
 o 35 (.ld false 1 (t 34)),
 o 36 (.bin .shl (i 1) (t 35)),
 o 37 (.bin .sub (t 36) (i 1)),
 k 31 (.bs 3 2 [.int .i64 0, .int .i64 0] [(0, 1, (i 0)), (1, 1, (t 30))]),
 o 5 (.mv (t 31)),
 k 38 (.bs 3 2 [.int .i64 0, .int .i64 0] [(0, 1, (t 33)), (1, 1, (t 37))]),
 o 6 (.mv (t 38))])
 .skip))
 (.seq (.seq (.ops [o 7 (.mv (i 0))])
 (.block 0 (.loop (.seq (.seq (.ops [o 39 (.mv (t 7)),
 o 40 (.bin .lss (t 39) (i 2))])
 (.cond (t 40)
 .skip
 (.exit 0)))
 (.seq (.block 1 (.seq (.seq (.opq [o 43 (.mv (t 1)),
 o 44 (.mv (t 5)),
 o 45 (.mv (t 7)),
 o 46 (.ia 1 (t 44) (t 45)),
 o 47 (.ld false 1 (t 46)),
 o 48 (.mx [(t 43), (t 47)]),
 o 49 (.mv (t 6)),
 o 50 (.mv (t 7)),
 o 51 (.ia 1 (t 49) (t 50)),
 o 52 (.ld false 1 (t 51)),
 o 53 (.bin .gtr (t 48) (t 52))])
 (.cond (t 53)
 (.exit 1)
 .skip))
 (.seq (.opq [o 54 (.ld true 6 (t 2)),
 o 55 (.mv (t 1)),
 o 56 (.mv (t 5)),
 o 57 (.mv (t 7)),
 o 58 (.ia 1 (t 56) (t 57)),
 o 59 (.ld false 1 (t 58)),
 o 60 (.mx [(t 55), (t 59)]),
 k 61 (.ca (.func 47) [(t 54), (t 60)]),
 o 8 (.mv (t 61))])
 (.seq (.ops [o 62 (.mv (t 8)),
 o 63 (.bin .geq (t 62) (i 0)),
 o 64 (.mv (t 63)),
 og 65 64 true (.mv (t 8)),
 og 66 64 true (.mv (t 6)),
 og 67 64 true (.mv (t 7)),
 og 68 64 true (.ia 1 (t 66) (t 67)),
 og 69 64 true (.ld false 1 (t 68)),
 og 70 64 true (.bin .leq (t 65) (t 69)),
 o 71 (.pick (t 64) (t 70) (b false))])
 (.cond (t 71)
 (.seq (.ops [o 72 (.mv (t 8)),
 o 4 (.mv (t 72))])
 .ret)
 .skip)))))
 (.ops [o 41 (.mv (t 7)),
 o 42 (.bin .add (t 41) (i 1)),
 o 7 (.mv (t 42))]))))))
 (.seq (.ops [o 4 (.mv (i (-1)))])
 .ret)))))))⟩
theorem e19 : slimF Try.prog Try.f19 [[(0, []), (1, []), (3, []), (4, []), (5, []), (6, []), (7, []), (8, []), (2, []), (10, []), (9, []), (11, [])], [(0, []), (1, []), (2, []), (3, []), (4, []), (5, []), (6, []), (7, []), (8, []), (9, []), (10, [])], [(0, []), (1, []), (2, []), (3, []), (4, []), (5, []), (6, []), (7, []), (8, [])]] = some c19 := by kernel_rfl
/-- cellar/val.One -/
def c20 : SF := ⟨19, [.c true 6 4, .t 5], (.seq (.ops [k 4 (.al 28 [.int .i64 0, .bool false, .int .i64 0, .int .i64 0, .int .i64 0, .int .i64 0]),
 o 5 (.mv (i 0))])
 (.seq (.seq (.ops [o 6 (.mv (t 0)),
 k 7 (.ca (.func 44) [(t 6)]),
 o 8 (.un .not (t 7)),
 o 9 (.mv (t 8)),
 og 10 9 false (.mv (t 1)),
 og 11 9 false (.mv (t 0)),
 ⟨some 12, some (9, false), .ca (.func 48) [(t 10), (t 11)]⟩,
 og 13 9 false (.un .not (t 12)),
 o 14 (.pick (t 9) (b true) (t 13))])
 (.cond (t 14)
 (.seq (.ops [o 15 (.bd [.int .i64 0, .bool false, .int .i64 0, .int .i64 0, .int .i64 0, .int .i64 0] []),
 kn (.st [] 6 (t 4) (t 15)),
 o 5 (.mv (i 1))])
 .ret)
 .skip))
 (.seq (.ops [o 16 (.mv (t 0)),
 o 17 (.mv (t 1)),
 k 18 (.ca (.func 49) [(t 16), (t 17)]),
 kn (.st [] 6 (t 4) (t 18)),
 o 5 (.mv (i 0))])
 .ret)))⟩
theorem e20 : slimF Try.prog Try.f20 [] = some c20 := by kernel_rfl
/-- cellar/cellarref1.Number -/
def c21 : SF := ⟨10, [.t 4], (.seq (.ops [o 4 (.mv (b false))])
 (.seq (.ops [o 5 (.mv (t 0)),
 o 6 (.mv (t 1)),
 o 7 (.bin .shl (i 1) (t 6)),
 o 8 (.bin .sub (t 7) (i 1)),
 k 9 (.ca (.func 50) [(t 5), (t 8)]),
 o 4 (.mv (t 9))])
 .ret))⟩
theorem e21 : slimF Try.prog Try.f21 [] = some c21 := by kernel_rfl
/-- cellar/cellarref1.Only -/
def c22 : SF := ⟨17, [.t 2, .t 3], (.seq (.ops [k 1 (.bx 28 (t 0)),
 o 2 (.mv (i 0)),
 o 3 (.mv (b false))])
 (.seq (.ops [o 5 (.ld true 6 (t 1)),
 k 6 (.ca (.func 19) [(t 5), (i 0)]),
 o 4 (.mv (t 6))])
 (.seq (.ops [o 7 (.mv (t 4)),
 o 8 (.mv (t 4)),
 o 9 (.bin .geq (t 8) (i 0)),
 o 10 (.mv (t 9)),
 og 11 10 true (.ld true 6 (t 1)),
 og 12 10 true (.mv (t 4)),
 og 13 10 true (.bin .add (t 12) (i 1)),
 ⟨some 14, some (10, true), .ca (.func 19) [(t 11), (t 13)]⟩,
 og 15 10 true (.bin .lss (t 14) (i 0)),
 o 16 (.pick (t 10) (t 15) (b false)),
 o 2 (.mv (t 7)),
 o 3 (.mv (t 16))])
 .ret)))⟩
theorem e22 : slimF Try.prog Try.f22 [] = some c22 := by kernel_rfl
/-- cellar/cellarref1.Has -/
def c23 : SF := ⟨37, [.t 4], (.seq (.ops [k 2 (.bx 28 (t 0)),
 o 4 (.mv (b false))])
 (.seq (.seq (.ops [o 5 (.fa 1 (t 2)),
 o 6 (.ld false 1 (t 5)),
 o 7 (.mv (t 6)),
 og 8 7 false (.mv (t 1)),
 og 9 7 false (.fa 4 (t 2)),
 og 10 7 false (.ld false 1 (t 9)),
 og 11 7 false (.bin .andNot (t 8) (t 10)),
 og 12 7 false (.fa 5 (t 2)),
 og 13 7 false (.ld false 1 (t 12)),
 og 14 7 false (.bin .neq (t 11) (t 13)),
 o 15 (.pick (t 7) (b true) (t 14))])
 (.cond (t 15)
 (.seq (.ops [o 4 (.mv (b false))])
 .ret)
 .skip))
 (.seq (.seq (.ops [o 16 (.fa 2 (t 2)),
 o 17 (.ld false 1 (t 16)),
 o 18 (.fa 3 (t 2)),
 o 19 (.ld false 1 (t 18)),
 o 20 (.bin .leq (t 17) (t 19))])
 (.cond (t 20)
 (.seq (.ops [o 21 (.mv (t 1)),
 o 22 (.fa 2 (t 2)),
 o 23 (.ld false 1 (t 22)),
 o 24 (.fa 3 (t 2)),
 o 25 (.ld false 1 (t 24)),
 k 26 (.ca (.func 51) [(t 21), (t 23), (t 25)]),
 o 4 (.mv (t 26))])
 .ret)
 .skip))
 (.seq (.ops [o 27 (.mv (t 1)),
 o 28 (.fa 2 (t 2)),
 o 29 (.ld false 1 (t 28)),
 o 30 (.bin .geq (t 27) (t 29)),
 o 31 (.mv (t 30)),
 og 32 31 false (.mv (t 1)),
 og 33 31 false (.fa 3 (t 2)),
 og 34 31 false (.ld false 1 (t 33)),
 og 35 31 false (.bin .leq (t 32) (t 34)),
 o 36 (.pick (t 31) (b true) (t 35)),
 o 4 (.mv (t 36))])
 .ret))))⟩
theorem e23 : slimF Try.prog Try.f23 [] = some c23 := by kernel_rfl
/-- cellar/cellarlaw3.wakes -/
def c24 : SF := ⟨45, [.t 0], (.seq (.ops [o 0 (.mv (b false))])
 (.seq (.ops [k 8 (.ca (.func 20) [(i 8), (i 3)]),
 o 7 (.mv (t 8)),
 o 9 (.ex (t 7) 0),
 o 10 (.ex (t 7) 1),
 k 1 (.al 28 [.int .i64 0, .bool false, .int .i64 0, .int .i64 0, .int .i64 0, .int .i64 0]),
 kn (.st [] 6 (t 1) (t 9)),
 o 2 (.mv (t 10))])
 (.seq (.ops [o 12 (.ld true 6 (t 1)),
 k 13 (.ca (.func 25) [(t 12), (i 3)]),
 o 11 (.mv (t 13)),
 o 14 (.ex (t 11) 0),
 o 15 (.ex (t 11) 1),
 o 3 (.mv (t 14)),
 o 4 (.mv (t 15))])
 (.seq (.ops [o 17 (.ld true 6 (t 1)),
 k 18 (.ca (.func 25) [(t 17), (i 4)]),
 o 16 (.mv (t 18)),
 o 19 (.ex (t 16) 0),
 o 20 (.ex (t 16) 1),
 o 5 (.mv (t 19)),
 o 6 (.mv (t 20))])
 (.seq (.ops [o 21 (.mv (t 2)),
 k 22 (.ca (.func 17) [(t 21)]),
 o 23 (.bin .eql (t 22) (i 0)),
 o 24 (.mv (t 23)),
 og 25 24 true (.mv (t 4)),
 ⟨some 26, some (24, true), .ca (.func 17) [(t 25)]⟩,
 og 27 24 true (.bin .eql (t 26) (i 0)),
 o 28 (.pick (t 24) (t 27) (b false)),
 o 29 (.mv (t 28)),
 og 30 29 true (.mv (t 6)),
 ⟨some 31, some (29, true), .ca (.func 17) [(t 30)]⟩,
 og 32 29 true (.bin .eql (t 31) (i 0)),
 o 33 (.pick (t 29) (t 32) (b false)),
 o 34 (.mv (t 33)),
 og 35 34 true (.mv (t 3)),
 o 36 (.pick (t 34) (t 35) (b false)),
 o 37 (.mv (t 36)),
 og 38 37 true (.mv (t 5)),
 og 39 37 true (.un .not (t 38)),
 o 40 (.pick (t 37) (t 39) (b false)),
 o 41 (.mv (t 40)),
 og 42 41 true (.ld true 6 (t 1)),
 ⟨some 43, some (41, true), .ca (.func 18) [(t 42)]⟩,
 o 44 (.pick (t 41) (t 43) (b false)),
 o 0 (.mv (t 44))])
 .ret)))))⟩
theorem e24 : slimF Try.prog Try.f24 [] = some c24 := by kernel_rfl
/-- cellar/val.Has -/
def c25 : SF := ⟨19, [.t 4, .t 5], (.seq (.ops [k 2 (.bx 28 (t 0)),
 o 4 (.mv (b false)),
 o 5 (.mv (i 0))])
 (.seq (.seq (.ops [o 6 (.ld true 6 (t 2)),
 k 7 (.ca (.func 52) [(t 6)]),
 o 8 (.un .not (t 7)),
 o 9 (.mv (t 8)),
 og 10 9 false (.mv (t 1)),
 og 11 9 false (.fa 0 (t 2)),
 og 12 9 false (.ld false 1 (t 11)),
 ⟨some 13, some (9, false), .ca (.func 48) [(t 10), (t 12)]⟩,
 og 14 9 false (.un .not (t 13)),
 o 15 (.pick (t 9) (b true) (t 14))])
 (.cond (t 15)
 (.seq (.ops [o 4 (.mv (b false)),
 o 5 (.mv (i 1))])
 .ret)
 .skip))
 (.seq (.ops [o 16 (.ld true 6 (t 2)),
 o 17 (.mv (t 1)),
 k 18 (.ca (.func 53) [(t 16), (t 17)]),
 o 4 (.mv (t 18)),
 o 5 (.mv (i 0))])
 .ret)))⟩
theorem e25 : slimF Try.prog Try.f25 [] = some c25 := by kernel_rfl
/-- cellar/val.Next -/
def c26 : SF := ⟨23, [.t 4, .t 5], (.seq (.ops [k 2 (.bx 28 (t 0)),
 o 4 (.mv (i 0)),
 o 5 (.mv (i 0))])
 (.seq (.seq (.ops [o 7 (.ld true 6 (t 2)),
 k 8 (.ca (.func 52) [(t 7)]),
 o 9 (.un .not (t 8)),
 o 10 (.mv (t 9)),
 og 11 10 false (.mv (t 1)),
 og 12 10 false (.fa 0 (t 2)),
 og 13 10 false (.ld false 1 (t 12)),
 ⟨some 14, some (10, false), .ca (.func 48) [(t 11), (t 13)]⟩,
 og 15 10 false (.un .not (t 14)),
 o 16 (.pick (t 10) (b true) (t 15))])
 (.cond (t 16)
 (.seq (.ops [o 4 (.mv (i 0)),
 o 5 (.mv (i 1))])
 .ret)
 .skip))
 (.seq (.ops [o 17 (.ld true 6 (t 2)),
 o 18 (.mv (t 1)),
 k 19 (.ca (.func 54) [(t 17), (t 18)]),
 o 6 (.mv (t 19))])
 (.seq (.seq (.ops [o 20 (.mv (t 6)),
 o 21 (.bin .lss (t 20) (i 0))])
 (.cond (t 21)
 (.seq (.ops [o 4 (.mv (i 0)),
 o 5 (.mv (i 3))])
 .ret)
 .skip))
 (.seq (.ops [o 22 (.mv (t 6)),
 o 4 (.mv (t 22)),
 o 5 (.mv (i 0))])
 .ret)))))⟩
theorem e26 : slimF Try.prog Try.f26 [] = some c26 := by kernel_rfl
/-- cellar/val.Empty -/
def c27 : SF := ⟨9, [.t 2, .t 3], (.seq (.ops [k 1 (.bx 28 (t 0)),
 o 2 (.mv (b false)),
 o 3 (.mv (i 0))])
 (.seq (.seq (.ops [o 4 (.ld true 6 (t 1)),
 k 5 (.ca (.func 52) [(t 4)]),
 o 6 (.un .not (t 5))])
 (.cond (t 6)
 (.seq (.ops [o 2 (.mv (b false)),
 o 3 (.mv (i 1))])
 .ret)
 .skip))
 (.seq (.ops [o 7 (.ld true 6 (t 1)),
 k 8 (.ca (.func 55) [(t 7)]),
 o 2 (.mv (t 8)),
 o 3 (.mv (i 0))])
 .ret)))⟩
theorem e27 : slimF Try.prog Try.f27 [] = some c27 := by kernel_rfl
/-- cellar/val.Single -/
def c28 : SF := ⟨15, [.t 2, .t 3, .t 4], (.seq (.ops [k 1 (.bx 28 (t 0)),
 o 2 (.mv (b false)),
 o 3 (.mv (i 0)),
 o 4 (.mv (i 0))])
 (.seq (.seq (.ops [o 5 (.ld true 6 (t 1)),
 k 6 (.ca (.func 52) [(t 5)]),
 o 7 (.un .not (t 6))])
 (.cond (t 7)
 (.seq (.ops [o 2 (.mv (b false)),
 o 3 (.mv (i 0)),
 o 4 (.mv (i 1))])
 .ret)
 .skip))
 (.seq (.ops [o 9 (.ld true 6 (t 1)),
 k 10 (.ca (.func 56) [(t 9)]),
 o 8 (.mv (t 10)),
 o 11 (.ex (t 8) 0),
 o 12 (.ex (t 8) 1),
 o 3 (.mv (t 11)),
 o 2 (.mv (t 12))])
 (.seq (.ops [o 13 (.mv (t 2)),
 o 14 (.mv (t 3)),
 o 2 (.mv (t 13)),
 o 3 (.mv (t 14)),
 o 4 (.mv (i 0))])
 .ret))))⟩
theorem e28 : slimF Try.prog Try.f28 [] = some c28 := by kernel_rfl
/-- cellar/val.Check -/
def c29 : SF := ⟨6, [.t 2], (.seq (.ops [k 1 (.bx 28 (t 0)),
 o 2 (.mv (i 0))])
 (.seq (.seq (.ops [o 3 (.ld true 6 (t 1)),
 k 4 (.ca (.func 52) [(t 3)]),
 o 5 (.un .not (t 4))])
 (.cond (t 5)
 (.seq (.ops [o 2 (.mv (i 1))])
 .ret)
 .skip))
 (.seq (.ops [o 2 (.mv (i 0))])
 .ret)))⟩
theorem e29 : slimF Try.prog Try.f29 [] = some c29 := by kernel_rfl
/-- cellar/cellarlaw0.Within -/
def c30 : SF := ⟨11, [.t 4], (.seq (.ops [o 4 (.mv (i 0))])
 (.seq (.ops [o 5 (.mv (t 0)),
 o 6 (.cv .u64 (t 5)),
 o 7 (.mv (t 1)),
 o 8 (.cv .u64 (t 7)),
 o 9 (.bin .rem (t 6) (t 8)),
 o 10 (.cv .i64 (t 9)),
 o 4 (.mv (t 10))])
 .ret))⟩
theorem e30 : slimF Try.prog Try.f30 [] = some c30 := by kernel_rfl
/-- cellar/cellarlaw1.Heavy -/
def c31 : SF := ⟨17, [.t 2], (.seq (.ops [k 1 (.bx 55 (t 0)),
 o 2 (.mv (b false))])
 (.seq (.ops [o 3 (.fa 0 (t 1)),
 o 4 (.ld false 1 (t 3)),
 o 5 (.ln (t 4)),
 o 6 (.fa 2 (t 1)),
 o 7 (.ld false 1 (t 6)),
 o 8 (.ln (t 7)),
 o 9 (.bin .add (t 5) (t 8)),
 o 10 (.bin .gtr (t 9) (i 100)),
 o 11 (.mv (t 10)),
 og 12 11 false (.fa 1 (t 1)),
 og 13 11 false (.ld false 1 (t 12)),
 ⟨some 14, some (11, false), .ca (.func 57) [(t 13)]⟩,
 og 15 11 false (.bin .gtr (t 14) (i 1000)),
 o 16 (.pick (t 11) (b true) (t 15)),
 o 2 (.mv (t 16))])
 .ret))⟩
theorem e31 : slimF Try.prog Try.f31 [] = some c31 := by kernel_rfl
/-- cellar/cellarref1.Just -/
def c32 : SF := ⟨10, [.c true 6 4], (.seq (.ops [k 4 (.al 28 [.int .i64 0, .bool false, .int .i64 0, .int .i64 0, .int .i64 0, .int .i64 0])])
 (.seq (.ops [o 5 (.mv (t 0)),
 o 6 (.mv (t 1)),
 o 7 (.mv (t 1)),
 o 8 (.mv (t 1)),
 o 9 (.bd [.int .i64 0, .bool false, .int .i64 0, .int .i64 0, .int .i64 0, .int .i64 0] [(0, 1, (t 5)), (2, 1, (t 6)), (3, 1, (t 7)), (5, 1, (t 8))]),
 kn (.st [] 6 (t 4) (t 9))])
 .ret))⟩
theorem e32 : slimF Try.prog Try.f32 [] = some c32 := by kernel_rfl
/-- cellar/cellarref1.Wrap -/
def c33 : SF := ⟨10, [.t 4], (.seq (.ops [o 4 (.mv (i 0))])
 (.seq (.ops [o 5 (.mv (t 0)),
 o 6 (.mv (t 1)),
 o 7 (.bin .shl (i 1) (t 6)),
 o 8 (.bin .sub (t 7) (i 1)),
 o 9 (.bin .and (t 5) (t 8)),
 o 4 (.mv (t 9))])
 .ret))⟩
theorem e33 : slimF Try.prog Try.f33 [] = some c33 := by kernel_rfl
/-- cellar/grow.Wide -/
def c34 : SF := ⟨15, [.c true 6 4, .t 5], (.seq (.ops [k 2 (.bx 28 (t 0)),
 k 3 (.bx 28 (t 1)),
 k 4 (.al 28 [.int .i64 0, .bool false, .int .i64 0, .int .i64 0, .int .i64 0, .int .i64 0]),
 o 5 (.mv (i 0))])
 (.seq (.seq (.ops [o 6 (.ld true 6 (t 2)),
 o 7 (.ld true 6 (t 3)),
 k 8 (.bs 28 2 [.int .i64 0, .bool false, .int .i64 0, .int .i64 0, .int .i64 0, .int .i64 0, .int .i64 0, .bool false, .int .i64 0, .int .i64 0, .int .i64 0, .int .i64 0] [(0, 6, (t 6)), (6, 6, (t 7))]),
 k 9 (.ca (.func 58) [(t 8)]),
 o 10 (.un .not (t 9))])
 (.cond (t 10)
 (.seq (.ops [o 11 (.bd [.int .i64 0, .bool false, .int .i64 0, .int .i64 0, .int .i64 0, .int .i64 0] []),
 kn (.st [] 6 (t 4) (t 11)),
 o 5 (.mv (i 1))])
 .ret)
 .skip))
 (.seq (.ops [o 12 (.ld true 6 (t 2)),
 o 13 (.ld true 6 (t 3)),
 k 14 (.ca (.func 59) [(t 12), (t 13)]),
 kn (.st [] 6 (t 4) (t 14)),
 o 5 (.mv (i 0))])
 .ret)))⟩
theorem e34 : slimF Try.prog Try.f34 [] = some c34 := by kernel_rfl
/-- cellar/cellarlaw6.num -/
def c35 : SF := ⟨4, [.t 2], (.seq (.ops [o 2 (.mv (i 0))])
 (.seq (.ops [o 3 (.mv (t 0)),
 o 2 (.mv (t 3))])
 .ret))⟩
theorem e35 : slimF Try.prog Try.f35 [] = some c35 := by kernel_rfl
/-- cellar/cellarlaw3.Within -/
def c36 : SF := ⟨25, [.t 6], (.seq (.ops [k 3 (.bx 28 (t 0)),
 k 4 (.bx 28 (t 1)),
 o 6 (.mv (b false))])
 (.seq (.ops [o 9 (.ld true 6 (t 3)),
 o 10 (.mv (t 2)),
 k 11 (.ca (.func 43) [(t 9), (i 24), (t 10)]),
 o 7 (.mv (t 11))])
 (.seq (.seq (.ops [o 8 (.mv (i 0))])
 (.block 0 (.loop (.seq (.seq (.ops [o 12 (.mv (t 8)),
 o 13 (.mv (t 7)),
 o 14 (.ln (t 13)),
 o 15 (.bin .lss (t 12) (t 14))])
 (.cond (t 15)
 .skip
 (.exit 0)))
 (.seq (.block 1 (.seq (.opq [o 18 (.ld true 6 (t 4)),
 o 19 (.mv (t 7)),
 o 20 (.mv (t 8)),
 o 21 (.ia 1 (t 19) (t 20)),
 o 22 (.ld false 1 (t 21)),
 k 23 (.ca (.func 23) [(t 18), (t 22)]),
 o 24 (.un .not (t 23))])
 (.cond (t 24)
 (.seq (.ops [o 6 (.mv (b false))])
 .ret)
 .skip)))
 (.ops [o 16 (.mv (t 8)),
 o 17 (.bin .add (t 16) (i 1)),
 o 8 (.mv (t 17))]))))))
 (.seq (.ops [o 6 (.mv (b true))])
 .ret))))⟩
theorem e36 : slimF Try.prog Try.f36 [[(0, []), (1, []), (2, []), (3, []), (4, []), (5, []), (6, [])]] = some c36 := by kernel_rfl
/-- cellar/cellarlaw6.wakes -/
def c37 : SF := ⟨38, [.t 0], (.seq (.ops [o 0 (.mv (b false))])
 (.seq (.ops [k 6 (.ca (.func 32) [(i 8), (i 3)]),
 k 1 (.al 28 [.int .i64 0, .bool false, .int .i64 0, .int .i64 0, .int .i64 0, .int .i64 0]),
 kn (.st [] 6 (t 1) (t 6))])
 (.seq (.ops [o 8 (.ld true 6 (t 1)),
 o 9 (.ld true 6 (t 1)),
 k 10 (.ca (.func 34) [(t 8), (t 9)]),
 o 7 (.mv (t 10)),
 o 11 (.ex (t 7) 0),
 o 12 (.ex (t 7) 1),
 k 2 (.al 28 [.int .i64 0, .bool false, .int .i64 0, .int .i64 0, .int .i64 0, .int .i64 0]),
 kn (.st [] 6 (t 2) (t 11)),
 o 3 (.mv (t 12))])
 (.seq (.ops [o 14 (.ld true 6 (t 1)),
 o 15 (.ld true 6 (t 1)),
 o 16 (.ld true 6 (t 1)),
 k 17 (.bs 28 3 [.int .i64 0, .bool false, .int .i64 0, .int .i64 0, .int .i64 0, .int .i64 0, .int .i64 0, .bool false, .int .i64 0, .int .i64 0, .int .i64 0, .int .i64 0, .int .i64 0, .bool false, .int .i64 0, .int .i64 0, .int .i64 0, .int .i64 0] [(0, 6, (t 14)), (6, 6, (t 15)), (12, 6, (t 16))]),
 k 18 (.ca (.func 40) [(t 17)]),
 o 13 (.mv (t 18)),
 o 19 (.ex (t 13) 0),
 o 20 (.ex (t 13) 1),
 o 4 (.mv (t 19)),
 o 5 (.mv (t 20))])
 (.seq (.ops [o 21 (.mv (t 3)),
 k 22 (.ca (.func 35) [(t 21)]),
 o 23 (.bin .eql (t 22) (i 0)),
 o 24 (.mv (t 23)),
 og 25 24 true (.mv (t 5)),
 ⟨some 26, some (24, true), .ca (.func 35) [(t 25)]⟩,
 og 27 24 true (.bin .eql (t 26) (i 0)),
 o 28 (.pick (t 24) (t 27) (b false)),
 o 29 (.mv (t 28)),
 og 30 29 true (.ld true 6 (t 2)),
 og 31 29 true (.ld true 6 (t 1)),
 og 32 29 true (.eqs (.st [(false, 0, 1, .i), (false, 1, 1, .b), (false, 2, 1, .i), (false, 3, 1, .i), (false, 4, 1, .i), (false, 5, 1, .i)]) false (t 30) (t 31)),
 o 33 (.pick (t 29) (t 32) (b false)),
 o 34 (.mv (t 33)),
 og 35 34 true (.mv (t 4)),
 og 36 34 true (.bin .eql (t 35) (i 0)),
 o 37 (.pick (t 34) (t 36) (b false)),
 o 0 (.mv (t 37))])
 .ret)))))⟩
theorem e37 : slimF Try.prog Try.f37 [] = some c37 := by kernel_rfl
/-- cellar/val.In -/
def c38 : SF := ⟨13, [.t 4, .t 5], (.seq (.ops [k 2 (.bx 28 (t 0)),
 k 3 (.bx 28 (t 1)),
 o 4 (.mv (b false)),
 o 5 (.mv (i 0))])
 (.seq (.seq (.ops [o 6 (.ld true 6 (t 2)),
 o 7 (.ld true 6 (t 3)),
 k 8 (.ca (.func 60) [(t 6), (t 7)]),
 o 9 (.un .not (t 8))])
 (.cond (t 9)
 (.seq (.ops [o 4 (.mv (b false)),
 o 5 (.mv (i 1))])
 .ret)
 .skip))
 (.seq (.ops [o 10 (.ld true 6 (t 2)),
 o 11 (.ld true 6 (t 3)),
 k 12 (.ca (.func 61) [(t 10), (t 11)]),
 o 4 (.mv (t 12)),
 o 5 (.mv (i 0))])
 .ret)))⟩
theorem e38 : slimF Try.prog Try.f38 [] = some c38 := by kernel_rfl
/-- cellar/grow.Row -/
def c39 : SF := ⟨21, [.c true 6 2, .t 3], (.seq (.ops [k 2 (.al 28 [.int .i64 0, .bool false, .int .i64 0, .int .i64 0, .int .i64 0, .int .i64 0]),
 o 3 (.mv (i 0))])
 (.seq (.seq (.ops [o 6 (.mv (t 0)),
 o 7 (.ln (t 6)),
 o 8 (.bin .eql (t 7) (i 0)),
 o 9 (.mv (t 8)),
 og 10 9 false (.mv (t 0)),
 ⟨some 11, some (9, false), .ca (.func 58) [(t 10)]⟩,
 og 12 9 false (.un .not (t 11)),
 o 13 (.pick (t 9) (b true) (t 12))])
 (.cond (t 13)
 (.seq (.ops [o 14 (.bd [.int .i64 0, .bool false, .int .i64 0, .int .i64 0, .int .i64 0, .int .i64 0] []),
 kn (.st [] 6 (t 2) (t 14)),
 o 3 (.mv (i 1))])
 .ret)
 .skip))
 (.seq (.ops [o 16 (.mv (t 0)),
 k 17 (.ca (.func 62) [(t 16)]),
 o 15 (.mv (t 17)),
 o 18 (.ex (t 15) 0),
 o 19 (.ex (t 15) 1),
 k 4 (.al 28 [.int .i64 0, .bool false, .int .i64 0, .int .i64 0, .int .i64 0, .int .i64 0]),
 kn (.st [] 6 (t 4) (t 18)),
 o 5 (.mv (t 19))])
 (.seq (.ops [o 20 (.ld true 6 (t 4)),
 kn (.st [] 6 (t 2) (t 20)),
 o 3 (.mv (i 0))])
 .ret))))⟩
theorem e39 : slimF Try.prog Try.f39 [] = some c39 := by kernel_rfl
/-- cellar/grow.Steps -/
def c40 : SF := ⟨20, [.t 2, .t 3], (.seq (.ops [o 2 (.mv (i 0)),
 o 3 (.mv (i 0))])
 (.seq (.seq (.ops [o 6 (.mv (t 0)),
 o 7 (.ln (t 6)),
 o 8 (.bin .eql (t 7) (i 0)),
 o 9 (.mv (t 8)),
 og 10 9 false (.mv (t 0)),
 ⟨some 11, some (9, false), .ca (.func 58) [(t 10)]⟩,
 og 12 9 false (.un .not (t 11)),
 o 13 (.pick (t 9) (b true) (t 12))])
 (.cond (t 13)
 (.seq (.ops [o 2 (.mv (i 0)),
 o 3 (.mv (i 1))])
 .ret)
 .skip))
 (.seq (.ops [o 15 (.mv (t 0)),
 k 16 (.ca (.func 62) [(t 15)]),
 o 14 (.mv (t 16)),
 o 17 (.ex (t 14) 0),
 o 18 (.ex (t 14) 1),
 k 4 (.al 28 [.int .i64 0, .bool false, .int .i64 0, .int .i64 0, .int .i64 0, .int .i64 0]),
 kn (.st [] 6 (t 4) (t 17)),
 o 5 (.mv (t 18))])
 (.seq (.ops [o 19 (.mv (t 5)),
 o 2 (.mv (t 19)),
 o 3 (.mv (i 0))])
 .ret))))⟩
theorem e40 : slimF Try.prog Try.f40 [] = some c40 := by kernel_rfl
/-- cellar/val.Join -/
def c41 : SF := ⟨14, [.c true 6 4, .t 5], (.seq (.ops [k 2 (.bx 28 (t 0)),
 k 3 (.bx 28 (t 1)),
 k 4 (.al 28 [.int .i64 0, .bool false, .int .i64 0, .int .i64 0, .int .i64 0, .int .i64 0]),
 o 5 (.mv (i 0))])
 (.seq (.seq (.ops [o 6 (.ld true 6 (t 2)),
 o 7 (.ld true 6 (t 3)),
 k 8 (.ca (.func 60) [(t 6), (t 7)]),
 o 9 (.un .not (t 8))])
 (.cond (t 9)
 (.seq (.ops [o 10 (.bd [.int .i64 0, .bool false, .int .i64 0, .int .i64 0, .int .i64 0, .int .i64 0] []),
 kn (.st [] 6 (t 4) (t 10)),
 o 5 (.mv (i 1))])
 .ret)
 .skip))
 (.seq (.ops [o 11 (.ld true 6 (t 2)),
 o 12 (.ld true 6 (t 3)),
 k 13 (.ca (.func 63) [(t 11), (t 12)]),
 kn (.st [] 6 (t 4) (t 13)),
 o 5 (.mv (i 0))])
 .ret)))⟩
theorem e41 : slimF Try.prog Try.f41 [] = some c41 := by kernel_rfl
/-- cellar/val.Meet -/
def c42 : SF := ⟨14, [.c true 6 4, .t 5], (.seq (.ops [k 2 (.bx 28 (t 0)),
 k 3 (.bx 28 (t 1)),
 k 4 (.al 28 [.int .i64 0, .bool false, .int .i64 0, .int .i64 0, .int .i64 0, .int .i64 0]),
 o 5 (.mv (i 0))])
 (.seq (.seq (.ops [o 6 (.ld true 6 (t 2)),
 o 7 (.ld true 6 (t 3)),
 k 8 (.ca (.func 60) [(t 6), (t 7)]),
 o 9 (.un .not (t 8))])
 (.cond (t 9)
 (.seq (.ops [o 10 (.bd [.int .i64 0, .bool false, .int .i64 0, .int .i64 0, .int .i64 0, .int .i64 0] []),
 kn (.st [] 6 (t 4) (t 10)),
 o 5 (.mv (i 1))])
 .ret)
 .skip))
 (.seq (.ops [o 11 (.ld true 6 (t 2)),
 o 12 (.ld true 6 (t 3)),
 k 13 (.ca (.func 64) [(t 11), (t 12)]),
 kn (.st [] 6 (t 4) (t 13)),
 o 5 (.mv (i 0))])
 .ret)))⟩
theorem e42 : slimF Try.prog Try.f42 [] = some c42 := by kernel_rfl
/-- cellar/cellarref1.Some -/
def c43 : SF := ⟨95, [.t 6], (.seq (.ops [k 3 (.bx 28 (t 0)),
 o 6 (.mv (.const (.slice none 0 0)))])
 (.seq (.ops [k 7 (.al 23 [.slice none 0 0])])
 (.seq (.ops [o 12 (.ld true 6 (t 3)),
 k 13 (.ca (.func 65) [(t 12), (t 7)]),
 k 8 (.al 74 [.int .i64 0, .bool false, .int .i64 0, .int .i64 0, .int .i64 0, .int .i64 0, .pointer none]),
 kn (.st [] 7 (t 8) (t 13))])
 (.seq (.seq (.ops [o 14 (.ld true 7 (t 8)),
 k 15 (.ca (.func 66) [(t 14), (i 0)]),
 o 16 (.un .not (t 15))])
 (.cond (t 16)
 (.seq (.ops [o 6 (.mv (.const (.slice none 0 0)))])
 .ret)
 .skip))
 (.seq (.seq (.ops [o 9 (.mv (i 0))])
 (.block 0 (.loop (.seq (.seq (.ops [o 17 (.mv (t 9)),
 o 18 (.mv (t 1)),
 o 19 (.bin .quo (t 18) (i 3)),
 o 20 (.bin .lss (t 17) (t 19))])
 (.cond (t 20)
 .skip
 (.exit 0)))
 (.seq (.block 1 (.seq (.opq [o 23 (.ld false 1 (t 7)),
 o 24 (.ln (t 23)),
 o 25 (.bin .gtr (t 24) (i 0)),
 o 26 (.mv (t 25)),
 og 27 26 true (.ld true 7 (t 8)),
 og 28 26 true (.ld false 1 (t 7)),
 og 29 26 true (.ld false 1 (t 7)),
 og 30 26 true (.ln (t 29)),
 og 31 26 true (.bin .sub (t 30) (i 1)),
 og 32 26 true (.ia 1 (t 28) (t 31)),
 og 33 26 true (.ld false 1 (t 32)),
 og 34 26 true (.bin .add (t 33) (i 1)),
 ⟨some 35, some (26, true), .ca (.func 66) [(t 27), (t 34)]⟩,
 og 36 26 true (.un .not (t 35)),
 o 37 (.pick (t 26) (t 36) (b false))])
 (.cond (t 37)
 (.seq (.ops [o 38 (.ld false 1 (t 7)),
 o 6 (.mv (t 38))])
 .ret)
 .skip)))
 (.ops [o 21 (.mv (t 9)),
 o 22 (.bin .add (t 21) (i 1)),
 o 9 (.mv (t 22))]))))))
 (.seq (.seq (.ops [o 10 (.mv (i 1))])
 (.block 2 (.loop (.seq (.seq (.ops [o 39 (.mv (t 10)),
 o 40 (.mv (t 1)),
 o 41 (.bin .quo (t 40) (i 2)),
 o 42 (.bin .lss (t 39) (t 41))])
 (.cond (t 42)
 .skip
 (.exit 2)))
 (.seq (.block 3 (.opd [o 45 (.ld true 7 (t 8)),
 o 46 (.mv (t 2)),
 o 47 (.bin .mul (t 46) (i 7919)),
 o 48 (.mv (t 10)),
 o 49 (.fa 0 (t 3)),
 o 50 (.ld false 1 (t 49)),
 o 51 (.bin .shl (i 1) (t 50)),
 o 52 (.mv (t 1)),
 o 53 (.bin .quo (t 52) (i 2)),
 o 54 (.bin .quo (t 51) (t 53)),
 o 55 (.bin .mul (t 48) (t 54)),
 o 56 (.bin .add (t 47) (t 55)),
 o 57 (.fa 0 (t 3)),
 o 58 (.ld false 1 (t 57)),
 k 59 (.ca (.func 33) [(t 56), (t 58)]),
 k 60 (.cq (.func 66) [(t 45), (t 59)])]))
 (.ops [o 43 (.mv (t 10)),
 o 44 (.bin .add (t 43) (i 1)),
 o 10 (.mv (t 44))]))))))
 (.seq (.ops [o 61 (.fa 0 (t 3)),
 o 62 (.ld false 1 (t 61)),
 o 63 (.bin .sub (t 62) (i 1)),
 o 64 (.bin .shl (i 1) (t 63)),
 o 11 (.mv (t 64))])
 (.seq (.ops [o 65 (.ld true 7 (t 8)),
 o 66 (.mv (t 11)),
 k 67 (.ca (.func 66) [(t 65), (t 66)])])
 (.seq (.opq [o 68 (.ld true 7 (t 8)),
 o 69 (.fa 0 (t 3)),
 o 70 (.ld false 1 (t 69)),
 o 71 (.bin .shl (i 1) (t 70)),
 o 72 (.bin .sub (t 71) (i 1)),
 k 73 (.ca (.func 66) [(t 68), (t 72)])])
 (.seq (.ops [o 74 (.ld true 7 (t 8)),
 o 75 (.fa 2 (t 3)),
 o 76 (.ld false 1 (t 75)),
 k 77 (.ca (.func 66) [(t 74), (t 76)])])
 (.seq (.seq (.ops [o 78 (.ld true 6 (t 3)),
 o 79 (.fa 3 (t 3)),
 o 80 (.ld false 1 (t 79)),
 k 81 (.ca (.func 23) [(t 78), (t 80)])])
 (.cond (t 81)
 (.ops [o 82 (.ld true 7 (t 8)),
 o 83 (.fa 3 (t 3)),
 o 84 (.ld false 1 (t 83)),
 k 85 (.ca (.func 66) [(t 82), (t 84)])])
 .skip))
 (.seq (.seq (.ops [o 86 (.ld true 6 (t 3)),
 o 87 (.mv (t 11)),
 o 88 (.bin .sub (t 87) (i 1)),
 k 89 (.ca (.func 23) [(t 86), (t 88)])])
 (.cond (t 89)
 (.ops [o 90 (.ld true 7 (t 8)),
 o 91 (.mv (t 11)),
 o 92 (.bin .sub (t 91) (i 1)),
 k 93 (.ca (.func 66) [(t 90), (t 92)])])
 .skip))
 (.seq (.ops [o 94 (.ld false 1 (t 7)),
 o 6 (.mv (t 94))])
 .ret)))))))))))))⟩
theorem e43 : slimF Try.prog Try.f43 [[(0, []), (1, []), (2, []), (3, []), (4, []), (5, []), (6, []), (7, []), (8, []), (9, []), (10, []), (11, []), (12, []), (13, []), (14, [])], [(0, []), (1, []), (2, []), (3, []), (4, []), (5, []), (6, []), (7, []), (8, []), (9, []), (10, []), (11, []), (12, []), (13, []), (14, []), (15, [0])], [(0, []), (1, []), (2, []), (3, []), (4, []), (5, [])]] = some c43 := by kernel_rfl
/-- cellar/word.IsWidth -/
def c44 : SF := ⟨13, [.t 2], (.seq (.ops [o 2 (.mv (b false))])
 (.seq (.ops [o 3 (.mv (t 0)),
 o 4 (.bin .eql (t 3) (i 8)),
 o 5 (.mv (t 4)),
 og 6 5 false (.mv (t 0)),
 og 7 5 false (.bin .eql (t 6) (i 16)),
 o 8 (.pick (t 5) (b true) (t 7)),
 o 9 (.mv (t 8)),
 og 10 9 false (.mv (t 0)),
 og 11 9 false (.bin .eql (t 10) (i 32)),
 o 12 (.pick (t 9) (b true) (t 11)),
 o 2 (.mv (t 12))])
 .ret))⟩
theorem e44 : slimF Try.prog Try.f44 [] = some c44 := by kernel_rfl
/-- cellar/val.Whole -/
def c45 : SF := ⟨9, [.c true 6 2], (.seq (.ops [k 2 (.al 28 [.int .i64 0, .bool false, .int .i64 0, .int .i64 0, .int .i64 0, .int .i64 0])])
 (.seq (.ops [o 3 (.mv (t 0)),
 o 4 (.mv (t 0)),
 k 5 (.ca (.func 67) [(t 4)]),
 o 6 (.mv (t 0)),
 k 7 (.ca (.func 67) [(t 6)]),
 o 8 (.bd [.int .i64 0, .bool false, .int .i64 0, .int .i64 0, .int .i64 0, .int .i64 0] [(0, 1, (t 3)), (3, 1, (t 5)), (4, 1, (t 7))]),
 kn (.st [] 6 (t 2) (t 8))])
 .ret))⟩
theorem e45 : slimF Try.prog Try.f45 [] = some c45 := by kernel_rfl
/-- cellar/val.Nothing -/
def c46 : SF := ⟨5, [.c true 6 2], (.seq (.ops [k 2 (.al 28 [.int .i64 0, .bool false, .int .i64 0, .int .i64 0, .int .i64 0, .int .i64 0])])
 (.seq (.ops [o 3 (.mv (t 0)),
 o 4 (.bd [.int .i64 0, .bool false, .int .i64 0, .int .i64 0, .int .i64 0, .int .i64 0] [(0, 1, (t 3)), (1, 1, (b true))]),
 kn (.st [] 6 (t 2) (t 4))])
 .ret))⟩
theorem e46 : slimF Try.prog Try.f46 [] = some c46 := by kernel_rfl
/-- cellar/cellarref1.match -/
def c47 : SF := ⟨73, [.t 4], (.seq (.ops [k 2 (.bx 28 (t 0)),
 o 4 (.mv (i 0))])
 (.seq (.seq (.ops [o 7 (.mv (t 1)),
 o 8 (.fa 4 (t 2)),
 o 9 (.ld false 1 (t 8)),
 o 10 (.bin .andNot (t 7) (t 9)),
 o 11 (.fa 5 (t 2)),
 o 12 (.ld false 1 (t 11)),
 o 13 (.bin .eql (t 10) (t 12))])
 (.cond (t 13)
 (.seq (.ops [o 14 (.mv (t 1)),
 o 4 (.mv (t 14))])
 .ret)
 .skip))
 (.seq (.seq (.ops [o 5 (.mv (i 0))])
 (.block 0 (.loop (.seq (.seq (.ops [o 15 (.mv (t 5)),
 o 16 (.fa 0 (t 2)),
 o 17 (.ld false 1 (t 16)),
 o 18 (.bin .lss (t 15) (t 17))])
 (.cond (t 18)
 .skip
 (.exit 0)))
 (.seq (.block 1 (.seq (.ops [o 21 (.mv (t 1)),
 o 22 (.fa 4 (t 2)),
 o 23 (.ld false 1 (t 22)),
 o 24 (.bin .andNot (t 21) (t 23)),
 o 25 (.fa 5 (t 2)),
 o 26 (.ld false 1 (t 25)),
 o 27 (.bin .xor (t 24) (t 26)),
 o 28 (.mv (t 5)),
 o 29 (.bin .add (t 28) (i 1)),
 o 30 (.bin .shr (t 27) (t 29)),
 o 6 (.mv (t 30))])
 (.seq (.ops [o 31 (.mv (t 6)),
 o 32 (.bin .eql (t 31) (i 0)),
 o 33 (.mv (t 32)),
 og 34 33 true (.mv (t 1)),
 og 35 33 true (.mv (t 5)),
 og 36 33 true (.bin .shr (t 34) (t 35)),
 og 37 33 true (.bin .and (t 36) (i 1)),
 og 38 33 true (.bin .eql (t 37) (i 0)),
 o 39 (.pick (t 33) (t 38) (b false)),
 o 40 (.mv (t 39)),
 og 41 40 true (.fa 4 (t 2)),
 og 42 40 true (.ld false 1 (t 41)),
 og 43 40 true (.mv (t 5)),
 og 44 40 true (.bin .shr (t 42) (t 43)),
 og 45 40 true (.bin .and (t 44) (i 1)),
 og 46 40 true (.bin .eql (t 45) (i 1)),
 og 47 40 true (.mv (t 46)),
 og 48 47 false (.fa 5 (t 2)),
 og 49 47 false (.ld false 1 (t 48)),
 og 50 47 false (.mv (t 5)),
 og 51 47 false (.bin .shr (t 49) (t 50)),
 og 52 47 false (.bin .and (t 51) (i 1)),
 og 53 47 false (.bin .eql (t 52) (i 1)),
 og 54 40 true (.pick (t 47) (b true) (t 53)),
 o 55 (.pick (t 40) (t 54) (b false))])
 (.cond (t 55)
 (.seq (.opq [o 56 (.mv (t 1)),
 o 57 (.mv (t 5)),
 o 58 (.bin .add (t 57) (i 1)),
 o 59 (.bin .shr (t 56) (t 58)),
 o 60 (.mv (t 5)),
 o 61 (.bin .add (t 60) (i 1)),
 o 62 (.bin .shl (t 59) (t 61)),
 o 63 (.mv (t 5)),
 o 64 (.bin .shl (i 1) (t 63)),
 o 65 (.bin .or (t 62) (t 64)),
 o 66 (.fa 5 (t 2)),
 o 67 (.ld false 1 (t 66)),
 o 68 (.mv (t 5)),
 o 69 (.bin .shl (i 1) (t 68)),
 o 70 (.bin .sub (t 69) (i 1)),
 o 71 (.bin .and (t 67) (t 70)),
 o 72 (.bin .or (t 65) (t 71)),
 o 4 (.mv (t 72))])
 .ret)
 .skip))))
 (.ops [o 19 (.mv (t 5)),
 o 20 (.bin .add (t 19) (i 1)),
 o 5 (.mv (t 20))]))))))
 (.seq (.ops [o 4 (.mv (i (-1)))])
 .ret))))⟩
theorem e47 : slimF Try.prog Try.f47 [[(0, []), (1, []), (2, []), (3, []), (4, []), (5, []), (6, []), (7, []), (8, []), (9, []), (10, []), (11, []), (12, []), (13, []), (14, []), (15, []), (16, []), (17, [])]] = some c47 := by kernel_rfl
/-- cellar/word.Is -/
def c48 : SF := ⟨13, [.t 4], (.seq (.ops [o 4 (.mv (b false))])
 (.seq (.ops [o 5 (.mv (t 0)),
 o 6 (.bin .geq (t 5) (i 0)),
 o 7 (.mv (t 6)),
 og 8 7 true (.mv (t 0)),
 og 9 7 true (.mv (t 1)),
 ⟨some 10, some (7, true), .ca (.func 67) [(t 9)]⟩,
 og 11 7 true (.bin .leq (t 8) (t 10)),
 o 12 (.pick (t 7) (t 11) (b false)),
 o 4 (.mv (t 12))])
 .ret))⟩
theorem e48 : slimF Try.prog Try.f48 [] = some c48 := by kernel_rfl
/-- cellar/val.Just -/
def c49 : SF := ⟨10, [.c true 6 4], (.seq (.ops [k 4 (.al 28 [.int .i64 0, .bool false, .int .i64 0, .int .i64 0, .int .i64 0, .int .i64 0])])
 (.seq (.ops [o 5 (.mv (t 0)),
 o 6 (.mv (t 1)),
 o 7 (.mv (t 1)),
 o 8 (.mv (t 1)),
 o 9 (.bd [.int .i64 0, .bool false, .int .i64 0, .int .i64 0, .int .i64 0, .int .i64 0] [(0, 1, (t 5)), (2, 1, (t 6)), (3, 1, (t 7)), (5, 1, (t 8))]),
 kn (.st [] 6 (t 4) (t 9))])
 .ret))⟩
theorem e49 : slimF Try.prog Try.f49 [] = some c49 := by kernel_rfl
/-- cellar/cellarref0.Num -/
def c50 : SF := ⟨12, [.t 4], (.seq (.ops [o 4 (.mv (b false))])
 (.seq (.ops [o 5 (.mv (t 0)),
 o 6 (.bin .geq (t 5) (i 0)),
 o 7 (.mv (t 6)),
 og 8 7 true (.mv (t 0)),
 og 9 7 true (.mv (t 1)),
 og 10 7 true (.bin .leq (t 8) (t 9)),
 o 11 (.pick (t 7) (t 10) (b false)),
 o 4 (.mv (t 11))])
 .ret))⟩
theorem e50 : slimF Try.prog Try.f50 [] = some c50 := by kernel_rfl
/-- cellar/cellarref0.Between -/
def c51 : SF := ⟨15, [.t 6], (.seq (.ops [o 6 (.mv (b false))])
 (.seq (.ops [o 7 (.mv (t 0)),
 o 8 (.mv (t 1)),
 o 9 (.bin .geq (t 7) (t 8)),
 o 10 (.mv (t 9)),
 og 11 10 true (.mv (t 0)),
 og 12 10 true (.mv (t 2)),
 og 13 10 true (.bin .leq (t 11) (t 12)),
 o 14 (.pick (t 10) (t 13) (b false)),
 o 6 (.mv (t 14))])
 .ret))⟩
theorem e51 : slimF Try.prog Try.f51 [] = some c51 := by kernel_rfl
/-- cellar/val.May -/
def c52 : SF := ⟨42, [.t 2], (.seq (.ops [k 1 (.bx 28 (t 0)),
 o 2 (.mv (b false))])
 (.seq (.seq (.ops [o 5 (.fa 0 (t 1)),
 o 6 (.ld false 1 (t 5)),
 k 7 (.ca (.func 44) [(t 6)]),
 o 8 (.un .not (t 7))])
 (.cond (t 8)
 (.seq (.ops [o 2 (.mv (b false))])
 .ret)
 .skip))
 (.seq (.seq (.ops [o 9 (.fa 1 (t 1)),
 o 10 (.ld false 1 (t 9))])
 (.cond (t 10)
 (.seq (.opd [o 11 (.ld true 6 (t 1)),
 o 12 (.fa 0 (t 1)),
 o 13 (.ld false 1 (t 12)),
 k 14 (.ca (.func 46) [(t 13)]),
 o 15 (.eqs (.st [(false, 0, 1, .i), (false, 1, 1, .b), (false, 2, 1, .i), (false, 3, 1, .i), (false, 4, 1, .i), (false, 5, 1, .i)]) false (t 11) (t 14)),
 o 2 (.mv (t 15))])
 .ret)
 .skip))
 (.seq (.seq (.ops [o 16 (.fa 2 (t 1)),
 o 17 (.ld false 1 (t 16)),
 o 18 (.fa 3 (t 1)),
 o 19 (.ld false 1 (t 18)),
 o 20 (.fa 4 (t 1)),
 o 21 (.ld false 1 (t 20)),
 o 22 (.fa 5 (t 1)),
 o 23 (.ld false 1 (t 22)),
 k 24 (.bs 3 4 [.int .i64 0, .int .i64 0, .int .i64 0, .int .i64 0] [(0, 1, (t 17)), (1, 1, (t 19)), (2, 1, (t 21)), (3, 1, (t 23))]),
 o 25 (.ln (t 24)),
 o 26 (.mv (i 0))])
 (.block 0 (.loop (.seq (.ops [o 27 (.bin .lss (t 26) (t 25))])
 (.seq (.cond (t 27)
 .skip
 (.exit 0))
 (.seq (.block 1 (.seq (.ops [o 28 (.ia 1 (t 24) (t 26)),
 o 29 (.ld false 1 (t 28)),
 o 4 (.mv (t 29))])
 (.seq (.ops [o 30 (.mv (t 4)),
 o 31 (.fa 0 (t 1)),
 o 32 (.ld false 1 (t 31)),
 k 33 (.ca (.func 48) [(t 30), (t 32)]),
 o 34 (.un .not (t 33))])
 (.cond (t 34)
 (.seq (.ops [o 2 (.mv (b false))])
 .ret)
 .skip))))
 (.ops [o 35 (.bin .add (t 26) (i 1)),
 o 26 (.mv (t 35))])))))))
 (.seq (.ops [o 36 (.fa 5 (t 1)),
 o 37 (.ld false 1 (t 36)),
 o 38 (.fa 4 (t 1)),
 o 39 (.ld false 1 (t 38)),
 o 40 (.bin .and (t 37) (t 39)),
 o 41 (.bin .eql (t 40) (i 0)),
 o 2 (.mv (t 41))])
 .ret)))))⟩
theorem e52 : slimF Try.prog Try.f52 [[(0, []), (1, []), (2, []), (3, []), (4, []), (5, [])]] = some c52 := by kernel_rfl
/-- cellar/val.Holds -/
def c53 : SF := ⟨22, [.t 4], (.seq (.ops [k 2 (.bx 28 (t 0)),
 o 4 (.mv (b false))])
 (.seq (.ops [o 5 (.fa 1 (t 2)),
 o 6 (.ld false 1 (t 5)),
 o 7 (.un .not (t 6)),
 o 8 (.mv (t 7)),
 og 9 8 true (.mv (t 1)),
 og 10 8 true (.fa 4 (t 2)),
 og 11 8 true (.ld false 1 (t 10)),
 og 12 8 true (.bin .andNot (t 9) (t 11)),
 og 13 8 true (.fa 5 (t 2)),
 og 14 8 true (.ld false 1 (t 13)),
 og 15 8 true (.bin .eql (t 12) (t 14)),
 o 16 (.pick (t 8) (t 15) (b false)),
 o 17 (.mv (t 16)),
 og 18 17 true (.ld true 6 (t 2)),
 og 19 17 true (.mv (t 1)),
 ⟨some 20, some (17, true), .ca (.func 68) [(t 18), (t 19)]⟩,
 o 21 (.pick (t 17) (t 20) (b false)),
 o 4 (.mv (t 21))])
 .ret))⟩
theorem e53 : slimF Try.prog Try.f53 [] = some c53 := by kernel_rfl
/-- cellar/val.From -/
def c54 : SF := ⟨44, [.t 4], (.seq (.ops [k 2 (.bx 28 (t 0)),
 o 4 (.mv (i 0))])
 (.seq (.seq (.ops [o 8 (.fa 1 (t 2)),
 o 9 (.ld false 1 (t 8)),
 o 10 (.mv (t 9)),
 og 11 10 false (.mv (t 1)),
 og 12 10 false (.fa 0 (t 2)),
 og 13 10 false (.ld false 1 (t 12)),
 ⟨some 14, some (10, false), .ca (.func 67) [(t 13)]⟩,
 og 15 10 false (.bin .gtr (t 11) (t 14)),
 o 16 (.pick (t 10) (b true) (t 15))])
 (.cond (t 16)
 (.seq (.ops [o 4 (.mv (i (-1)))])
 .ret)
 .skip))
 (.seq (.seq (.ops [o 17 (.ld true 6 (t 2)),
 k 18 (.ca (.func 69) [(t 17)]),
 o 19 (.ln (t 18)),
 o 20 (.mv (i 0))])
 (.block 0 (.loop (.seq (.ops [o 21 (.bin .lss (t 20) (t 19))])
 (.seq (.cond (t 21)
 .skip
 (.exit 0))
 (.seq (.block 1 (.seq (.ops [o 22 (.ia 2 (t 18) (t 20)),
 o 23 (.ld true 2 (t 22)),
 k 6 (.al 79 [.int .i64 0, .int .i64 0]),
 kn (.st [] 2 (t 6) (t 23))])
 (.seq (.seq (.ops [o 24 (.mv (t 1)),
 o 25 (.iaa 2 1 (t 6) (i 1)),
 o 26 (.ld false 1 (t 25)),
 o 27 (.bin .gtr (t 24) (t 26))])
 (.cond (t 27)
 (.exit 1)
 .skip))
 (.seq (.ops [o 28 (.ld true 6 (t 2)),
 o 29 (.mv (t 1)),
 o 30 (.iaa 2 1 (t 6) (i 0)),
 o 31 (.ld false 1 (t 30)),
 o 32 (.mx [(t 29), (t 31)]),
 k 33 (.ca (.func 70) [(t 28), (t 32)]),
 o 7 (.mv (t 33))])
 (.seq (.ops [o 34 (.mv (t 7)),
 o 35 (.bin .geq (t 34) (i 0)),
 o 36 (.mv (t 35)),
 og 37 36 true (.mv (t 7)),
 og 38 36 true (.iaa 2 1 (t 6) (i 1)),
 og 39 36 true (.ld false 1 (t 38)),
 og 40 36 true (.bin .leq (t 37) (t 39)),
 o 41 (.pick (t 36) (t 40) (b false))])
 (.cond (t 41)
 (.seq (.ops [o 42 (.mv (t 7)),
 o 4 (.mv (t 42))])
 .ret)
 .skip))))))
 (.ops [o 43 (.bin .add (t 20) (i 1)),
 o 20 (.mv (t 43))])))))))
 (.seq (.ops [o 4 (.mv (i (-1)))])
 .ret))))⟩
theorem e54 : slimF Try.prog Try.f54 [] = some c54 := by kernel_rfl
/-- cellar/val.Void -/
def c55 : SF := ⟨6, [.t 2], (.seq (.ops [k 1 (.bx 28 (t 0)),
 o 2 (.mv (b false))])
 (.seq (.ops [o 3 (.ld true 6 (t 1)),
 k 4 (.ca (.func 54) [(t 3), (i 0)]),
 o 5 (.bin .lss (t 4) (i 0)),
 o 2 (.mv (t 5))])
 .ret))⟩
theorem e55 : slimF Try.prog Try.f55 [] = some c55 := by kernel_rfl
/-- cellar/val.Lone -/
def c56 : SF := ⟨21, [.t 2, .t 3], (.seq (.ops [k 1 (.bx 28 (t 0)),
 o 2 (.mv (i 0)),
 o 3 (.mv (b false))])
 (.seq (.ops [o 7 (.ld true 6 (t 1)),
 k 8 (.ca (.func 71) [(t 7), (i 1)]),
 o 6 (.mv (t 8)),
 o 9 (.ex (t 6) 0),
 o 10 (.ex (t 6) 1),
 o 4 (.mv (t 9)),
 o 5 (.mv (t 10))])
 (.seq (.seq (.ops [o 11 (.mv (t 5)),
 o 12 (.un .not (t 11)),
 o 13 (.mv (t 12)),
 og 14 13 false (.mv (t 4)),
 og 15 13 false (.ln (t 14)),
 og 16 13 false (.bin .eql (t 15) (i 0)),
 o 17 (.pick (t 13) (b true) (t 16))])
 (.cond (t 17)
 (.seq (.ops [o 2 (.mv (i 0)),
 o 3 (.mv (b false))])
 .ret)
 .skip))
 (.seq (.ops [o 18 (.mv (t 4)),
 o 19 (.ia 1 (t 18) (i 0)),
 o 20 (.ld false 1 (t 19)),
 o 2 (.mv (t 20)),
 o 3 (.mv (b true))])
 .ret))))⟩
theorem e56 : slimF Try.prog Try.f56 [] = some c56 := by kernel_rfl
/-- cellar/cellarlaw0.Texts -/
def c57 : SF := ⟨25, [.t 2], (.seq (.ops [o 2 (.mv (i 0))])
 (.seq (.ops [o 5 (.mv (t 0)),
 o 6 (.ln (t 5)),
 o 3 (.mv (t 6))])
 (.seq (.seq (.ops [o 4 (.mv (i 0))])
 (.block 0 (.loop (.seq (.seq (.ops [o 7 (.mv (t 4)),
 o 8 (.mv (t 0)),
 o 9 (.ln (t 8)),
 o 10 (.bin .lss (t 7) (t 9)),
 o 11 (.mv (t 10)),
 og 12 11 true (.mv (t 3)),
 og 13 11 true (.bin .lss (t 12) (i 1048576)),
 o 14 (.pick (t 11) (t 13) (b false))])
 (.cond (t 14)
 .skip
 (.exit 0)))
 (.seq (.block 1 (.ops [o 17 (.mv (t 3)),
 o 18 (.mv (t 0)),
 o 19 (.mv (t 4)),
 o 20 (.ia 1 (t 18) (t 19)),
 o 21 (.ld false 1 (t 20)),
 o 22 (.ls (t 21)),
 o 23 (.bin .add (t 17) (t 22)),
 o 3 (.mv (t 23))]))
 (.ops [o 15 (.mv (t 4)),
 o 16 (.bin .add (t 15) (i 1)),
 o 4 (.mv (t 16))]))))))
 (.seq (.ops [o 24 (.mv (t 3)),
 o 2 (.mv (t 24))])
 .ret))))⟩
theorem e57 : slimF Try.prog Try.f57 [] = some c57 := by kernel_rfl
/-- cellar/grow.asked -/
def c58 : SF := ⟨7, [.t 2], (.seq (.ops [k 1 (.bx 22 (t 0)),
 o 2 (.mv (b false))])
 (.seq (.ops [o 3 (.ld false 1 (t 1)),
 o 4 (.mf (.func 73) [] [(t 1)]),
 k 5 (.ca (.func 72) [(t 3), (t 4)]),
 o 6 (.un .not (t 5)),
 o 2 (.mv (t 6))])
 .ret))⟩
theorem e58 : slimF Try.prog Try.f58 [] = some c58 := by kernel_rfl
/-- cellar/grow.Out -/
def c59 : SF := ⟨37, [.c true 6 4], (.seq (.ops [k 2 (.bx 28 (t 0)),
 k 3 (.bx 28 (t 1)),
 k 4 (.al 28 [.int .i64 0, .bool false, .int .i64 0, .int .i64 0, .int .i64 0, .int .i64 0])])
 (.seq (.block 0 (.seq (.ops [o 8 (.ld true 6 (t 3)),
 o 9 (.ld true 6 (t 2)),
 k 10 (.ca (.func 61) [(t 8), (t 9)]),
 o 7 (.mv (t 10))])
 (.cond (t 7)
 (.seq (.ops [o 11 (.ld true 6 (t 2)),
 kn (.st [] 6 (t 4) (t 11))])
 .ret)
 (.seq (.ops [o 13 (.ld true 6 (t 2)),
 k 14 (.ca (.func 55) [(t 13)]),
 o 12 (.mv (t 14))])
 (.cond (t 12)
 (.seq (.ops [o 15 (.ld true 6 (t 3)),
 kn (.st [] 6 (t 4) (t 15))])
 .ret)
 .skip)))))
 (.seq (.seq (.ops [o 16 (.fa 0 (t 2)),
 o 17 (.ld false 1 (t 16)),
 k 18 (.ca (.func 74) [(t 17)]),
 o 19 (.ln (t 18)),
 o 20 (.mv (i 0))])
 (.block 1 (.loop (.seq (.ops [o 21 (.bin .lss (t 20) (t 19))])
 (.seq (.cond (t 21)
 .skip
 (.exit 1))
 (.seq (.block 2 (.seq (.ops [o 22 (.ia 6 (t 18) (t 20)),
 o 23 (.ld true 6 (t 22)),
 k 6 (.al 28 [.int .i64 0, .bool false, .int .i64 0, .int .i64 0, .int .i64 0, .int .i64 0]),
 kn (.st [] 6 (t 6) (t 23))])
 (.seq (.ops [o 24 (.ld true 6 (t 2)),
 o 25 (.ld true 6 (t 6)),
 k 26 (.ca (.func 61) [(t 24), (t 25)]),
 o 27 (.mv (t 26)),
 og 28 27 true (.ld true 6 (t 3)),
 og 29 27 true (.ld true 6 (t 6)),
 ⟨some 30, some (27, true), .ca (.func 61) [(t 28), (t 29)]⟩,
 o 31 (.pick (t 27) (t 30) (b false))])
 (.cond (t 31)
 (.seq (.ops [o 32 (.ld true 6 (t 6)),
 kn (.st [] 6 (t 4) (t 32))])
 .ret)
 .skip))))
 (.ops [o 33 (.bin .add (t 20) (i 1)),
 o 20 (.mv (t 33))])))))))
 (.seq (.ops [o 34 (.fa 0 (t 2)),
 o 35 (.ld false 1 (t 34)),
 k 36 (.ca (.func 45) [(t 35)]),
 kn (.st [] 6 (t 4) (t 36))])
 .ret))))⟩
theorem e59 : slimF Try.prog Try.f59 [] = some c59 := by kernel_rfl
/-- cellar/val.pair -/
def c60 : SF := ⟨18, [.t 4], (.seq (.ops [k 2 (.bx 28 (t 0)),
 k 3 (.bx 28 (t 1)),
 o 4 (.mv (b false))])
 (.seq (.ops [o 5 (.ld true 6 (t 2)),
 k 6 (.ca (.func 52) [(t 5)]),
 o 7 (.mv (t 6)),
 og 8 7 true (.ld true 6 (t 3)),
 ⟨some 9, some (7, true), .ca (.func 52) [(t 8)]⟩,
 o 10 (.pick (t 7) (t 9) (b false)),
 o 11 (.mv (t 10)),
 og 12 11 true (.fa 0 (t 2)),
 og 13 11 true (.ld false 1 (t 12)),
 og 14 11 true (.fa 0 (t 3)),
 og 15 11 true (.ld false 1 (t 14)),
 og 16 11 true (.bin .eql (t 13) (t 15)),
 o 17 (.pick (t 11) (t 16) (b false)),
 o 4 (.mv (t 17))])
 .ret))⟩
theorem e60 : slimF Try.prog Try.f60 [] = some c60 := by kernel_rfl
/-- cellar/val.Under -/
def c61 : SF := ⟨62, [.t 4], (.seq (.ops [k 2 (.bx 28 (t 0)),
 k 3 (.bx 28 (t 1)),
 o 4 (.mv (b false))])
 (.seq (.seq (.opd [o 9 (.ld true 6 (t 2)),
 o 10 (.ld true 6 (t 3)),
 o 11 (.eqs (.st [(false, 0, 1, .i), (false, 1, 1, .b), (false, 2, 1, .i), (false, 3, 1, .i), (false, 4, 1, .i), (false, 5, 1, .i)]) false (t 9) (t 10)),
 o 12 (.mv (t 11)),
 og 13 12 false (.ld true 6 (t 3)),
 og 14 12 false (.fa 0 (t 3)),
 og 15 12 false (.ld false 1 (t 14)),
 ⟨some 16, some (12, false), .ca (.func 45) [(t 15)]⟩,
 og 17 12 false (.eqs (.st [(false, 0, 1, .i), (false, 1, 1, .b), (false, 2, 1, .i), (false, 3, 1, .i), (false, 4, 1, .i), (false, 5, 1, .i)]) false (t 13) (t 16)),
 o 18 (.pick (t 12) (b true) (t 17))])
 (.cond (t 18)
 (.seq (.ops [o 4 (.mv (b true))])
 .ret)
 .skip))
 (.seq (.seq (.ops [o 20 (.ld true 6 (t 2)),
 k 21 (.ca (.func 71) [(t 20), (i 16)]),
 o 19 (.mv (t 21)),
 o 22 (.ex (t 19) 0),
 o 23 (.ex (t 19) 1),
 o 5 (.mv (t 22)),
 o 6 (.mv (t 23))])
 (.seq (.ops [o 24 (.mv (t 6))])
 (.cond (t 24)
 (.seq (.seq (.ops [o 25 (.mv (t 5)),
 o 26 (.ln (t 25)),
 o 27 (.mv (i 0))])
 (.block 0 (.loop (.seq (.ops [o 28 (.bin .lss (t 27) (t 26))])
 (.seq (.cond (t 28)
 .skip
 (.exit 0))
 (.seq (.block 1 (.seq (.ops [o 29 (.ia 1 (t 25) (t 27)),
 o 30 (.ld false 1 (t 29)),
 o 8 (.mv (t 30))])
 (.seq (.ops [o 31 (.ld true 6 (t 3)),
 o 32 (.mv (t 8)),
 k 33 (.ca (.func 53) [(t 31), (t 32)]),
 o 34 (.un .not (t 33))])
 (.cond (t 34)
 (.seq (.ops [o 4 (.mv (b false))])
 .ret)
 .skip))))
 (.ops [o 35 (.bin .add (t 27) (i 1)),
 o 27 (.mv (t 35))])))))))
 (.seq (.ops [o 4 (.mv (b true))])
 .ret))
 .skip)))
 (.seq (.ops [o 36 (.fa 1 (t 3)),
 o 37 (.ld false 1 (t 36)),
 o 38 (.un .not (t 37)),
 o 39 (.mv (t 38)),
 og 40 39 true (.ld true 6 (t 2)),
 og 41 39 true (.ld true 6 (t 3)),
 ⟨some 42, some (39, true), .ca (.func 75) [(t 40), (t 41)]⟩,
 o 43 (.pick (t 39) (t 42) (b false)),
 o 44 (.mv (t 43)),
 og 45 44 true (.fa 4 (t 2)),
 og 46 44 true (.ld false 1 (t 45)),
 og 47 44 true (.fa 4 (t 3)),
 og 48 44 true (.ld false 1 (t 47)),
 og 49 44 true (.bin .andNot (t 46) (t 48)),
 og 50 44 true (.bin .eql (t 49) (i 0)),
 o 51 (.pick (t 44) (t 50) (b false)),
 o 52 (.mv (t 51)),
 og 53 52 true (.fa 5 (t 2)),
 og 54 52 true (.ld false 1 (t 53)),
 og 55 52 true (.fa 4 (t 3)),
 og 56 52 true (.ld false 1 (t 55)),
 og 57 52 true (.bin .andNot (t 54) (t 56)),
 og 58 52 true (.fa 5 (t 3)),
 og 59 52 true (.ld false 1 (t 58)),
 og 60 52 true (.bin .eql (t 57) (t 59)),
 o 61 (.pick (t 52) (t 60) (b false)),
 o 4 (.mv (t 61))])
 .ret))))⟩
theorem e61 : slimF Try.prog Try.f61 [[(0, []), (1, []), (2, []), (3, []), (4, []), (5, []), (6, []), (7, []), (8, []), (9, [])]] = some c61 := by kernel_rfl
/-- cellar/grow.row -/
def c62 : SF := ⟨31, [.c true 6 2, .t 3], (.seq (.ops [k 2 (.al 28 [.int .i64 0, .bool false, .int .i64 0, .int .i64 0, .int .i64 0, .int .i64 0]),
 o 3 (.mv (i 0))])
 (.seq (.ops [o 9 (.mv (t 0)),
 o 10 (.ia 6 (t 9) (i 0)),
 o 11 (.ld true 6 (t 10)),
 k 4 (.al 28 [.int .i64 0, .bool false, .int .i64 0, .int .i64 0, .int .i64 0, .int .i64 0]),
 kn (.st [] 6 (t 4) (t 11)),
 o 5 (.mv (i 0))])
 (.seq (.seq (.ops [o 12 (.mv (t 0)),
 o 13 (.sl 6 (t 12) (some (i 1)) none),
 o 14 (.ln (t 13)),
 o 15 (.mv (i 0))])
 (.block 0 (.loop (.seq (.ops [o 16 (.bin .lss (t 15) (t 14))])
 (.seq (.cond (t 16)
 .skip
 (.exit 0))
 (.seq (.block 1 (.seq (.ops [o 17 (.ia 6 (t 13) (t 15)),
 o 18 (.ld true 6 (t 17)),
 k 7 (.al 28 [.int .i64 0, .bool false, .int .i64 0, .int .i64 0, .int .i64 0, .int .i64 0]),
 kn (.st [] 6 (t 7) (t 18))])
 (.seq (.ops [o 19 (.ld true 6 (t 4)),
 o 20 (.ld true 6 (t 7)),
 k 21 (.ca (.func 59) [(t 19), (t 20)]),
 k 8 (.al 28 [.int .i64 0, .bool false, .int .i64 0, .int .i64 0, .int .i64 0, .int .i64 0]),
 kn (.st [] 6 (t 8) (t 21))])
 (.seq (.seq (.ops [o 22 (.ld true 6 (t 8)),
 o 23 (.ld true 6 (t 4)),
 o 24 (.eqs (.st [(false, 0, 1, .i), (false, 1, 1, .b), (false, 2, 1, .i), (false, 3, 1, .i), (false, 4, 1, .i), (false, 5, 1, .i)]) true (t 22) (t 23))])
 (.cond (t 24)
 (.ops [o 25 (.mv (t 5)),
 o 26 (.bin .add (t 25) (i 1)),
 o 5 (.mv (t 26))])
 .skip))
 (.ops [o 27 (.ld true 6 (t 8)),
 kn (.st [] 6 (t 4) (t 27))])))))
 (.ops [o 28 (.bin .add (t 15) (i 1)),
 o 15 (.mv (t 28))])))))))
 (.seq (.ops [o 29 (.ld true 6 (t 4)),
 o 30 (.mv (t 5)),
 kn (.st [] 6 (t 2) (t 29)),
 o 3 (.mv (t 30))])
 .ret))))⟩
theorem e62 : slimF Try.prog Try.f62 [] = some c62 := by kernel_rfl
/-- cellar/val.Both -/
def c63 : SF := ⟨55, [.c true 6 4], (.seq (.ops [k 2 (.bx 28 (t 0)),
 k 3 (.bx 28 (t 1)),
 k 4 (.al 28 [.int .i64 0, .bool false, .int .i64 0, .int .i64 0, .int .i64 0, .int .i64 0])])
 (.seq (.block 0 (.seq (.ops [o 9 (.ld true 6 (t 2)),
 k 10 (.ca (.func 55) [(t 9)]),
 o 8 (.mv (t 10))])
 (.cond (t 8)
 (.seq (.ops [o 11 (.ld true 6 (t 3)),
 k 12 (.ca (.func 76) [(t 11)]),
 kn (.st [] 6 (t 4) (t 12))])
 .ret)
 (.seq (.ops [o 14 (.ld true 6 (t 3)),
 k 15 (.ca (.func 55) [(t 14)]),
 o 13 (.mv (t 15))])
 (.cond (t 13)
 (.seq (.ops [o 16 (.ld true 6 (t 2)),
 k 17 (.ca (.func 76) [(t 16)]),
 kn (.st [] 6 (t 4) (t 17))])
 .ret)
 (.seq (.ops [o 19 (.ld true 6 (t 2)),
 o 20 (.ld true 6 (t 3)),
 o 21 (.eqs (.st [(false, 0, 1, .i), (false, 1, 1, .b), (false, 2, 1, .i), (false, 3, 1, .i), (false, 4, 1, .i), (false, 5, 1, .i)]) false (t 19) (t 20)),
 o 18 (.mv (t 21))])
 (.cond (t 18)
 (.seq (.ops [o 22 (.ld true 6 (t 2)),
 kn (.st [] 6 (t 4) (t 22))])
 .ret)
 .skip)))))))
 (.seq (.opd [o 23 (.ld true 6 (t 2)),
 o 25 (.ld true 6 (t 3)),
 k 24 (.ca (.func 76) [(t 23)]),
 k 26 (.ca (.func 76) [(t 25)]),
 kn (.st [] 6 (t 2) (t 24)),
 kn (.st [] 6 (t 3) (t 26))])
 (.seq (.ops [o 28 (.ld true 6 (t 2)),
 o 29 (.ld true 6 (t 3)),
 k 30 (.ca (.func 77) [(t 28), (t 29)]),
 o 27 (.mv (t 30)),
 o 31 (.ex (t 27) 0),
 o 32 (.ex (t 27) 1),
 o 5 (.mv (t 31)),
 o 6 (.mv (t 32))])
 (.seq (.ops [o 33 (.fa 4 (t 2)),
 o 34 (.ld false 1 (t 33)),
 o 35 (.fa 4 (t 3)),
 o 36 (.ld false 1 (t 35)),
 o 37 (.bin .or (t 34) (t 36)),
 o 38 (.fa 5 (t 2)),
 o 39 (.ld false 1 (t 38)),
 o 40 (.fa 5 (t 3)),
 o 41 (.ld false 1 (t 40)),
 o 42 (.bin .xor (t 39) (t 41)),
 o 43 (.bin .or (t 37) (t 42)),
 o 7 (.mv (t 43))])
 (.seq (.ops [o 44 (.fa 0 (t 2)),
 o 45 (.ld false 1 (t 44)),
 o 46 (.mv (t 5)),
 o 47 (.mv (t 6)),
 o 48 (.mv (t 7)),
 o 49 (.fa 5 (t 2)),
 o 50 (.ld false 1 (t 49)),
 o 51 (.mv (t 7)),
 o 52 (.bin .andNot (t 50) (t 51)),
 o 53 (.bd [.int .i64 0, .bool false, .int .i64 0, .int .i64 0, .int .i64 0, .int .i64 0] [(0, 1, (t 45)), (2, 1, (t 46)), (3, 1, (t 47)), (4, 1, (t 48)), (5, 1, (t 52))]),
 k 54 (.ca (.func 76) [(t 53)]),
 kn (.st [] 6 (t 4) (t 54))])
 .ret))))))⟩
theorem e63 : slimF Try.prog Try.f63 [[(0, []), (2, []), (1, []), (3, []), (4, []), (5, [])]] = some c63 := by kernel_rfl
/-- cellar/val.Cross -/
def c64 : SF := ⟨63, [.c true 6 4], (.seq (.ops [k 2 (.bx 28 (t 0)),
 k 3 (.bx 28 (t 1)),
 k 4 (.al 28 [.int .i64 0, .bool false, .int .i64 0, .int .i64 0, .int .i64 0, .int .i64 0])])
 (.seq (.opd [o 8 (.ld true 6 (t 2)),
 o 10 (.ld true 6 (t 3)),
 k 9 (.ca (.func 76) [(t 8)]),
 k 11 (.ca (.func 76) [(t 10)]),
 kn (.st [] 6 (t 2) (t 9)),
 kn (.st [] 6 (t 3) (t 11))])
 (.seq (.seq (.ops [o 12 (.fa 1 (t 2)),
 o 13 (.ld false 1 (t 12)),
 o 14 (.mv (t 13)),
 og 15 14 false (.fa 1 (t 3)),
 og 16 14 false (.ld false 1 (t 15)),
 o 17 (.pick (t 14) (b true) (t 16)),
 o 18 (.mv (t 17)),
 og 19 18 false (.fa 5 (t 2)),
 og 20 18 false (.ld false 1 (t 19)),
 og 21 18 false (.fa 5 (t 3)),
 og 22 18 false (.ld false 1 (t 21)),
 og 23 18 false (.bin .xor (t 20) (t 22)),
 og 24 18 false (.fa 4 (t 2)),
 og 25 18 false (.ld false 1 (t 24)),
 og 26 18 false (.fa 4 (t 3)),
 og 27 18 false (.ld false 1 (t 26)),
 og 28 18 false (.bin .or (t 25) (t 27)),
 og 29 18 false (.bin .andNot (t 23) (t 28)),
 og 30 18 false (.bin .neq (t 29) (i 0)),
 o 31 (.pick (t 18) (b true) (t 30))])
 (.cond (t 31)
 (.seq (.ops [o 32 (.fa 0 (t 2)),
 o 33 (.ld false 1 (t 32)),
 k 34 (.ca (.func 46) [(t 33)]),
 kn (.st [] 6 (t 4) (t 34))])
 .ret)
 .skip))
 (.seq (.ops [o 36 (.ld true 6 (t 2)),
 o 37 (.ld true 6 (t 3)),
 k 38 (.ca (.func 78) [(t 36), (t 37)]),
 o 35 (.mv (t 38)),
 o 39 (.ex (t 35) 0),
 o 40 (.ex (t 35) 1),
 o 41 (.ex (t 35) 2),
 o 5 (.mv (t 39)),
 o 6 (.mv (t 40)),
 o 7 (.mv (t 41))])
 (.seq (.seq (.ops [o 42 (.mv (t 7)),
 o 43 (.un .not (t 42))])
 (.cond (t 43)
 (.seq (.ops [o 44 (.fa 0 (t 2)),
 o 45 (.ld false 1 (t 44)),
 k 46 (.ca (.func 46) [(t 45)]),
 kn (.st [] 6 (t 4) (t 46))])
 .ret)
 .skip))
 (.seq (.ops [o 47 (.fa 0 (t 2)),
 o 48 (.ld false 1 (t 47)),
 o 49 (.mv (t 5)),
 o 50 (.mv (t 6)),
 o 51 (.fa 4 (t 2)),
 o 52 (.ld false 1 (t 51)),
 o 53 (.fa 4 (t 3)),
 o 54 (.ld false 1 (t 53)),
 o 55 (.bin .and (t 52) (t 54)),
 o 56 (.fa 5 (t 2)),
 o 57 (.ld false 1 (t 56)),
 o 58 (.fa 5 (t 3)),
 o 59 (.ld false 1 (t 58)),
 o 60 (.bin .or (t 57) (t 59)),
 o 61 (.bd [.int .i64 0, .bool false, .int .i64 0, .int .i64 0, .int .i64 0, .int .i64 0] [(0, 1, (t 48)), (2, 1, (t 49)), (3, 1, (t 50)), (4, 1, (t 55)), (5, 1, (t 60))]),
 k 62 (.ca (.func 76) [(t 61)]),
 kn (.st [] 6 (t 4) (t 62))])
 .ret))))))⟩
theorem e64 : slimF Try.prog Try.f64 [[(0, []), (2, []), (1, []), (3, []), (4, []), (5, [])]] = some c64 := by kernel_rfl
/-- cellar/cellarref1.gather -/
def c65 : SF := ⟨8, [.c true 7 4], (.seq (.ops [k 2 (.bx 28 (t 0)),
 k 4 (.al 74 [.int .i64 0, .bool false, .int .i64 0, .int .i64 0, .int .i64 0, .int .i64 0, .pointer none])])
 (.seq (.ops [o 5 (.ld true 6 (t 2)),
 o 6 (.mv (t 1)),
 o 7 (.bd [.int .i64 0, .bool false, .int .i64 0, .int .i64 0, .int .i64 0, .int .i64 0, .pointer none] [(0, 6, (t 5)), (6, 1, (t 6))]),
 kn (.st [] 7 (t 4) (t 7))])
 .ret))⟩
theorem e65 : slimF Try.prog Try.f65 [] = some c65 := by kernel_rfl
/-- (cellar/cellarref1.adder).next -/
def c66 : SF := ⟨29, [.t 4], (.seq (.ops [k 2 (.bx 74 (t 0)),
 o 4 (.mv (b false))])
 (.seq (.ops [o 6 (.fa 0 (t 2)),
 o 7 (.ld true 6 (t 6)),
 o 8 (.mv (t 1)),
 k 9 (.ca (.func 19) [(t 7), (t 8)]),
 o 5 (.mv (t 9))])
 (.seq (.seq (.ops [o 10 (.mv (t 5)),
 o 11 (.bin .lss (t 10) (i 0))])
 (.cond (t 11)
 (.seq (.ops [o 4 (.mv (b false))])
 .ret)
 .skip))
 (.seq (.seq (.ops [o 12 (.fa 6 (t 2)),
 o 13 (.ld false 1 (t 12)),
 o 14 (.nc (t 13)),
 o 15 (.ld false 1 (t 14)),
 o 16 (.mv (t 5)),
 k 17 (.ca (.func 79) [(t 15), (t 16)]),
 o 18 (.bin .lss (t 17) (i 0))])
 (.cond (t 18)
 (.opq [o 19 (.fa 6 (t 2)),
 o 20 (.ld false 1 (t 19)),
 o 21 (.fa 6 (t 2)),
 o 22 (.ld false 1 (t 21)),
 o 23 (.nc (t 22)),
 o 24 (.ld false 1 (t 23)),
 o 25 (.mv (t 5)),
 k 26 (.bs 3 1 [.int .i64 0] [(0, 1, (t 25))]),
 k 27 (.ap 3 1 8 (t 24) (t 26)),
 o 28 (.nc (t 20)),
 kn (.st [] 1 (t 28) (t 27))])
 .skip))
 (.seq (.ops [o 4 (.mv (b true))])
 .ret)))))⟩
theorem e66 : slimF Try.prog Try.f66 [[(0, []), (1, []), (2, []), (3, []), (4, []), (5, []), (6, []), (7, []), (8, []), (9, []), (10, [])]] = some c66 := by kernel_rfl
/-- cellar/word.Most -/
def c67 : SF := ⟨6, [.t 2], (.seq (.ops [o 2 (.mv (i 0))])
 (.seq (.ops [o 3 (.mv (t 0)),
 o 4 (.bin .shl (i 1) (t 3)),
 o 5 (.bin .sub (t 4) (i 1)),
 o 2 (.mv (t 5))])
 .ret))⟩
theorem e67 : slimF Try.prog Try.f67 [] = some c67 := by kernel_rfl
/-- cellar/val.within -/
def c68 : SF := ⟨30, [.t 4], (.seq (.ops [k 2 (.bx 28 (t 0)),
 o 4 (.mv (b false))])
 (.seq (.seq (.ops [o 5 (.fa 2 (t 2)),
 o 6 (.ld false 1 (t 5)),
 o 7 (.fa 3 (t 2)),
 o 8 (.ld false 1 (t 7)),
 o 9 (.bin .leq (t 6) (t 8))])
 (.cond (t 9)
 (.seq (.ops [o 10 (.mv (t 1)),
 o 11 (.fa 2 (t 2)),
 o 12 (.ld false 1 (t 11)),
 o 13 (.bin .geq (t 10) (t 12)),
 o 14 (.mv (t 13)),
 og 15 14 true (.mv (t 1)),
 og 16 14 true (.fa 3 (t 2)),
 og 17 14 true (.ld false 1 (t 16)),
 og 18 14 true (.bin .leq (t 15) (t 17)),
 o 19 (.pick (t 14) (t 18) (b false)),
 o 4 (.mv (t 19))])
 .ret)
 .skip))
 (.seq (.ops [o 20 (.mv (t 1)),
 o 21 (.fa 2 (t 2)),
 o 22 (.ld false 1 (t 21)),
 o 23 (.bin .geq (t 20) (t 22)),
 o 24 (.mv (t 23)),
 og 25 24 false (.mv (t 1)),
 og 26 24 false (.fa 3 (t 2)),
 og 27 24 false (.ld false 1 (t 26)),
 og 28 24 false (.bin .leq (t 25) (t 27)),
 o 29 (.pick (t 24) (b true) (t 28)),
 o 4 (.mv (t 29))])
 .ret)))⟩
theorem e68 : slimF Try.prog Try.f68 [] = some c68 := by kernel_rfl
/-- cellar/val.parts -/
def c69 : SF := ⟨24, [.t 2], (.seq (.ops [k 1 (.bx 28 (t 0)),
 o 2 (.mv (.const (.slice none 0 0)))])
 (.seq (.seq (.ops [o 3 (.fa 2 (t 1)),
 o 4 (.ld false 1 (t 3)),
 o 5 (.fa 3 (t 1)),
 o 6 (.ld false 1 (t 5)),
 o 7 (.bin .leq (t 4) (t 6))])
 (.cond (t 7)
 (.seq (.ops [o 8 (.fa 2 (t 1)),
 o 9 (.ld false 1 (t 8)),
 o 10 (.fa 3 (t 1)),
 o 11 (.ld false 1 (t 10)),
 o 12 (.bd [.int .i64 0, .int .i64 0] [(0, 1, (t 9)), (1, 1, (t 11))]),
 k 13 (.bs 79 1 [.int .i64 0, .int .i64 0] [(0, 2, (t 12))]),
 o 2 (.mv (t 13))])
 .ret)
 .skip))
 (.seq (.opd [o 14 (.fa 3 (t 1)),
 o 15 (.ld false 1 (t 14)),
 o 16 (.bd [.int .i64 0, .int .i64 0] [(0, 1, (i 0)), (1, 1, (t 15))]),
 o 17 (.fa 2 (t 1)),
 o 18 (.ld false 1 (t 17)),
 o 19 (.fa 0 (t 1)),
 o 20 (.ld false 1 (t 19)),
 k 21 (.ca (.func 67) [(t 20)]),
 o 22 (.bd [.int .i64 0, .int .i64 0] [(0, 1, (t 18)), (1, 1, (t 21))]),
 k 23 (.bs 79 2 [.int .i64 0, .int .i64 0, .int .i64 0, .int .i64 0] [(0, 2, (t 16)), (2, 2, (t 22))]),
 o 2 (.mv (t 23))])
 .ret)))⟩
theorem e69 : slimF Try.prog Try.f69 [[(0, []), (1, []), (2, []), (3, []), (4, []), (5, []), (6, []), (7, []), (8, []), (9, []), (10, [])]] = some c69 := by kernel_rfl
/-- cellar/val.fill -/
def c70 : SF := ⟨54, [.t 4], (.seq (.ops [k 2 (.bx 28 (t 0)),
 o 4 (.mv (i 0))])
 (.seq (.seq (.ops [o 8 (.mv (t 1)),
 o 9 (.fa 4 (t 2)),
 o 10 (.ld false 1 (t 9)),
 o 11 (.bin .andNot (t 8) (t 10)),
 o 12 (.fa 5 (t 2)),
 o 13 (.ld false 1 (t 12)),
 o 14 (.bin .eql (t 11) (t 13))])
 (.cond (t 14)
 (.seq (.ops [o 15 (.mv (t 1)),
 o 4 (.mv (t 15))])
 .ret)
 .skip))
 (.seq (.seq (.ops [o 16 (.fa 0 (t 2)),
 o 17 (.ld false 1 (t 16)),
 o 18 (.mv (i 0))])
 (.block 0 (.loop (.seq (.ops [o 19 (.bin .lss (t 18) (t 17))])
 (.seq (.cond (t 19)
 .skip
 (.exit 0))
 (.seq (.block 1 (.seq (.ops [o 20 (.mv (t 18)),
 o 5 (.mv (t 20))])
 (.seq (.ops [o 21 (.mv (t 5)),
 o 22 (.bin .shl (i 1) (t 21)),
 o 6 (.mv (t 22))])
 (.seq (.seq (.ops [o 23 (.mv (t 1)),
 o 24 (.mv (t 6)),
 o 25 (.bin .and (t 23) (t 24)),
 o 26 (.bin .neq (t 25) (i 0))])
 (.cond (t 26)
 (.exit 1)
 .skip))
 (.seq (.ops [o 27 (.mv (t 1)),
 o 28 (.mv (t 6)),
 o 29 (.bin .sub (t 28) (i 1)),
 o 30 (.bin .andNot (t 27) (t 29)),
 o 31 (.mv (t 6)),
 o 32 (.bin .or (t 30) (t 31)),
 o 7 (.mv (t 32))])
 (.seq (.ops [o 33 (.mv (t 7)),
 o 34 (.fa 4 (t 2)),
 o 35 (.ld false 1 (t 34)),
 o 36 (.bin .andNot (t 33) (t 35)),
 o 37 (.mv (t 6)),
 o 38 (.bin .sub (t 37) (i 1)),
 o 39 (.bin .andNot (t 36) (t 38)),
 o 40 (.fa 5 (t 2)),
 o 41 (.ld false 1 (t 40)),
 o 42 (.mv (t 6)),
 o 43 (.bin .sub (t 42) (i 1)),
 o 44 (.bin .andNot (t 41) (t 43)),
 o 45 (.bin .eql (t 39) (t 44))])
 (.cond (t 45)
 (.seq (.ops [o 46 (.mv (t 7)),
 o 47 (.fa 5 (t 2)),
 o 48 (.ld false 1 (t 47)),
 o 49 (.mv (t 6)),
 o 50 (.bin .sub (t 49) (i 1)),
 o 51 (.bin .and (t 48) (t 50)),
 o 52 (.bin .or (t 46) (t 51)),
 o 4 (.mv (t 52))])
 .ret)
 .skip)))))))
 (.ops [o 53 (.bin .add (t 18) (i 1)),
 o 18 (.mv (t 53))])))))))
 (.seq (.ops [o 4 (.mv (i (-1)))])
 .ret))))⟩
theorem e70 : slimF Try.prog Try.f70 [] = some c70 := by kernel_rfl
/-- cellar/val.Members -/
def c71 : SF := ⟨24, [.t 4, .t 5], (.seq (.ops [k 2 (.bx 28 (t 0)),
 o 4 (.mv (.const (.slice none 0 0))),
 o 5 (.mv (b false))])
 (.seq (.seq (.ops [o 7 (.ld true 6 (t 2)),
 k 8 (.ca (.func 54) [(t 7), (i 0)]),
 o 6 (.mv (t 8))])
 (.block 0 (.loop (.seq (.seq (.ops [o 9 (.mv (t 6)),
 o 10 (.bin .geq (t 9) (i 0))])
 (.cond (t 10)
 .skip
 (.exit 0)))
 (.seq (.block 1 (.seq (.seq (.ops [o 15 (.mv (t 4)),
 o 16 (.ln (t 15)),
 o 17 (.mv (t 1)),
 o 18 (.bin .eql (t 16) (t 17))])
 (.cond (t 18)
 (.seq (.ops [o 4 (.mv (.const (.slice none 0 0))),
 o 5 (.mv (b false))])
 .ret)
 .skip))
 (.ops [o 19 (.mv (t 4)),
 o 20 (.mv (t 6)),
 k 21 (.bs 3 1 [.int .i64 0] [(0, 1, (t 20))]),
 k 22 (.ap 3 1 8 (t 19) (t 21)),
 o 4 (.mv (t 22))])))
 (.ops [o 11 (.ld true 6 (t 2)),
 o 12 (.mv (t 6)),
 o 13 (.bin .add (t 12) (i 1)),
 k 14 (.ca (.func 54) [(t 11), (t 13)]),
 o 6 (.mv (t 14))]))))))
 (.seq (.ops [o 23 (.mv (t 4)),
 o 4 (.mv (t 23)),
 o 5 (.mv (b true))])
 .ret)))⟩
theorem e71 : slimF Try.prog Try.f71 [] = some c71 := by kernel_rfl
/-- slices.ContainsFunc[[]cellar/api.Val,cellar/api.Val] -/
def c72 : SF := ⟨9, [.t 4], (.seq (.ops [o 4 (.mv (b false))])
 (.seq (.ops [o 5 (.mv (t 0)),
 o 6 (.mv (t 1)),
 k 7 (.ca (.func 80) [(t 5), (t 6)]),
 o 8 (.bin .geq (t 7) (i 0)),
 o 4 (.mv (t 8))])
 .ret))⟩
theorem e72 : slimF Try.prog Try.f72 [] = some c72 := by kernel_rfl
/-- cellar/grow.asked$1 -/
def c73 : SF := ⟨16, [.t 3], (.seq (.ops [k 2 (.bx 28 (t 0)),
 o 3 (.mv (b false))])
 (.seq (.opq [o 4 (.ld true 6 (t 2)),
 k 5 (.ca (.func 52) [(t 4)]),
 o 6 (.un .not (t 5)),
 o 7 (.mv (t 6)),
 og 8 7 false (.fa 0 (t 2)),
 og 9 7 false (.ld false 1 (t 8)),
 og 10 7 false (.ld false 1 (t 1)),
 og 11 7 false (.ia 6 (t 10) (i 0)),
 og 12 7 false (.fa 0 (t 11)),
 og 13 7 false (.ld false 1 (t 12)),
 og 14 7 false (.bin .neq (t 9) (t 13)),
 o 15 (.pick (t 7) (b true) (t 14)),
 o 3 (.mv (t 15))])
 .ret))⟩
theorem e73 : slimF Try.prog Try.f73 [[(0, []), (1, []), (2, []), (3, []), (4, []), (5, []), (6, []), (7, []), (8, []), (9, []), (10, []), (11, []), (12, [])]] = some c73 := by kernel_rfl
/-- cellar/grow.steps -/
def c74 : SF := ⟨37, [.t 2], (.seq (.ops [o 2 (.mv (.const (.slice none 0 0)))])
 (.seq (.seq (.ops [k 5 (.bs 3 7 [.int .i64 0, .int .i64 0, .int .i64 0, .int .i64 0, .int .i64 0, .int .i64 0, .int .i64 0] [(0, 1, (i 4)), (1, 1, (i 7)), (2, 1, (i 8)), (3, 1, (i 15)), (4, 1, (i 16)), (5, 1, (i 31)), (6, 1, (i 32))]),
 o 6 (.ln (t 5)),
 o 7 (.mv (i 0))])
 (.block 0 (.loop (.seq (.ops [o 8 (.bin .lss (t 7) (t 6))])
 (.seq (.cond (t 8)
 .skip
 (.exit 0))
 (.seq (.block 1 (.seq (.ops [o 9 (.ia 1 (t 5) (t 7)),
 o 10 (.ld false 1 (t 9)),
 o 4 (.mv (t 10))])
 (.seq (.seq (.ops [o 11 (.mv (t 4)),
 o 12 (.mv (t 0)),
 o 13 (.bin .geq (t 11) (t 12))])
 (.cond (t 13)
 (.exit 0)
 .skip))
 (.opq [o 14 (.mv (t 2)),
 o 15 (.mv (t 0)),
 o 16 (.mv (t 4)),
 o 17 (.bin .shl (i 1) (t 16)),
 o 18 (.bin .sub (t 17) (i 1)),
 o 20 (.mv (t 0)),
 o 21 (.mv (t 4)),
 o 22 (.bin .shl (i (-1)) (t 21)),
 o 23 (.mv (t 0)),
 o 25 (.mv (t 4)),
 o 26 (.bin .shl (i 1) (t 25)),
 o 27 (.bin .sub (t 26) (i 1)),
 k 19 (.ca (.func 81) [(t 15), (i 0), (t 18)]),
 k 24 (.ca (.func 82) [(t 22), (t 23)]),
 k 28 (.ca (.func 81) [(t 20), (t 24), (t 27)]),
 k 29 (.bs 28 2 [.int .i64 0, .bool false, .int .i64 0, .int .i64 0, .int .i64 0, .int .i64 0, .int .i64 0, .bool false, .int .i64 0, .int .i64 0, .int .i64 0, .int .i64 0] [(0, 6, (t 19)), (6, 6, (t 28))]),
 k 30 (.ap 28 6 48 (t 14) (t 29)),
 o 2 (.mv (t 30))]))))
 (.ops [o 31 (.bin .add (t 7) (i 1)),
 o 7 (.mv (t 31))])))))))
 (.seq (.ops [o 32 (.mv (t 2)),
 o 33 (.mv (t 0)),
 k 34 (.ca (.func 45) [(t 33)]),
 k 35 (.bs 28 1 [.int .i64 0, .bool false, .int .i64 0, .int .i64 0, .int .i64 0, .int .i64 0] [(0, 6, (t 34))]),
 k 36 (.ap 28 6 48 (t 32) (t 35)),
 o 2 (.mv (t 36))])
 .ret)))⟩
theorem e74 : slimF Try.prog Try.f74 [[(0, []), (1, []), (2, []), (3, []), (4, []), (6, []), (7, []), (8, []), (9, []), (11, []), (12, []), (13, []), (5, []), (10, []), (14, []), (15, []), (16, []), (17, [])]] = some c74 := by kernel_rfl
/-- cellar/val.inside -/
def c75 : SF := ⟨35, [.t 4], (.seq (.ops [k 2 (.bx 28 (t 0)),
 k 3 (.bx 28 (t 1)),
 o 4 (.mv (b false))])
 (.seq (.ops [o 6 (.fa 2 (t 2)),
 o 7 (.ld false 1 (t 6)),
 o 8 (.fa 2 (t 3)),
 o 9 (.ld false 1 (t 8)),
 o 10 (.bin .sub (t 7) (t 9)),
 o 11 (.fa 0 (t 2)),
 o 12 (.ld false 1 (t 11)),
 k 13 (.ca (.func 82) [(t 10), (t 12)]),
 o 5 (.mv (t 13))])
 (.seq (.opd [o 14 (.ld true 6 (t 3)),
 o 16 (.fa 0 (t 3)),
 o 17 (.ld false 1 (t 16)),
 k 15 (.ca (.func 83) [(t 14)]),
 k 18 (.ca (.func 67) [(t 17)]),
 o 19 (.bin .eql (t 15) (t 18)),
 o 20 (.mv (t 19)),
 og 21 20 false (.mv (t 5)),
 og 22 20 false (.ld true 6 (t 3)),
 ⟨some 23, some (20, false), .ca (.func 83) [(t 22)]⟩,
 og 24 20 false (.bin .leq (t 21) (t 23)),
 og 25 20 false (.mv (t 24)),
 og 26 25 true (.ld true 6 (t 2)),
 og 28 25 true (.ld true 6 (t 3)),
 og 30 25 true (.mv (t 5)),
 ⟨some 27, some (25, true), .ca (.func 83) [(t 26)]⟩,
 ⟨some 29, some (25, true), .ca (.func 83) [(t 28)]⟩,
 og 31 25 true (.bin .sub (t 29) (t 30)),
 og 32 25 true (.bin .leq (t 27) (t 31)),
 og 33 20 false (.pick (t 25) (t 32) (b false)),
 o 34 (.pick (t 20) (b true) (t 33)),
 o 4 (.mv (t 34))])
 .ret)))⟩
theorem e75 : slimF Try.prog Try.f75 [[(0, []), (2, []), (3, []), (1, []), (4, []), (5, []), (6, []), (7, []), (8, []), (9, []), (10, []), (11, []), (12, []), (14, []), (16, []), (13, []), (15, []), (17, []), (18, []), (19, []), (20, []), (21, [])]] = some c75 := by kernel_rfl
/-- cellar/val.tidy -/
def c76 : SF := ⟨27, [.c true 6 2], (.seq (.ops [k 1 (.bx 28 (t 0)),
 k 2 (.al 28 [.int .i64 0, .bool false, .int .i64 0, .int .i64 0, .int .i64 0, .int .i64 0])])
 (.seq (.ops [o 6 (.ld true 6 (t 1)),
 k 7 (.ca (.func 71) [(t 6), (i 1)]),
 o 5 (.mv (t 7)),
 o 8 (.ex (t 5) 0),
 o 9 (.ex (t 5) 1),
 o 3 (.mv (t 8)),
 o 4 (.mv (t 9))])
 (.seq (.block 0 (.seq (.ops [o 11 (.mv (t 4)),
 o 12 (.un .not (t 11)),
 o 10 (.mv (t 12))])
 (.cond (t 10)
 (.seq (.ops [o 13 (.ld true 6 (t 1)),
 kn (.st [] 6 (t 2) (t 13))])
 .ret)
 (.seq (.ops [o 15 (.mv (t 3)),
 o 16 (.ln (t 15)),
 o 17 (.bin .eql (t 16) (i 0)),
 o 14 (.mv (t 17))])
 (.cond (t 14)
 (.seq (.ops [o 18 (.fa 0 (t 1)),
 o 19 (.ld false 1 (t 18)),
 k 20 (.ca (.func 46) [(t 19)]),
 kn (.st [] 6 (t 2) (t 20))])
 .ret)
 .skip)))))
 (.seq (.opq [o 21 (.fa 0 (t 1)),
 o 22 (.ld false 1 (t 21)),
 o 23 (.mv (t 3)),
 o 24 (.ia 1 (t 23) (i 0)),
 o 25 (.ld false 1 (t 24)),
 k 26 (.ca (.func 49) [(t 22), (t 25)]),
 kn (.st [] 6 (t 2) (t 26))])
 .ret))))⟩
theorem e76 : slimF Try.prog Try.f76 [[(0, []), (1, []), (2, []), (3, []), (4, []), (5, []), (6, [])]] = some c76 := by kernel_rfl
/-- cellar/val.cover -/
def c77 : SF := ⟨63, [.t 4, .t 5], (.seq (.ops [k 2 (.bx 28 (t 0)),
 k 3 (.bx 28 (t 1)),
 o 4 (.mv (i 0)),
 o 5 (.mv (i 0))])
 (.seq (.opd [o 12 (.fa 0 (t 2)),
 o 13 (.ld false 1 (t 12)),
 o 14 (.fa 0 (t 2)),
 o 15 (.ld false 1 (t 14)),
 k 16 (.ca (.func 67) [(t 15)]),
 o 17 (.bd [.int .i64 0, .bool false, .int .i64 0, .int .i64 0, .int .i64 0, .int .i64 0] [(0, 1, (t 13)), (3, 1, (t 16))]),
 k 6 (.al 28 [.int .i64 0, .bool false, .int .i64 0, .int .i64 0, .int .i64 0, .int .i64 0]),
 kn (.st [] 6 (t 6) (t 17))])
 (.seq (.seq (.ops [o 18 (.ld true 6 (t 2)),
 o 19 (.ld true 6 (t 3)),
 k 20 (.bs 28 2 [.int .i64 0, .bool false, .int .i64 0, .int .i64 0, .int .i64 0, .int .i64 0, .int .i64 0, .bool false, .int .i64 0, .int .i64 0, .int .i64 0, .int .i64 0] [(0, 6, (t 18)), (6, 6, (t 19))]),
 o 21 (.ln (t 20)),
 o 22 (.mv (i 0))])
 (.block 0 (.loop (.seq (.ops [o 23 (.bin .lss (t 22) (t 21))])
 (.seq (.cond (t 23)
 .skip
 (.exit 0))
 (.seq (.block 1 (.seq (.ops [o 24 (.ia 6 (t 20) (t 22)),
 o 25 (.ld true 6 (t 24)),
 k 8 (.al 28 [.int .i64 0, .bool false, .int .i64 0, .int .i64 0, .int .i64 0, .int .i64 0]),
 kn (.st [] 6 (t 8) (t 25))])
 (.seq (.ops [o 26 (.ld true 6 (t 2)),
 o 27 (.ld true 6 (t 3)),
 k 28 (.bs 28 2 [.int .i64 0, .bool false, .int .i64 0, .int .i64 0, .int .i64 0, .int .i64 0, .int .i64 0, .bool false, .int .i64 0, .int .i64 0, .int .i64 0, .int .i64 0] [(0, 6, (t 26)), (6, 6, (t 27))]),
 o 29 (.ln (t 28)),
 o 30 (.mv (i 0))])
 (.block 2 (.loop (.seq (.ops [o 31 (.bin .lss (t 30) (t 29))])
 (.seq (.cond (t 31)
 .skip
 (.exit 2))
 (.seq (.block 3 (.seq (.ops [o 32 (.ia 6 (t 28) (t 30)),
 o 33 (.ld true 6 (t 32)),
 k 10 (.al 28 [.int .i64 0, .bool false, .int .i64 0, .int .i64 0, .int .i64 0, .int .i64 0]),
 kn (.st [] 6 (t 10) (t 33))])
 (.seq (.ops [o 34 (.fa 0 (t 2)),
 o 35 (.ld false 1 (t 34)),
 o 36 (.fa 2 (t 8)),
 o 37 (.ld false 1 (t 36)),
 o 38 (.fa 3 (t 10)),
 o 39 (.ld false 1 (t 38)),
 o 40 (.bd [.int .i64 0, .bool false, .int .i64 0, .int .i64 0, .int .i64 0, .int .i64 0] [(0, 1, (t 35)), (2, 1, (t 37)), (3, 1, (t 39))]),
 k 11 (.al 28 [.int .i64 0, .bool false, .int .i64 0, .int .i64 0, .int .i64 0, .int .i64 0]),
 kn (.st [] 6 (t 11) (t 40))])
 (.seq (.opd [o 41 (.ld true 6 (t 2)),
 o 42 (.ld true 6 (t 11)),
 k 43 (.ca (.func 75) [(t 41), (t 42)]),
 o 44 (.mv (t 43)),
 og 45 44 true (.ld true 6 (t 3)),
 og 46 44 true (.ld true 6 (t 11)),
 ⟨some 47, some (44, true), .ca (.func 75) [(t 45), (t 46)]⟩,
 o 48 (.pick (t 44) (t 47) (b false)),
 o 49 (.mv (t 48)),
 og 50 49 true (.ld true 6 (t 11)),
 og 52 49 true (.ld true 6 (t 6)),
 ⟨some 51, some (49, true), .ca (.func 83) [(t 50)]⟩,
 ⟨some 53, some (49, true), .ca (.func 83) [(t 52)]⟩,
 og 54 49 true (.bin .lss (t 51) (t 53)),
 o 55 (.pick (t 49) (t 54) (b false))])
 (.cond (t 55)
 (.ops [o 56 (.ld true 6 (t 11)),
 kn (.st [] 6 (t 6) (t 56))])
 .skip)))))
 (.ops [o 57 (.bin .add (t 30) (i 1)),
 o 30 (.mv (t 57))])))))))))
 (.ops [o 58 (.bin .add (t 22) (i 1)),
 o 22 (.mv (t 58))])))))))
 (.seq (.opq [o 59 (.fa 2 (t 6)),
 o 60 (.ld false 1 (t 59)),
 o 61 (.fa 3 (t 6)),
 o 62 (.ld false 1 (t 61)),
 o 4 (.mv (t 60)),
 o 5 (.mv (t 62))])
 .ret))))⟩
theorem e77 : slimF Try.prog Try.f77 [[(0, []), (1, []), (2, []), (3, []), (4, []), (5, []), (6, []), (7, [])], [(0, []), (1, []), (2, []), (3, []), (4, []), (5, []), (6, []), (7, []), (8, []), (9, []), (11, []), (10, []), (12, []), (13, []), (14, [])], [(0, []), (1, []), (2, []), (3, []), (4, []), (5, [])]] = some c77 := by kernel_rfl
/-- cellar/val.cross -/
def c78 : SF := ⟨54, [.t 4, .t 5, .t 6], (.seq (.ops [k 2 (.bx 28 (t 0)),
 k 3 (.bx 28 (t 1)),
 o 4 (.mv (i 0)),
 o 5 (.mv (i 0)),
 o 6 (.mv (b false))])
 (.seq (.opd [o 9 (.ld true 6 (t 3)),
 o 10 (.fa 2 (t 2)),
 o 11 (.ld false 1 (t 10)),
 o 13 (.ld true 6 (t 3)),
 o 14 (.fa 3 (t 2)),
 o 15 (.ld false 1 (t 14)),
 k 12 (.ca (.func 68) [(t 9), (t 11)]),
 k 16 (.ca (.func 68) [(t 13), (t 15)]),
 o 7 (.mv (t 12)),
 o 8 (.mv (t 16))])
 (.seq (.block 0 (.seq (.ops [o 18 (.ld true 6 (t 2)),
 o 19 (.ld true 6 (t 3)),
 k 20 (.ca (.func 75) [(t 18), (t 19)]),
 o 17 (.mv (t 20))])
 (.cond (t 17)
 (.seq (.opq [o 21 (.fa 2 (t 2)),
 o 22 (.ld false 1 (t 21)),
 o 23 (.fa 3 (t 2)),
 o 24 (.ld false 1 (t 23)),
 o 4 (.mv (t 22)),
 o 5 (.mv (t 24)),
 o 6 (.mv (b true))])
 .ret)
 (.seq (.ops [o 26 (.ld true 6 (t 3)),
 o 27 (.ld true 6 (t 2)),
 k 28 (.ca (.func 75) [(t 26), (t 27)]),
 o 25 (.mv (t 28))])
 (.cond (t 25)
 (.seq (.opq [o 29 (.fa 2 (t 3)),
 o 30 (.ld false 1 (t 29)),
 o 31 (.fa 3 (t 3)),
 o 32 (.ld false 1 (t 31)),
 o 4 (.mv (t 30)),
 o 5 (.mv (t 32)),
 o 6 (.mv (b true))])
 .ret)
 (.seq (.ops [o 34 (.mv (t 7)),
 o 35 (.mv (t 34)),
 og 36 35 true (.mv (t 8)),
 o 37 (.pick (t 35) (t 36) (b false)),
 o 33 (.mv (t 37))])
 (.cond (t 33)
 (.seq (.opq [o 38 (.fa 2 (t 2)),
 o 39 (.ld false 1 (t 38)),
 o 40 (.fa 3 (t 2)),
 o 41 (.ld false 1 (t 40)),
 o 4 (.mv (t 39)),
 o 5 (.mv (t 41)),
 o 6 (.mv (b true))])
 .ret)
 (.seq (.ops [o 43 (.mv (t 7)),
 o 42 (.mv (t 43))])
 (.cond (t 42)
 (.seq (.opq [o 44 (.fa 2 (t 2)),
 o 45 (.ld false 1 (t 44)),
 o 46 (.fa 3 (t 3)),
 o 47 (.ld false 1 (t 46)),
 o 4 (.mv (t 45)),
 o 5 (.mv (t 47)),
 o 6 (.mv (b true))])
 .ret)
 (.seq (.ops [o 49 (.mv (t 8)),
 o 48 (.mv (t 49))])
 (.cond (t 48)
 (.seq (.opq [o 50 (.fa 2 (t 3)),
 o 51 (.ld false 1 (t 50)),
 o 52 (.fa 3 (t 2)),
 o 53 (.ld false 1 (t 52)),
 o 4 (.mv (t 51)),
 o 5 (.mv (t 53)),
 o 6 (.mv (b true))])
 .ret)
 .skip)))))))))))
 (.seq (.ops [o 4 (.mv (i 0)),
 o 5 (.mv (i 0)),
 o 6 (.mv (b false))])
 .ret))))⟩
theorem e78 : slimF Try.prog Try.f78 [[(0, []), (1, []), (2, []), (4, []), (5, []), (6, []), (3, []), (7, []), (8, []), (9, [])], [(0, []), (1, []), (2, []), (3, []), (4, []), (5, []), (6, [])], [(0, []), (1, []), (2, []), (3, []), (4, []), (5, []), (6, [])], [(0, []), (1, []), (2, []), (3, []), (4, []), (5, []), (6, [])], [(0, []), (1, []), (2, []), (3, []), (4, []), (5, []), (6, [])], [(0, []), (1, []), (2, []), (3, []), (4, []), (5, []), (6, [])]] = some c78 := by kernel_rfl
/-- cellar/cellarref0.In -/
def c79 : SF := ⟨19, [.t 4], (.seq (.ops [o 4 (.mv (i 0))])
 (.seq (.seq (.ops [o 5 (.mv (i 0))])
 (.block 0 (.loop (.seq (.seq (.ops [o 6 (.mv (t 5)),
 o 7 (.mv (t 0)),
 o 8 (.ln (t 7)),
 o 9 (.bin .lss (t 6) (t 8))])
 (.cond (t 9)
 .skip
 (.exit 0)))
 (.seq (.block 1 (.seq (.ops [o 12 (.mv (t 0)),
 o 13 (.mv (t 5)),
 o 14 (.ia 1 (t 12) (t 13)),
 o 15 (.ld false 1 (t 14)),
 o 16 (.mv (t 1)),
 o 17 (.bin .eql (t 15) (t 16))])
 (.cond (t 17)
 (.seq (.ops [o 18 (.mv (t 5)),
 o 4 (.mv (t 18))])
 .ret)
 .skip)))
 (.ops [o 10 (.mv (t 5)),
 o 11 (.bin .add (t 10) (i 1)),
 o 5 (.mv (t 11))]))))))
 (.seq (.ops [o 4 (.mv (i (-1)))])
 .ret)))⟩
theorem e79 : slimF Try.prog Try.f79 [] = some c79 := by kernel_rfl
/-- slices.IndexFunc[[]cellar/api.Val,cellar/api.Val] -/
def c80 : SF := ⟨19, [.t 4], (.seq (.ops [o 4 (.mv (i 0))])
 (.seq (.seq (.ops [o 6 (.mv (t 0)),
 o 7 (.ln (t 6)),
 o 8 (.mv (i 0))])
 (.block 0 (.loop (.seq (.ops [o 9 (.bin .lss (t 8) (t 7))])
 (.seq (.cond (t 9)
 .skip
 (.exit 0))
 (.seq (.block 1 (.seq (.ops [o 10 (.mv (t 8)),
 o 5 (.mv (t 10))])
 (.seq (.ops [o 11 (.mv (t 1)),
 o 12 (.mv (t 0)),
 o 13 (.mv (t 5)),
 o 14 (.ia 6 (t 12) (t 13)),
 o 15 (.ld true 6 (t 14)),
 k 16 (.ca (t 11) [(t 15)])])
 (.cond (t 16)
 (.seq (.ops [o 17 (.mv (t 5)),
 o 4 (.mv (t 17))])
 .ret)
 .skip))))
 (.ops [o 18 (.bin .add (t 8) (i 1)),
 o 8 (.mv (t 18))])))))))
 (.seq (.ops [o 4 (.mv (i (-1)))])
 .ret)))⟩
theorem e80 : slimF Try.prog Try.f80 [] = some c80 := by kernel_rfl
/-- cellar/val.Span -/
def c81 : SF := ⟨19, [.c true 6 6], (.seq (.ops [k 6 (.al 28 [.int .i64 0, .bool false, .int .i64 0, .int .i64 0, .int .i64 0, .int .i64 0])])
 (.seq (.seq (.ops [o 7 (.mv (t 1)),
 o 8 (.mv (t 2)),
 o 9 (.bin .eql (t 7) (t 8))])
 (.cond (t 9)
 (.seq (.ops [o 10 (.mv (t 0)),
 o 11 (.mv (t 1)),
 k 12 (.ca (.func 49) [(t 10), (t 11)]),
 kn (.st [] 6 (t 6) (t 12))])
 .ret)
 .skip))
 (.seq (.ops [o 13 (.mv (t 0)),
 o 14 (.mv (t 1)),
 o 15 (.mv (t 2)),
 o 16 (.mv (t 0)),
 k 17 (.ca (.func 67) [(t 16)]),
 o 18 (.bd [.int .i64 0, .bool false, .int .i64 0, .int .i64 0, .int .i64 0, .int .i64 0] [(0, 1, (t 13)), (2, 1, (t 14)), (3, 1, (t 15)), (4, 1, (t 17))]),
 kn (.st [] 6 (t 6) (t 18))])
 .ret)))⟩
theorem e81 : slimF Try.prog Try.f81 [] = some c81 := by kernel_rfl
/-- cellar/word.Cut -/
def c82 : SF := ⟨9, [.t 4], (.seq (.ops [o 4 (.mv (i 0))])
 (.seq (.ops [o 5 (.mv (t 0)),
 o 6 (.mv (t 1)),
 k 7 (.ca (.func 67) [(t 6)]),
 o 8 (.bin .and (t 5) (t 7)),
 o 4 (.mv (t 8))])
 .ret))⟩
theorem e82 : slimF Try.prog Try.f82 [] = some c82 := by kernel_rfl
/-- cellar/val.length -/
def c83 : SF := ⟨11, [.t 2], (.seq (.ops [k 1 (.bx 28 (t 0)),
 o 2 (.mv (i 0))])
 (.seq (.ops [o 3 (.fa 3 (t 1)),
 o 4 (.ld false 1 (t 3)),
 o 5 (.fa 2 (t 1)),
 o 6 (.ld false 1 (t 5)),
 o 7 (.bin .sub (t 4) (t 6)),
 o 8 (.fa 0 (t 1)),
 o 9 (.ld false 1 (t 8)),
 k 10 (.ca (.func 82) [(t 7), (t 9)]),
 o 2 (.mv (t 10))])
 .ret))⟩
theorem e83 : slimF Try.prog Try.f83 [] = some c83 := by kernel_rfl
end Go.Proofs.Try.S
