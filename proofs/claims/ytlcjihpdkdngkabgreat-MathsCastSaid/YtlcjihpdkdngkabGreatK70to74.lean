/- Parts K70to74: the machine's runs of small codes, contracts of functions, plain facts. -/
import Derived.Test.YtlcjihpdkdngkabGreatProg
import Derived.Test.YtlcjihpdkdngkabGreatK65to69
namespace Go.Proofs.Tryz.S
open Go Go.Ax Go.Ax.N
set_option maxRecDepth 100000

/-- cellar/cellarlaw4.Twos -/
def c8 : SF := ⟨191, [.t 4], (.seq (.ops [k 2 (.bx 25 (t 0)),
 o 4 (.mv (b false))])
 (.seq (.seq (.ops [o 27 (.ld true 2 (t 2)),
 k 28 (.ca (.func 10) [(t 27)])])
 (.cond (t 28)
 (.seq (.ops [o 4 (.mv (b true))])
 .ret)
 .skip))
 (.seq (.seq (.ops [o 5 (.mv (i 0))])
 (.block 0 (.loop (.seq (.seq (.ops [o 29 (.mv (t 5)),
 o 30 (.bin .leq (t 29) (i 7))])
 (.cond (t 30)
 .skip
 (.exit 0)))
 (.seq (.block 1 (.seq (.ops [o 33 (.ld true 2 (t 2)),
 o 34 (.mv (t 5)),
 k 35 (.ca (.func 11) [(t 33), (t 34)]),
 o 6 (.mv (t 35))])
 (.seq (.ops [o 7 (.mv (i 0))])
 (.block 2 (.loop (.seq (.seq (.ops [o 36 (.mv (t 7)),
 o 37 (.mv (t 6)),
 o 38 (.ln (t 37)),
 o 39 (.bin .lss (t 36) (t 38))])
 (.cond (t 39)
 .skip
 (.exit 2)))
 (.seq (.block 3 (.seq (.ops [o 8 (.mv (i 0))])
 (.block 4 (.loop (.seq (.seq (.ops [o 42 (.mv (t 8)),
 o 43 (.mv (t 6)),
 o 44 (.ln (t 43)),
 o 45 (.bin .lss (t 42) (t 44))])
 (.cond (t 45)
 .skip
 (.exit 4)))
 (.seq (.block 5 (.seq (.opq [o 48 (.mv (t 6)),
 o 49 (.mv (t 7)),
 o 50 (.ia 6 (t 48) (t 49)),
 o 51 (.ld true 6 (t 50)),
 o 52 (.mv (t 6)),
 o 53 (.mv (t 8)),
 o 54 (.ia 6 (t 52) (t 53)),
 o 55 (.ld true 6 (t 54)),
 k 9 (.al 30 [.int .i64 0, .bool false, .int .i64 0, .int .i64 0, .int .i64 0, .int .i64 0]),
 k 10 (.al 30 [.int .i64 0, .bool false, .int .i64 0, .int .i64 0, .int .i64 0, .int .i64 0]),
 kn (.st [54] 6 (t 9) (t 51)),
 kn (.st [] 6 (t 10) (t 55))])
 (.seq (.ops [o 57 (.mv (t 1)),
 o 58 (.mv (t 5)),
 o 59 (.ld true 6 (t 9)),
 o 60 (.ld true 6 (t 10)),
 k 61 (.ca (.func 24) [(t 57), (t 58), (t 59), (t 60)]),
 o 56 (.mv (t 61)),
 o 62 (.ex (t 56) 0),
 o 63 (.ex (t 56) 1),
 o 64 (.ex (t 56) 2),
 k 11 (.al 30 [.int .i64 0, .bool false, .int .i64 0, .int .i64 0, .int .i64 0, .int .i64 0]),
 kn (.st [] 6 (t 11) (t 62)),
 o 12 (.mv (t 63)),
 o 13 (.mv (t 64))])
 (.seq (.ops [o 14 (.mv (i 1))])
 (.seq (.seq (.opd [o 65 (.mv (t 1)),
 o 66 (.mv (t 5)),
 k 67 (.ca (.func 25) [(t 65), (t 66)]),
 o 68 (.mv (t 67)),
 og 69 68 true (.ld true 6 (t 9)),
 ⟨some 70, some (68, true), .ca (.func 14) [(t 69)]⟩,
 o 71 (.pick (t 68) (t 70) (b false)),
 o 72 (.mv (t 71)),
 og 73 72 true (.ld true 6 (t 10)),
 ⟨some 74, some (72, true), .ca (.func 14) [(t 73)]⟩,
 o 75 (.pick (t 72) (t 74) (b false)),
 o 76 (.mv (t 75)),
 og 77 76 true (.fa 0 (t 9)),
 og 78 76 true (.ld false 1 (t 77)),
 og 79 76 true (.mv (t 5)),
 ⟨some 80, some (76, true), .ca (.func 13) [(t 79)]⟩,
 og 81 76 true (.bin .eql (t 78) (t 80)),
 o 82 (.pick (t 76) (t 81) (b false)),
 o 83 (.mv (t 82)),
 og 84 83 true (.fa 0 (t 10)),
 og 85 83 true (.ld false 1 (t 84)),
 og 86 83 true (.fa 0 (t 9)),
 og 87 83 true (.ld false 1 (t 86)),
 og 88 83 true (.bin .eql (t 85) (t 87)),
 o 89 (.pick (t 83) (t 88) (b false))])
 (.cond (t 89)
 (.ops [o 14 (.mv (i 0))])
 .skip))
 (.seq (.seq (.ops [o 90 (.mv (t 13)),
 k 91 (.ca (.func 15) [(t 90)]),
 o 92 (.mv (t 14)),
 o 93 (.bin .neq (t 91) (t 92))])
 (.cond (t 93)
 (.seq (.ops [o 4 (.mv (b false))])
 .ret)
 .skip))
 (.seq (.seq (.ops [o 94 (.mv (t 14)),
 o 95 (.bin .neq (t 94) (i 0))])
 (.cond (t 95)
 (.exit 5)
 .skip))
 (.seq (.seq (.ops [o 96 (.mv (t 1)),
 o 97 (.mv (t 5)),
 o 98 (.ld true 6 (t 11)),
 o 99 (.mv (t 12)),
 k 100 (.ca (.func 26) [(t 96), (t 97), (t 98), (t 99)]),
 o 101 (.un .not (t 100))])
 (.cond (t 101)
 (.seq (.ops [o 4 (.mv (b false))])
 .ret)
 .skip))
 (.seq (.opd [o 102 (.ld true 6 (t 9)),
 o 103 (.mv (t 7)),
 o 104 (.mv (t 8)),
 o 105 (.bin .add (t 103) (t 104)),
 o 107 (.ld true 6 (t 10)),
 o 108 (.mv (t 8)),
 k 106 (.ca (.func 16) [(t 102), (i 14), (t 105)]),
 k 109 (.ca (.func 16) [(t 107), (i 14), (t 108)]),
 o 15 (.mv (t 106)),
 o 16 (.mv (t 109))])
 (.seq (.seq (.ops [o 110 (.mv (t 15)),
 o 111 (.ln (t 110)),
 o 112 (.bin .eql (t 111) (i 0)),
 o 113 (.mv (t 112)),
 og 114 113 false (.mv (t 16)),
 og 115 113 false (.ln (t 114)),
 og 116 113 false (.bin .eql (t 115) (i 0)),
 o 117 (.pick (t 113) (b true) (t 116))])
 (.cond (t 117)
 (.seq (.seq (.ops [o 118 (.ld true 6 (t 11)),
 k 119 (.ca (.func 17) [(t 118), (i 0)]),
 o 120 (.bin .geq (t 119) (i 0)),
 o 121 (.mv (t 120)),
 og 122 121 false (.mv (t 12)),
 og 123 121 false (.ln (t 122)),
 og 124 121 false (.bin .gtr (t 123) (i 0)),
 o 125 (.pick (t 121) (b true) (t 124))])
 (.cond (t 125)
 (.seq (.ops [o 4 (.mv (b false))])
 .ret)
 .skip))
 (.exit 5))
 .skip))
 (.seq (.seq (.ops [o 17 (.mv (i 0))])
 (.block 6 (.loop (.seq (.seq (.ops [o 126 (.mv (t 17)),
 o 127 (.mv (t 15)),
 o 128 (.ln (t 127)),
 o 129 (.bin .lss (t 126) (t 128))])
 (.cond (t 129)
 .skip
 (.exit 6)))
 (.seq (.block 7 (.seq (.ops [o 18 (.mv (i 0))])
 (.block 8 (.loop (.seq (.seq (.ops [o 132 (.mv (t 18)),
 o 133 (.mv (t 16)),
 o 134 (.ln (t 133)),
 o 135 (.bin .lss (t 132) (t 134))])
 (.cond (t 135)
 .skip
 (.exit 8)))
 (.seq (.block 9 (.seq (.opq [o 139 (.mv (t 1)),
 o 140 (.mv (t 5)),
 o 141 (.mv (t 15)),
 o 142 (.mv (t 17)),
 o 143 (.ia 1 (t 141) (t 142)),
 o 144 (.ld false 1 (t 143)),
 o 145 (.mv (t 16)),
 o 146 (.mv (t 18)),
 o 147 (.ia 1 (t 145) (t 146)),
 o 148 (.ld false 1 (t 147)),
 k 149 (.ca (.func 27) [(t 139), (t 140), (t 144), (t 148)]),
 o 138 (.mv (t 149)),
 o 150 (.ex (t 138) 0),
 o 151 (.ex (t 138) 1),
 o 19 (.mv (t 150)),
 o 20 (.mv (t 151))])
 (.seq (.ops [o 152 (.ld true 6 (t 11)),
 o 153 (.mv (t 12)),
 o 154 (.mv (t 19)),
 o 155 (.mv (t 20)),
 k 156 (.ca (.func 28) [(t 152), (t 153), (t 154), (t 155)]),
 o 157 (.un .not (t 156))])
 (.cond (t 157)
 (.seq (.ops [o 4 (.mv (b false))])
 .ret)
 .skip))))
 (.ops [o 136 (.mv (t 18)),
 o 137 (.bin .add (t 136) (i 1)),
 o 18 (.mv (t 137))])))))))
 (.ops [o 130 (.mv (t 17)),
 o 131 (.bin .add (t 130) (i 1)),
 o 17 (.mv (t 131))]))))))
 (.seq (.ops [o 159 (.ld true 6 (t 9)),
 k 160 (.ca (.func 20) [(t 159)]),
 o 158 (.mv (t 160)),
 o 161 (.ex (t 158) 0),
 o 162 (.ex (t 158) 1),
 o 21 (.mv (t 161)),
 o 22 (.mv (t 162))])
 (.seq (.ops [o 164 (.ld true 6 (t 10)),
 k 165 (.ca (.func 20) [(t 164)]),
 o 163 (.mv (t 165)),
 o 166 (.ex (t 163) 0),
 o 167 (.ex (t 163) 1),
 o 23 (.mv (t 166)),
 o 24 (.mv (t 167))])
 (.seq (.ops [o 168 (.mv (t 22)),
 o 169 (.mv (t 168)),
 og 170 169 true (.mv (t 24)),
 o 171 (.pick (t 169) (t 170) (b false))])
 (.cond (t 171)
 (.seq (.opq [o 173 (.mv (t 1)),
 o 174 (.mv (t 5)),
 o 175 (.mv (t 15)),
 o 176 (.ia 1 (t 175) (i 0)),
 o 177 (.ld false 1 (t 176)),
 o 178 (.mv (t 16)),
 o 179 (.ia 1 (t 178) (i 0)),
 o 180 (.ld false 1 (t 179)),
 k 181 (.ca (.func 27) [(t 173), (t 174), (t 177), (t 180)]),
 o 172 (.mv (t 181)),
 o 182 (.ex (t 172) 0),
 o 183 (.ex (t 172) 1),
 o 25 (.mv (t 182)),
 o 26 (.mv (t 183))])
 (.seq (.ops [o 184 (.ld true 6 (t 11)),
 o 185 (.mv (t 12)),
 o 186 (.mv (t 25)),
 o 187 (.mv (t 26)),
 k 188 (.ca (.func 21) [(t 184), (t 185), (t 186), (t 187)]),
 o 189 (.un .not (t 188))])
 (.cond (t 189)
 (.seq (.ops [o 4 (.mv (b false))])
 .ret)
 .skip)))
 .skip)))))))))))))))
 (.ops [o 46 (.mv (t 8)),
 o 47 (.bin .add (t 46) (i 1)),
 o 8 (.mv (t 47))])))))))
 (.ops [o 40 (.mv (t 7)),
 o 41 (.bin .add (t 40) (i 1)),
 o 7 (.mv (t 41))]))))))))
 (.ops [o 31 (.mv (t 5)),
 o 32 (.bin .add (t 31) (i 1)),
 o 5 (.mv (t 32))]))))))
 (.seq (.ops [k 190 (.ca (.func 23) []),
 o 4 (.mv (t 190))])
 .ret))))⟩
theorem e8 : slimF Tryz.prog Tryz.f8 [[(0, []), (1, []), (2, []), (3, []), (4, []), (5, []), (6, []), (7, []), (8, []), (9, []), (10, [54]), (11, [])], [(0, []), (1, []), (2, []), (3, []), (4, []), (5, []), (6, []), (7, []), (8, []), (9, []), (10, []), (11, []), (12, []), (13, []), (14, []), (15, []), (16, []), (17, []), (18, []), (19, []), (20, []), (21, []), (22, []), (23, []), (24, [])], [(0, []), (1, []), (2, []), (3, []), (5, []), (6, []), (4, []), (7, []), (8, []), (9, [])], [(0, []), (1, []), (2, []), (3, []), (4, []), (5, []), (6, []), (7, []), (8, []), (9, []), (10, []), (11, []), (12, []), (13, []), (14, []), (15, [])], [(0, []), (1, []), (2, []), (3, []), (4, []), (5, []), (6, []), (7, []), (8, []), (9, []), (10, []), (11, []), (12, []), (13, [])]] = some c8 := by kernel_rfl
/-- cellar/cellarlaw4.sets -/
def c11 : SF := ⟨105, [.t 4], (.seq (.ops [k 2 (.bx 25 (t 0)),
 o 4 (.mv (.const (.slice none 0 0)))])
 (.seq (.ops [o 10 (.mv (t 1)),
 k 11 (.ca (.func 13) [(t 10)]),
 o 5 (.mv (t 11))])
 (.seq (.ops [o 6 (.mv (.const (.slice none 0 0)))])
 (.seq (.seq (.ops [o 7 (.mv (i 0))])
 (.block 0 (.loop (.seq (.seq (.ops [o 12 (.mv (t 7)),
 o 13 (.fa 0 (t 2)),
 o 14 (.ld false 1 (t 13)),
 o 15 (.ln (t 14)),
 o 16 (.bin .lss (t 12) (t 15)),
 o 17 (.mv (t 16)),
 og 18 17 true (.mv (t 6)),
 og 19 17 true (.ln (t 18)),
 og 20 17 true (.bin .lss (t 19) (i 4)),
 o 21 (.pick (t 17) (t 20) (b false))])
 (.cond (t 21)
 .skip
 (.exit 0)))
 (.seq (.block 1 (.seq (.ops [o 24 (.fa 0 (t 2)),
 o 25 (.ld false 1 (t 24)),
 o 26 (.mv (t 7)),
 o 27 (.ia 6 (t 25) (t 26)),
 o 28 (.fa 0 (t 27)),
 o 29 (.ld false 1 (t 28)),
 o 30 (.mv (t 5)),
 o 31 (.bin .eql (t 29) (t 30)),
 o 32 (.mv (t 31)),
 og 33 32 false (.mv (t 7)),
 og 34 32 false (.bin .rem (t 33) (i 5)),
 og 35 32 false (.bin .eql (t 34) (i 4)),
 o 36 (.pick (t 32) (b true) (t 35))])
 (.cond (t 36)
 (.ops [o 37 (.mv (t 6)),
 o 38 (.fa 0 (t 2)),
 o 39 (.ld false 1 (t 38)),
 o 40 (.mv (t 7)),
 o 41 (.ia 6 (t 39) (t 40)),
 o 42 (.ld true 6 (t 41)),
 k 43 (.bs 30 1 [.int .i64 0, .bool false, .int .i64 0, .int .i64 0, .int .i64 0, .int .i64 0] [(0, 6, (t 42))]),
 k 44 (.ap 30 6 48 (t 37) (t 43)),
 o 6 (.mv (t 44))])
 .skip)))
 (.ops [o 22 (.mv (t 7)),
 o 23 (.bin .add (t 22) (i 1)),
 o 7 (.mv (t 23))]))))))
 (.seq (.seq (.ops [o 45 (.mv (t 5)),
 o 46 (.bin .eql (t 45) (i 0))])
 (.cond (t 46)
 (.seq (.ops [o 47 (.mv (t 6)),
 k 48 (.ca (.func 32) [(i 8)]),
 k 49 (.bs 30 1 [.int .i64 0, .bool false, .int .i64 0, .int .i64 0, .int .i64 0, .int .i64 0] [(0, 6, (t 48))]),
 k 50 (.ap 30 6 48 (t 47) (t 49)),
 o 4 (.mv (t 50))])
 .ret)
 .skip))
 (.seq (.opq [o 51 (.mv (t 6)),
 o 52 (.mv (t 5)),
 o 54 (.mv (t 5)),
 o 56 (.mv (t 5)),
 o 58 (.mv (t 5)),
 o 59 (.mv (t 5)),
 o 60 (.bin .sub (t 59) (i 1)),
 o 61 (.bin .shl (i 1) (t 60)),
 o 63 (.mv (t 5)),
 o 64 (.mv (t 5)),
 o 65 (.bin .shl (i 1) (t 64)),
 o 66 (.bin .sub (t 65) (i 1)),
 k 53 (.ca (.func 32) [(t 52)]),
 k 55 (.ca (.func 33) [(t 54)]),
 k 57 (.ca (.func 34) [(t 56), (i 0)]),
 k 62 (.ca (.func 34) [(t 58), (t 61)]),
 k 67 (.ca (.func 34) [(t 63), (t 66)]),
 k 68 (.bs 30 5 [.int .i64 0, .bool false, .int .i64 0, .int .i64 0, .int .i64 0, .int .i64 0, .int .i64 0, .bool false, .int .i64 0, .int .i64 0, .int .i64 0, .int .i64 0, .int .i64 0, .bool false, .int .i64 0, .int .i64 0, .int .i64 0, .int .i64 0, .int .i64 0, .bool false, .int .i64 0, .int .i64 0, .int .i64 0, .int .i64 0, .int .i64 0, .bool false, .int .i64 0, .int .i64 0, .int .i64 0, .int .i64 0] [(0, 6, (t 53)), (6, 6, (t 55)), (12, 6, (t 57)), (18, 6, (t 62)), (24, 6, (t 67))]),
 k 69 (.ap 30 6 48 (t 51) (t 68)),
 o 6 (.mv (t 69))])
 (.seq (.seq (.ops [o 8 (.mv (i 0))])
 (.block 2 (.loop (.seq (.seq (.ops [o 70 (.mv (t 8)),
 o 71 (.fa 1 (t 2)),
 o 72 (.ld false 1 (t 71)),
 o 73 (.ln (t 72)),
 o 74 (.bin .lss (t 70) (t 73)),
 o 75 (.mv (t 74)),
 og 76 75 true (.mv (t 8)),
 og 77 75 true (.bin .lss (t 76) (i 2)),
 o 78 (.pick (t 75) (t 77) (b false))])
 (.cond (t 78)
 .skip
 (.exit 2)))
 (.seq (.block 3 (.seq (.ops [o 81 (.fa 1 (t 2)),
 o 82 (.ld false 1 (t 81)),
 o 83 (.mv (t 8)),
 o 84 (.ia 1 (t 82) (t 83)),
 o 85 (.ld false 1 (t 84)),
 o 86 (.mv (t 5)),
 k 87 (.ca (.func 35) [(t 85), (t 86)]),
 o 9 (.mv (t 87))])
 (.opq [o 88 (.mv (t 6)),
 o 89 (.mv (t 5)),
 o 90 (.mv (t 9)),
 o 92 (.mv (t 5)),
 o 93 (.mv (t 9)),
 o 94 (.mv (t 9)),
 o 95 (.bin .add (t 94) (i 9)),
 o 96 (.mv (t 5)),
 o 98 (.mv (t 5)),
 o 99 (.bin .shl (i 1) (t 98)),
 o 100 (.bin .sub (t 99) (i 1)),
 k 91 (.ca (.func 34) [(t 89), (t 90)]),
 k 97 (.ca (.func 35) [(t 95), (t 96)]),
 o 101 (.bd [.int .i64 0, .bool false, .int .i64 0, .int .i64 0, .int .i64 0, .int .i64 0] [(0, 1, (t 92)), (2, 1, (t 93)), (3, 1, (t 97)), (4, 1, (t 100))]),
 k 102 (.bs 30 2 [.int .i64 0, .bool false, .int .i64 0, .int .i64 0, .int .i64 0, .int .i64 0, .int .i64 0, .bool false, .int .i64 0, .int .i64 0, .int .i64 0, .int .i64 0] [(0, 6, (t 91)), (6, 6, (t 101))]),
 k 103 (.ap 30 6 48 (t 88) (t 102)),
 o 6 (.mv (t 103))])))
 (.ops [o 79 (.mv (t 8)),
 o 80 (.bin .add (t 79) (i 1)),
 o 8 (.mv (t 80))]))))))
 (.seq (.ops [o 104 (.mv (t 6)),
 o 4 (.mv (t 104))])
 .ret))))))))⟩
theorem e11 : slimF Tryz.prog Tryz.f11 [[(0, []), (1, []), (3, []), (5, []), (7, []), (8, []), (9, []), (10, []), (12, []), (13, []), (14, []), (15, []), (2, []), (4, []), (6, []), (11, []), (16, []), (17, []), (18, []), (19, [])], [(0, []), (1, []), (2, []), (4, []), (5, []), (6, []), (7, []), (8, []), (10, []), (11, []), (12, []), (3, []), (9, []), (13, []), (14, []), (15, []), (16, [])]] = some c11 := by kernel_rfl
/-- cellar/cellarlaw4.num -/
def c15 : SF := ⟨4, [.t 2], (.seq (.ops [o 2 (.mv (i 0))])
 (.seq (.ops [o 3 (.mv (t 0)),
 o 2 (.mv (t 3))])
 .ret))⟩
theorem e15 : slimF Tryz.prog Tryz.f15 [] = some c15 := by kernel_rfl
/-- cellar/cellarlaw4.just -/
def c21 : SF := ⟨44, [.t 8], (.seq (.ops [k 4 (.bx 30 (t 0)),
 o 8 (.mv (b false))])
 (.seq (.seq (.ops [o 11 (.mv (t 3)),
 o 12 (.bin .neq (t 11) (i 0))])
 (.cond (t 12)
 (.seq (.ops [o 13 (.ld true 6 (t 4)),
 k 14 (.ca (.func 17) [(t 13), (i 0)]),
 o 15 (.bin .lss (t 14) (i 0)),
 o 16 (.mv (t 15)),
 og 17 16 true (.mv (t 1)),
 og 18 16 true (.ln (t 17)),
 og 19 16 true (.bin .eql (t 18) (i 1)),
 o 20 (.pick (t 16) (t 19) (b false)),
 o 21 (.mv (t 20)),
 og 22 21 true (.mv (t 1)),
 og 23 21 true (.ia 1 (t 22) (i 0)),
 og 24 21 true (.ld false 1 (t 23)),
 og 25 21 true (.mv (t 3)),
 og 26 21 true (.bin .eql (t 24) (t 25)),
 o 27 (.pick (t 21) (t 26) (b false)),
 o 8 (.mv (t 27))])
 .ret)
 .skip))
 (.seq (.ops [o 29 (.ld true 6 (t 4)),
 k 30 (.ca (.func 20) [(t 29)]),
 o 28 (.mv (t 30)),
 o 31 (.ex (t 28) 0),
 o 32 (.ex (t 28) 1),
 o 9 (.mv (t 31)),
 o 10 (.mv (t 32))])
 (.seq (.ops [o 33 (.mv (t 10)),
 o 34 (.mv (t 33)),
 og 35 34 true (.mv (t 9)),
 og 36 34 true (.mv (t 2)),
 og 37 34 true (.bin .eql (t 35) (t 36)),
 o 38 (.pick (t 34) (t 37) (b false)),
 o 39 (.mv (t 38)),
 og 40 39 true (.mv (t 1)),
 og 41 39 true (.ln (t 40)),
 og 42 39 true (.bin .eql (t 41) (i 0)),
 o 43 (.pick (t 39) (t 42) (b false)),
 o 8 (.mv (t 43))])
 .ret))))⟩
theorem e21 : slimF Tryz.prog Tryz.f21 [] = some c21 := by kernel_rfl
/-- cellar/cellarlaw4.wakes -/
def c23 : SF := ⟨33, [.t 0], (.seq (.ops [o 0 (.mv (b false))])
 (.seq (.ops [k 7 (.ca (.func 34) [(i 8), (i 1)]),
 k 8 (.ca (.func 34) [(i 8), (i 2)]),
 k 9 (.ca (.func 24) [(i 8), (i 1), (t 7), (t 8)]),
 o 6 (.mv (t 9)),
 o 10 (.ex (t 6) 0),
 o 11 (.ex (t 6) 1),
 o 12 (.ex (t 6) 2),
 k 1 (.al 30 [.int .i64 0, .bool false, .int .i64 0, .int .i64 0, .int .i64 0, .int .i64 0]),
 kn (.st [] 6 (t 1) (t 10)),
 o 2 (.mv (t 11)),
 o 3 (.mv (t 12))])
 (.seq (.ops [o 14 (.ld true 6 (t 1)),
 k 15 (.ca (.func 20) [(t 14)]),
 o 13 (.mv (t 15)),
 o 16 (.ex (t 13) 0),
 o 17 (.ex (t 13) 1),
 o 4 (.mv (t 16)),
 o 5 (.mv (t 17))])
 (.seq (.ops [o 18 (.mv (t 3)),
 k 19 (.ca (.func 15) [(t 18)]),
 o 20 (.bin .eql (t 19) (i 0)),
 o 21 (.mv (t 20)),
 og 22 21 true (.mv (t 2)),
 og 23 21 true (.ln (t 22)),
 og 24 21 true (.bin .eql (t 23) (i 0)),
 o 25 (.pick (t 21) (t 24) (b false)),
 o 26 (.mv (t 25)),
 og 27 26 true (.mv (t 5)),
 o 28 (.pick (t 26) (t 27) (b false)),
 o 29 (.mv (t 28)),
 og 30 29 true (.mv (t 4)),
 og 31 29 true (.bin .eql (t 30) (i 3)),
 o 32 (.pick (t 29) (t 31) (b false)),
 o 0 (.mv (t 32))])
 .ret))))⟩
theorem e23 : slimF Tryz.prog Tryz.f23 [] = some c23 := by kernel_rfl
/-- cellar/maths.Two -/
def c24 : SF := ⟨37, [.c true 6 8, .t 9, .t 10], (.seq (.ops [k 6 (.bx 30 (t 2)),
 k 7 (.bx 30 (t 3)),
 k 8 (.al 30 [.int .i64 0, .bool false, .int .i64 0, .int .i64 0, .int .i64 0, .int .i64 0]),
 o 9 (.mv (.const (.slice none 0 0))),
 o 10 (.mv (i 0))])
 (.seq (.seq (.ops [o 11 (.mv (t 0)),
 k 12 (.ca (.func 46) [(t 11)]),
 o 13 (.un .not (t 12)),
 o 14 (.mv (t 13)),
 og 15 14 false (.mv (t 1)),
 og 16 14 false (.ld true 6 (t 6)),
 ⟨some 17, some (14, false), .ca (.func 36) [(t 15), (t 16)]⟩,
 og 18 14 false (.un .not (t 17)),
 o 19 (.pick (t 14) (b true) (t 18)),
 o 20 (.mv (t 19)),
 og 21 20 false (.mv (t 1)),
 og 22 20 false (.ld true 6 (t 7)),
 ⟨some 23, some (20, false), .ca (.func 36) [(t 21), (t 22)]⟩,
 og 24 20 false (.un .not (t 23)),
 o 25 (.pick (t 20) (b true) (t 24))])
 (.cond (t 25)
 (.seq (.ops [o 26 (.ld true 6 (t 8)),
 kn (.st [] 6 (t 8) (t 26)),
 o 9 (.mv (.const (.slice none 0 0))),
 o 10 (.mv (i 1))])
 .ret)
 .skip))
 (.seq (.ops [o 28 (.mv (t 0)),
 o 29 (.mv (t 1)),
 o 30 (.ld true 6 (t 6)),
 o 31 (.ld true 6 (t 7)),
 k 32 (.ca (.func 47) [(t 28), (t 29), (t 30), (t 31)]),
 o 27 (.mv (t 32)),
 o 33 (.ex (t 27) 0),
 o 34 (.ex (t 27) 1),
 kn (.st [] 6 (t 8) (t 33)),
 o 9 (.mv (t 34))])
 (.seq (.ops [o 35 (.ld true 6 (t 8)),
 o 36 (.mv (t 9)),
 kn (.st [] 6 (t 8) (t 35)),
 o 9 (.mv (t 36)),
 o 10 (.mv (i 0))])
 .ret))))⟩
theorem e24 : slimF Tryz.prog Tryz.f24 [] = some c24 := by kernel_rfl
/-- cellar/cellarlaw4.fine -/
def c26 : SF := ⟨40, [.t 8], (.seq (.ops [k 6 (.bx 30 (t 2)),
 o 8 (.mv (b false))])
 (.seq (.seq (.opd [o 10 (.ld true 6 (t 6)),
 k 11 (.ca (.func 14) [(t 10)]),
 o 12 (.un .not (t 11)),
 o 13 (.mv (t 12)),
 og 14 13 false (.fa 0 (t 6)),
 og 15 13 false (.ld false 1 (t 14)),
 og 16 13 false (.mv (t 0)),
 og 17 13 false (.mv (t 1)),
 ⟨some 18, some (13, false), .ca (.func 48) [(t 16), (t 17)]⟩,
 og 19 13 false (.bin .neq (t 15) (t 18)),
 o 20 (.pick (t 13) (b true) (t 19)),
 o 21 (.mv (t 20)),
 og 22 21 false (.mv (t 3)),
 ⟨some 23, some (21, false), .ca (.func 49) [(t 22)]⟩,
 og 24 21 false (.un .not (t 23)),
 o 25 (.pick (t 21) (b true) (t 24))])
 (.cond (t 25)
 (.seq (.ops [o 8 (.mv (b false))])
 .ret)
 .skip))
 (.seq (.seq (.ops [o 9 (.mv (i 0))])
 (.block 0 (.loop (.seq (.seq (.ops [o 26 (.mv (t 9)),
 o 27 (.mv (t 3)),
 o 28 (.ln (t 27)),
 o 29 (.bin .lss (t 26) (t 28))])
 (.cond (t 29)
 .skip
 (.exit 0)))
 (.seq (.block 1 (.seq (.ops [o 32 (.mv (t 0)),
 o 33 (.mv (t 1)),
 o 34 (.mv (t 3)),
 o 35 (.mv (t 9)),
 o 36 (.ia 1 (t 34) (t 35)),
 o 37 (.ld false 1 (t 36)),
 k 38 (.ca (.func 50) [(t 32), (t 33), (t 37)]),
 o 39 (.un .not (t 38))])
 (.cond (t 39)
 (.seq (.ops [o 8 (.mv (b false))])
 .ret)
 .skip)))
 (.ops [o 30 (.mv (t 9)),
 o 31 (.bin .add (t 30) (i 1)),
 o 9 (.mv (t 31))]))))))
 (.seq (.ops [o 8 (.mv (b true))])
 .ret))))⟩
theorem e26 : slimF Tryz.prog Tryz.f26 [[(0, []), (1, []), (2, []), (3, []), (4, []), (5, []), (6, []), (7, []), (8, []), (9, []), (10, []), (11, []), (12, []), (13, []), (14, []), (15, [])]] = some c26 := by kernel_rfl
/-- cellar/cellarlaw4.holds -/
def c28 : SF := ⟨17, [.t 8], (.seq (.ops [k 4 (.bx 30 (t 0)),
 o 8 (.mv (b false))])
 (.seq (.seq (.ops [o 9 (.mv (t 3)),
 o 10 (.bin .neq (t 9) (i 0))])
 (.cond (t 10)
 (.seq (.ops [o 11 (.mv (t 1)),
 o 12 (.mv (t 3)),
 k 13 (.ca (.func 55) [(t 11), (t 12)]),
 o 8 (.mv (t 13))])
 .ret)
 .skip))
 (.seq (.ops [o 14 (.ld true 6 (t 4)),
 o 15 (.mv (t 2)),
 k 16 (.ca (.func 19) [(t 14), (t 15)]),
 o 8 (.mv (t 16))])
 .ret)))⟩
theorem e28 : slimF Tryz.prog Tryz.f28 [] = some c28 := by kernel_rfl
/-- cellar/maths.asked -/
def c36 : SF := ⟨18, [.t 4], (.seq (.ops [k 3 (.bx 30 (t 1)),
 o 4 (.mv (b false))])
 (.seq (.opd [o 5 (.mv (t 0)),
 k 6 (.ca (.func 37) [(t 5)]),
 o 7 (.mv (t 6)),
 og 8 7 true (.ld true 6 (t 3)),
 ⟨some 9, some (7, true), .ca (.func 58) [(t 8)]⟩,
 o 10 (.pick (t 7) (t 9) (b false)),
 o 11 (.mv (t 10)),
 og 12 11 true (.fa 0 (t 3)),
 og 13 11 true (.ld false 1 (t 12)),
 og 14 11 true (.mv (t 0)),
 ⟨some 15, some (11, true), .ca (.func 59) [(t 14)]⟩,
 og 16 11 true (.bin .eql (t 13) (t 15)),
 o 17 (.pick (t 11) (t 16) (b false)),
 o 4 (.mv (t 17))])
 .ret))⟩
theorem e36 : slimF Tryz.prog Tryz.f36 [[(0, []), (1, []), (2, []), (3, []), (4, []), (5, []), (6, []), (7, []), (8, []), (9, []), (10, []), (11, []), (12, []), (13, [])]] = some c36 := by kernel_rfl
/-- cellar/maths.Do -/
def c47 : SF := ⟨88, [.c true 6 8, .t 9], (.seq (.ops [k 6 (.bx 30 (t 2)),
 k 7 (.bx 30 (t 3)),
 k 8 (.al 30 [.int .i64 0, .bool false, .int .i64 0, .int .i64 0, .int .i64 0, .int .i64 0]),
 o 9 (.mv (.const (.slice none 0 0)))])
 (.seq (.ops [o 19 (.mv (t 0)),
 o 20 (.mv (t 1)),
 k 21 (.ca (.func 71) [(t 19), (t 20)]),
 k 22 (.ca (.func 61) [(t 21)]),
 o 23 (.bd [.int .i64 0, .bool false, .int .i64 0, .int .i64 0, .int .i64 0, .int .i64 0, .slice none 0 0] [(0, 6, (t 22))]),
 k 24 (.bx 77 (t 23)),
 o 10 (.mv (t 24))])
 (.seq (.seq (.ops [o 25 (.ld true 6 (t 6)),
 k 26 (.ca (.func 72) [(t 25)]),
 o 27 (.mv (t 26)),
 og 28 27 false (.ld true 6 (t 7)),
 ⟨some 29, some (27, false), .ca (.func 72) [(t 28)]⟩,
 o 30 (.pick (t 27) (b true) (t 29))])
 (.cond (t 30)
 (.seq (.ops [o 31 (.mv (t 10)),
 k 32 (.ca (.func 73) [(t 31)]),
 o 33 (.ex (t 32) 0),
 o 34 (.ex (t 32) 1),
 kn (.st [] 6 (t 8) (t 33)),
 o 9 (.mv (t 34))])
 .ret)
 .skip))
 (.seq (.ops [o 36 (.ld true 6 (t 6)),
 k 37 (.ca (.func 60) [(t 36), (i 16)]),
 o 35 (.mv (t 37)),
 o 38 (.ex (t 35) 0),
 o 39 (.ex (t 35) 1),
 o 11 (.mv (t 38)),
 o 12 (.mv (t 39))])
 (.seq (.ops [o 41 (.ld true 6 (t 7)),
 k 42 (.ca (.func 60) [(t 41), (i 16)]),
 o 40 (.mv (t 42)),
 o 43 (.ex (t 40) 0),
 o 44 (.ex (t 40) 1),
 o 13 (.mv (t 43)),
 o 14 (.mv (t 44))])
 (.seq (.seq (.ops [o 45 (.mv (t 12)),
 o 46 (.un .not (t 45)),
 o 47 (.mv (t 46)),
 og 48 47 false (.mv (t 14)),
 og 49 47 false (.un .not (t 48)),
 o 50 (.pick (t 47) (b true) (t 49))])
 (.cond (t 50)
 (.seq (.ops [o 51 (.mv (t 10)),
 o 52 (.mv (t 0)),
 o 53 (.mv (t 1)),
 o 54 (.ld true 6 (t 6)),
 o 55 (.ld true 6 (t 7)),
 k 56 (.ca (.func 74) [(t 51), (t 52), (t 53), (t 54), (t 55)])])
 (.seq (.ops [o 57 (.mv (t 10)),
 k 58 (.ca (.func 73) [(t 57)]),
 o 59 (.ex (t 58) 0),
 o 60 (.ex (t 58) 1),
 kn (.st [] 6 (t 8) (t 59)),
 o 9 (.mv (t 60))])
 .ret))
 .skip))
 (.seq (.seq (.ops [o 61 (.mv (t 11)),
 o 62 (.ln (t 61)),
 o 63 (.mv (i 0))])
 (.block 0 (.loop (.seq (.ops [o 64 (.bin .lss (t 63) (t 62))])
 (.seq (.cond (t 64)
 .skip
 (.exit 0))
 (.seq (.block 1 (.seq (.ops [o 65 (.ia 1 (t 61) (t 63)),
 o 66 (.ld false 1 (t 65)),
 o 16 (.mv (t 66))])
 (.seq (.ops [o 67 (.mv (t 13)),
 o 68 (.ln (t 67)),
 o 69 (.mv (i 0))])
 (.block 2 (.loop (.seq (.ops [o 70 (.bin .lss (t 69) (t 68))])
 (.seq (.cond (t 70)
 .skip
 (.exit 2))
 (.seq (.block 3 (.seq (.ops [o 71 (.ia 1 (t 67) (t 69)),
 o 72 (.ld false 1 (t 71)),
 o 18 (.mv (t 72))])
 (.ops [o 73 (.mv (t 10)),
 o 74 (.mv (t 0)),
 o 75 (.mv (t 1)),
 o 76 (.mv (t 16)),
 o 77 (.mv (t 18)),
 k 78 (.ca (.func 75) [(t 74), (t 75), (t 76), (t 77)]),
 o 79 (.ex (t 78) 0),
 o 80 (.ex (t 78) 1),
 k 81 (.ca (.func 62) [(t 73), (t 79), (t 80)])])))
 (.ops [o 82 (.bin .add (t 69) (i 1)),
 o 69 (.mv (t 82))])))))))))
 (.ops [o 83 (.bin .add (t 63) (i 1)),
 o 63 (.mv (t 83))])))))))
 (.seq (.ops [o 84 (.mv (t 10)),
 k 85 (.ca (.func 73) [(t 84)]),
 o 86 (.ex (t 85) 0),
 o 87 (.ex (t 85) 1),
 kn (.st [] 6 (t 8) (t 86)),
 o 9 (.mv (t 87))])
 .ret))))))))⟩
theorem e47 : slimF Tryz.prog Tryz.f47 [] = some c47 := by kernel_rfl
/-- cellar/cellarref15.Classes -/
def c49 : SF := ⟨32, [.t 2], (.seq (.ops [o 2 (.mv (b false))])
 (.seq (.seq (.ops [o 3 (.mv (i 0))])
 (.block 0 (.loop (.seq (.seq (.ops [o 4 (.mv (t 3)),
 o 5 (.mv (t 0)),
 o 6 (.ln (t 5)),
 o 7 (.bin .lss (t 4) (t 6))])
 (.cond (t 7)
 .skip
 (.exit 0)))
 (.seq (.block 1 (.seq (.opq [o 10 (.mv (t 0)),
 o 11 (.mv (t 3)),
 o 12 (.ia 1 (t 10) (t 11)),
 o 13 (.ld false 1 (t 12)),
 k 14 (.ca (.func 45) [(t 13), (i 1), (i 10)]),
 o 15 (.un .not (t 14)),
 o 16 (.mv (t 15)),
 og 17 16 false (.mv (t 3)),
 og 18 16 false (.bin .gtr (t 17) (i 0)),
 og 19 16 false (.mv (t 18)),
 og 20 19 true (.mv (t 0)),
 og 21 19 true (.mv (t 3)),
 og 22 19 true (.bin .sub (t 21) (i 1)),
 og 23 19 true (.ia 1 (t 20) (t 22)),
 og 24 19 true (.ld false 1 (t 23)),
 og 25 19 true (.mv (t 0)),
 og 26 19 true (.mv (t 3)),
 og 27 19 true (.ia 1 (t 25) (t 26)),
 og 28 19 true (.ld false 1 (t 27)),
 og 29 19 true (.bin .geq (t 24) (t 28)),
 og 30 16 false (.pick (t 19) (t 29) (b false)),
 o 31 (.pick (t 16) (b true) (t 30))])
 (.cond (t 31)
 (.seq (.ops [o 2 (.mv (b false))])
 .ret)
 .skip)))
 (.ops [o 8 (.mv (t 3)),
 o 9 (.bin .add (t 8) (i 1)),
 o 3 (.mv (t 9))]))))))
 (.seq (.ops [o 2 (.mv (b true))])
 .ret)))⟩
theorem e49 : slimF Tryz.prog Tryz.f49 [[(0, []), (1, []), (2, []), (3, []), (4, []), (5, []), (6, []), (7, []), (8, []), (9, []), (10, []), (11, []), (12, []), (13, []), (14, []), (15, []), (16, []), (17, []), (18, []), (19, []), (20, []), (21, [])]] = some c49 := by kernel_rfl
/-- cellar/cellarlaw4.can -/
def c50 : SF := ⟨38, [.t 6], (.seq (.ops [o 6 (.mv (b false))])
 (.seq (.ops [o 8 (.mv (t 1)),
 k 9 (.ca (.func 52) [(t 8)]),
 o 7 (.mv (t 9))])
 (.seq (.seq (.ops [o 10 (.mv (t 0))])
 (.block 0 (.seq (.seq (.ops [o 12 (.bin .eql (t 10) (i 8)),
 o 11 (.mv (t 12))])
 (.cond (t 11)
 .skip
 (.seq (.ops [o 13 (.bin .eql (t 10) (i 9)),
 o 11 (.mv (t 13))])
 (.cond (t 11)
 .skip
 (.seq (.ops [o 14 (.bin .eql (t 10) (i 10)),
 o 11 (.mv (t 14))])
 (.cond (t 11)
 .skip
 (.ops [o 15 (.bin .eql (t 10) (i 5)),
 o 11 (.mv (t 15))])))))))
 (.cond (t 11)
 (.seq (.ops [o 16 (.mv (t 7)),
 o 17 (.mv (t 16)),
 og 18 17 true (.mv (t 2)),
 og 19 17 true (.bin .eql (t 18) (i 4)),
 o 20 (.pick (t 17) (t 19) (b false)),
 o 6 (.mv (t 20))])
 .ret)
 (.seq (.seq (.ops [o 22 (.bin .eql (t 10) (i 11)),
 o 21 (.mv (t 22))])
 (.cond (t 21)
 .skip
 (.ops [o 23 (.bin .eql (t 10) (i 12)),
 o 21 (.mv (t 23))])))
 (.cond (t 21)
 (.seq (.ops [o 24 (.mv (t 2)),
 o 25 (.bin .eql (t 24) (i 6)),
 o 26 (.mv (t 25)),
 og 27 26 false (.mv (t 7)),
 og 28 26 false (.mv (t 27)),
 og 29 28 true (.mv (t 2)),
 og 30 28 true (.bin .eql (t 29) (i 4)),
 og 31 26 false (.pick (t 28) (t 30) (b false)),
 o 32 (.pick (t 26) (b true) (t 31)),
 o 6 (.mv (t 32))])
 .ret)
 (.seq (.seq (.ops [o 34 (.bin .eql (t 10) (i 16)),
 o 33 (.mv (t 34))])
 (.cond (t 33)
 .skip
 (.ops [o 35 (.bin .eql (t 10) (i 17)),
 o 33 (.mv (t 35))])))
 (.cond (t 33)
 (.seq (.ops [o 36 (.mv (t 2)),
 o 37 (.bin .eql (t 36) (i 5)),
 o 6 (.mv (t 37))])
 .ret)
 .skip))))))))
 (.seq (.ops [o 6 (.mv (b false))])
 .ret))))⟩
theorem e50 : slimF Tryz.prog Tryz.f50 [] = some c50 := by kernel_rfl
/-- cellar/cellarref15.Class -/
def c55 : SF := ⟨9, [.t 4], (.seq (.ops [o 4 (.mv (b false))])
 (.seq (.ops [o 5 (.mv (t 0)),
 o 6 (.mv (t 1)),
 k 7 (.ca (.func 69) [(t 5), (t 6)]),
 o 8 (.bin .geq (t 7) (i 0)),
 o 4 (.mv (t 8))])
 .ret))⟩
theorem e55 : slimF Tryz.prog Tryz.f55 [] = some c55 := by kernel_rfl
end Go.Proofs.Tryz.S
/- Contracts: an operator of two sets. -/
namespace Go.Proofs.Tryz.K
open Go Go.Ax Go.Proofs.Tryz.S
set_option maxRecDepth 100000
set_option linter.unusedSimpArgs false
set_option linter.unusedVariables false
set_option maxHeartbeats 4000000
variable (F : Fz) (M : Hp)

/-- A row of numbers in a block of the call's own. -/
def RowI (M : Hp) (u : Value) (l : List Int) : Prop := (u = .slice none 0 0 ∧ l = []) ∨ ∃ g cap n, u = .slice (some ⟨g, 0, none⟩) l.length cap ∧ M g = some ⟨l.map intV, 3, n⟩
theorem RowI.keep {M M' : Hp} {u : Value} {l : List Int} (h : RowI M u l) (kp : Keep M M') : RowI M' u l := by
  rcases h with h | ⟨g, cap, n, h1, h2⟩
  · exact .inl h
  · exact .inr ⟨g, cap, n, h1, kp _ _ h2⟩
theorem RowI.shape {M : Hp} {u : Value} {l : List Int} (h : RowI M u l) : ∃ a c, u = .slice a l.length c := by
  rcases h with ⟨h1, h2⟩ | ⟨g, cap, n, h1, h2⟩
  · exact ⟨none, 0, by rw [h1, h2]; rfl⟩
  · exact ⟨_, cap, h1⟩
theorem RowI.get {F : Fz} {M : Hp} {u : Value} {l : List Int} (h : RowI M u l) {i : Nat} (hi : i < l.length) : ∃ g cap, u = .slice (some ⟨g, 0, none⟩) l.length cap ∧ blk F M g = some (l.map intV) ∧ (l.map intV)[i]? = some (.int .i64 l[i]) := by
  rcases h with ⟨h1, h2⟩ | ⟨g, cap, n, h1, h2⟩
  · rw [h2] at hi; simp at hi
  · exact ⟨g, cap, h1, blk_M h2, by simp [hi, intV]⟩
theorem memR.row {v : V} {F : Fz} {M : Hp} {u : Value} {F' : Fz} {M' : Hp} (h : memR v 16 F M u F' M') :
    F' = F ∧ Le F M F M' ∧ Keep M M' ∧ (Old F M → Old F M') ∧ ∃ q ok, u = .tuple #[q, .bool ok] ∧ ((ok = true ∧ (v.members 16).length ≤ 16 ∧ RowI M' q (v.members 16)) ∨ (ok = false ∧ ¬ (v.members 16).length ≤ 16)) := by
  obtain ⟨hF, ⟨h1, ⟨h2, rfl, rfl⟩ | ⟨g, cap, h2, h3, rfl, rfl⟩⟩ | ⟨h1, rfl, rfl⟩⟩ := h
  · exact ⟨hF, Le.refl _ _, Keep.refl _, fun h => h, _, true, rfl, .inl ⟨rfl, h1, .inl ⟨rfl, h2⟩⟩⟩
  · exact ⟨hF, Le.upd h2 h3, (Keep.refl _).new h3, fun h => h.upd h2, _, true, rfl, .inl ⟨rfl, h1, .inr ⟨g, cap, _, rfl, Hp.upd_same _ _ _⟩⟩⟩
  · exact ⟨hF, Le.refl _ _, Keep.refl _, fun h => h, _, false, rfl, .inr ⟨rfl, by omega⟩⟩
/-- All blocks but one. -/
def del (M : Hp) (r : Nat) : Hp := fun b => if b = r then none else M b
theorem Held.base {F : Fz} {M0 M : Hp} {r : Nat} {z : V} (h : Held F M0 M r z (.slice none 0 0) []) : Held F (del M r) M r z (.slice none 0 0) [] :=
  ⟨h.blk, MineG.nil, by simp [del], fun b e hb => by
    unfold del at hb
    split at hb
    · cases hb
    · exact hb, h.old⟩
theorem del_keep {M M' : Hp} {r : Nat} (h : Keep M M') (hr : M r = none) : Keep M (del M' r) := fun b e hb => by
  unfold del
  rw [if_neg]
  · exact h b e hb
  · rintro rfl; rw [hr] at hb; cases hb
theorem Held.rebase {F : Fz} {M Mb M' : Hp} {r : Nat} {z : V} {u : Value} {l : List Int} (h : Held F Mb M' r z u l) (kp : Keep M Mb) : Held F M M' r z u l :=
  ⟨h.blk, ⟨h.row.own, fun g n c e => kp.free (h.row.new g n c e)⟩, kp.free h.r0, kp.trans h.kp, h.old⟩
theorem Held.keep {F : Fz} {M0 M M' : Hp} {r : Nat} {z : V} {u : Value} {l : List Int} (h : Held F M0 M r z u l) (kp : Keep M M') (o : Old F M') : Held F M0 M' r z u l :=
  ⟨kp _ _ h.blk, h.row.keep kp, h.r0, h.kp.trans kp, o⟩
/-- What an operator of two sets hands back. -/
def doP (op k : Int) (a b : V) (F : Fz) (M : Hp) (v : Value) (F' : Fz) (M' : Hp) : Prop :=
  ∃ z l u, v = .tuple #[z.val, u] ∧ DoR op k a b z l ∧ l.Pairwise (· < ·) ∧ rowR 1 intC 3 l F M u F' M'
theorem Held.fin {op k : Int} {a b : V} {F : Fz} {M M' : Hp} {r : Nat} {z : V} {u : Value} {l : List Int} (h : Held F M M' r z u l) (hd : DoR op k a b z l) (hp : l.Pairwise (· < ·)) : endK F M' (doP op k a b F M) (.tuple #[z.val, u]) := by
  obtain ⟨M1, k1, k2, hr⟩ := h.row.alone h.kp
  exact ⟨F, M1, k1.wk F, z, l, u, rfl, hd, hp, hr⟩
/-- On the way through an operator of two sets. -/
structure DA (op k : Int) (a b : V) (r r8 : Nat) (F0 : Fz) (M1 : Hp) (σ : Env) (F : Fz) (M : Hp) : Prop where
  ff : F = F0
  held : Held F0 M1 M r (V.nothing (ansW op k)) (.slice none 0 0) []
  h0 : Ax.look σ 0 = some (.int .i64 op)
  h1 : Ax.look σ 1 = some (.int .i64 k)
  h6 : ∃ r6, Ax.look σ 6 = some (.pointer (some ⟨r6, 0, none⟩)) ∧ M r6 = some ⟨a.cs, 30, 6⟩
  h7 : ∃ r7, Ax.look σ 7 = some (.pointer (some ⟨r7, 0, none⟩)) ∧ M r7 = some ⟨b.cs, 30, 6⟩
  h8 : Ax.look σ 8 = some (.pointer (some ⟨r8, 0, none⟩))
  f8 : M r8 = some ⟨[.int .i64 0, .bool false, .int .i64 0, .int .i64 0, .int .i64 0, .int .i64 0], 30, 6⟩
  n8 : M1 r8 = none
  h10 : Ax.look σ 10 = some (.pointer (some ⟨r, 0, none⟩))
def DAe (op k : Int) (a b : V) (F0 : Fz) (M1 : Hp) (σ : Env) (F : Fz) (M : Hp) : Prop := ∃ r r8, DA op k a b r r8 F0 M1 σ F M
theorem DA.ext {op k : Int} {a b : V} {r r8 : Nat} {F0 : Fz} {M1 : Hp} {σ σ' : Env} {F : Fz} {M : Hp} (s : DA op k a b r r8 F0 M1 σ F M) (e0 : Ax.look σ' 0 = Ax.look σ 0) (e1 : Ax.look σ' 1 = Ax.look σ 1) (e6 : Ax.look σ' 6 = Ax.look σ 6) (e7 : Ax.look σ' 7 = Ax.look σ 7) (e8 : Ax.look σ' 8 = Ax.look σ 8) (e10 : Ax.look σ' 10 = Ax.look σ 10) : DA op k a b r r8 F0 M1 σ' F M := by
  obtain ⟨r6, h6, f6⟩ := s.h6
  obtain ⟨r7, h7, f7⟩ := s.h7
  exact ⟨s.ff, s.held, e0.trans s.h0, e1.trans s.h1, ⟨r6, e6.trans h6, f6⟩, ⟨r7, e7.trans h7, f7⟩, e8.trans s.h8, s.f8, s.n8, e10.trans s.h10⟩
theorem DA.grow {op k : Int} {a b : V} {r r8 : Nat} {F0 : Fz} {M1 : Hp} {σ : Env} {F : Fz} {M M' : Hp} (s : DA op k a b r r8 F0 M1 σ F M) (kp : Keep M M') (o : Old F0 M') : DA op k a b r r8 F0 M1 σ F M' := by
  obtain ⟨r6, h6, f6⟩ := s.h6
  obtain ⟨r7, h7, f7⟩ := s.h7
  exact ⟨s.ff, s.held.keep kp o, s.h0, s.h1, ⟨r6, h6, kp _ _ f6⟩, ⟨r7, h7, kp _ _ f7⟩, s.h8, kp _ _ s.f8, s.n8, s.h10⟩
theorem DA.ne {op k : Int} {a b : V} {r r8 : Nat} {F0 : Fz} {M1 : Hp} {σ : Env} {F : Fz} {M : Hp} (s : DA op k a b r r8 F0 M1 σ F M) : ¬ r8 = r := by
  rintro rfl
  have := s.held.blk
  rw [s.f8] at this
  have := congrArg (Option.map Ent.size) this
  simp at this
/-- Told, at the end. -/
theorem told_end {op k : Int} {a b : V} {r r8 : Nat} {F : Fz} {M1 M M2 : Hp} {z : V} {l : List Int} {w : Value} {G : Fz} (n8 : M1 r8 = none) (ne : ¬ r8 = r)
    (f8 : M r8 = some ⟨[.int .i64 0, .bool false, .int .i64 0, .int .i64 0, .int .i64 0, .int .i64 0], 30, 6⟩)
    (hd : DoR op k a b z l) (h : toldP M1 r z l F M w G M2) : G = F ∧ M2 r8 = some ⟨[.int .i64 0, .bool false, .int .i64 0, .int .i64 0, .int .i64 0, .int .i64 0], 30, 6⟩ ∧ ∃ u, w = .tuple #[z.val, u] ∧ endK F (M2.upd r8 ⟨z.cs, 30, 6⟩) (doP op k a b F M1) (.tuple #[z.val, u]) := by
  obtain ⟨hG, u', l', rfl, hh, hr, hp, hri⟩ := h
  have f82 := hr _ _ f8 ne (by decide)
  exact ⟨hG, f82, u', rfl, (hh.other f82 (by decide) ne n8).fin (hd.perm hp) (hri hd.nd)⟩
structure DB (op k : Int) (a b : V) (r r8 : Nat) (F0 : Fz) (M1 : Hp) (σ : Env) (F : Fz) (M : Hp) : Prop extends DA op k a b r r8 F0 M1 σ F M where
  x : ∃ q ok, Ax.look σ 11 = some q ∧ Ax.look σ 12 = some (.bool ok) ∧ ((ok = true ∧ (a.members 16).length ≤ 16 ∧ RowI M q (a.members 16)) ∨ (ok = false ∧ ¬ (a.members 16).length ≤ 16))
  y : ∃ q ok, Ax.look σ 13 = some q ∧ Ax.look σ 14 = some (.bool ok) ∧ ((ok = true ∧ (b.members 16).length ≤ 16 ∧ RowI M q (b.members 16)) ∨ (ok = false ∧ ¬ (b.members 16).length ≤ 16))
/-- On the way through all pairs. -/
structure DL (op k : Int) (r r8 : Nat) (qx qy : Value) (x y : List Int) (Mb : Hp) (R : List (Int × Int)) (F0 : Fz) (σ : Env) (F : Fz) (M : Hp) : Prop where
  ff : F = F0
  held : ∃ z u l, Held F0 Mb M r z u l ∧ AddI (ansW op k) R z l
  h0 : Ax.look σ 0 = some (.int .i64 op)
  h1 : Ax.look σ 1 = some (.int .i64 k)
  h8 : Ax.look σ 8 = some (.pointer (some ⟨r8, 0, none⟩))
  h10 : Ax.look σ 10 = some (.pointer (some ⟨r, 0, none⟩))
  h13 : Ax.look σ 13 = some qy
  h61 : Ax.look σ 61 = some qx
  h62 : Ax.look σ 62 = some (.int .i64 x.length)
theorem DL.ext {op k : Int} {r r8 : Nat} {qx qy : Value} {x y : List Int} {Mb : Hp} {R : List (Int × Int)} {F0 : Fz} {σ σ' : Env} {F : Fz} {M : Hp} (s : DL op k r r8 qx qy x y Mb R F0 σ F M) (e0 : Ax.look σ' 0 = Ax.look σ 0) (e1 : Ax.look σ' 1 = Ax.look σ 1) (e8 : Ax.look σ' 8 = Ax.look σ 8) (e10 : Ax.look σ' 10 = Ax.look σ 10) (e13 : Ax.look σ' 13 = Ax.look σ 13) (e61 : Ax.look σ' 61 = Ax.look σ 61) (e62 : Ax.look σ' 62 = Ax.look σ 62) : DL op k r r8 qx qy x y Mb R F0 σ' F M :=
  ⟨s.ff, s.held, e0.trans s.h0, e1.trans s.h1, e8.trans s.h8, e10.trans s.h10, e13.trans s.h13, e61.trans s.h61, e62.trans s.h62⟩
def dI (op k : Int) (r r8 : Nat) (qx qy : Value) (x y : List Int) (Mb : Hp) (F0 : Fz) (m : Nat) (σ : Env) (F : Fz) (M : Hp) : Prop :=
  ∃ i : Nat, DL op k r r8 qx qy x y Mb (pairsL op k (x.take i) y) F0 σ F M ∧ i + m = x.length ∧ Ax.look σ 63 = some (.int .i64 i)
def dJ (op k : Int) (r r8 : Nat) (qx qy : Value) (x y : List Int) (Mb : Hp) (F0 : Fz) (i : Nat) (xi : Int) (m : Nat) (σ : Env) (F : Fz) (M : Hp) : Prop :=
  ∃ j : Nat, DL op k r r8 qx qy x y Mb (pairsL op k (x.take i) y ++ (y.take j).map (twoK op k xi)) F0 σ F M ∧ j + m = y.length ∧ Ax.look σ 63 = some (.int .i64 i) ∧ Ax.look σ 16 = some (.int .i64 xi) ∧ Ax.look σ 67 = some qy ∧ Ax.look σ 68 = some (.int .i64 y.length) ∧ Ax.look σ 69 = some (.int .i64 j)
theorem pairsL_can {op k : Int} {x y : List Int} : ∀ r ∈ pairsL op k x y, r.2 = 0 ∨ canK op k r.2 = true := fun r hr => by
  unfold pairsL at hr
  rw [List.mem_flatMap] at hr
  obtain ⟨u, _, hr⟩ := hr
  rw [List.mem_map] at hr
  obtain ⟨v, _, rfl⟩ := hr
  exact two_can
theorem pairsL_succ {op k : Int} {x y : List Int} {i : Nat} (hi : i < x.length) : pairsL op k (x.take (i + 1)) y = pairsL op k (x.take i) y ++ y.map (twoK op k x[i]) := by
  unfold pairsL
  rw [List.take_succ_eq_append_getElem hi, List.flatMap_append]
  simp only [List.flatMap_cons, List.flatMap_nil, List.append_nil]
theorem k47 (op k : Int) (a b : V) (hold : Old F M) (hop : isTwo op = true) (hk : isK k = true) (ha : a.ok = true) (hb : b.ok = true) (wa : a.w = ofW k) (wb : b.w = ofW k) :
    CallsA Tryz.prog 47 [.int .i64 op, .int .i64 k, a.val, b.val] F M (doP op k a b F M) := by
  refine callsA_of hm Tryz.func47 e47 (Nat.le_of_ble_eq_true rfl) ?_
  have hz0 := nothing_ok (ansW_isW op k)
  simp only [c47]
  rw [Go.Ax.seq_assoc]
  refine cut (DAe op k a b F M) ?_ ?_
  · simp only [go_sem, reduceCtorEq, reduceIte, Nat.reduceEqDiff, Nat.reduceAdd, Nat.reduceLeDiff, Nat.reduceMul, Int.reduceLT, Int.reduceLE, Int.reduceAdd, Int.reduceSub, Int.reduceMul, Int.reduceNeg, Int.reduceToNat, Int.reduceEq]
    intro r6 hF6 hM6
    simp only [go_sem, reduceCtorEq, reduceIte, Nat.reduceEqDiff, Nat.reduceAdd, Nat.reduceLeDiff, Nat.reduceMul, Int.reduceLT, Int.reduceLE, Int.reduceAdd, Int.reduceSub, Int.reduceMul, Int.reduceNeg, Int.reduceToNat, Int.reduceEq]
    intro r7 hF7 hM7
    have g7 := fresh_of hM7
    simp only [go_sem, reduceCtorEq, reduceIte, Nat.reduceEqDiff, Nat.reduceAdd, Nat.reduceLeDiff, Nat.reduceMul, Int.reduceLT, Int.reduceLE, Int.reduceAdd, Int.reduceSub, Int.reduceMul, Int.reduceNeg, Int.reduceToNat, Int.reduceEq]
    intro r8 hF8 hM8
    have g8 := fresh_of hM8
    have g86 := fresh_of g8.2.2
    simp only [go_sem, reduceCtorEq, reduceIte, Nat.reduceEqDiff, Nat.reduceAdd, Nat.reduceLeDiff, Nat.reduceMul, Int.reduceLT, Int.reduceLE, Int.reduceAdd, Int.reduceSub, Int.reduceMul, Int.reduceNeg, Int.reduceToNat, Int.reduceEq, g7, g8, g86]
    refine callK_same (k71 F _ op k hk) ?_
    simp only [go_sem, reduceCtorEq, reduceIte, Nat.reduceEqDiff, Nat.reduceAdd, Nat.reduceLeDiff, Nat.reduceMul, Int.reduceLT, Int.reduceLE, Int.reduceAdd, Int.reduceSub, Int.reduceMul, Int.reduceNeg, Int.reduceToNat, Int.reduceEq, g7, g8, g86]
    refine callK_same (k61 F _ _) ?_
    simp only [go_sem, reduceCtorEq, reduceIte, Nat.reduceEqDiff, Nat.reduceAdd, Nat.reduceLeDiff, Nat.reduceMul, Int.reduceLT, Int.reduceLE, Int.reduceAdd, Int.reduceSub, Int.reduceMul, Int.reduceNeg, Int.reduceToNat, Int.reduceEq, g7, g8, g86]
    intro r hF hM
    simp only [go_sem, reduceCtorEq, reduceIte, Nat.reduceEqDiff, Nat.reduceAdd, Nat.reduceLeDiff, Nat.reduceMul, Int.reduceLT, Int.reduceLE, Int.reduceAdd, Int.reduceSub, Int.reduceMul, Int.reduceNeg, Int.reduceToNat, Int.reduceEq, g7, g8, g86]
    have gr := fresh_of hM
    have gr7 := fresh_of gr.2.2
    have gr6 := fresh_of gr7.2.2
    exact ⟨r, r8, ⟨rfl, ⟨Hp.upd_same _ _ _, MineG.nil, gr6.2.2, ((((Keep.refl M).new hM6).new g7.2.2).new g86.2.2).new gr6.2.2, (((hold.upd hF6).upd hF7).upd hF8).upd hF⟩, by simp only [go_sem, reduceCtorEq, reduceIte, Nat.reduceEqDiff], by simp only [go_sem, reduceCtorEq, reduceIte, Nat.reduceEqDiff],
      ⟨r6, by simp only [go_sem, reduceCtorEq, reduceIte, Nat.reduceEqDiff], by rw [Hp.upd_ne' gr6.2.1, Hp.upd_ne' g86.2.1, Hp.upd_ne' g7.2.1]; exact Hp.upd_same _ _ _⟩, ⟨r7, by simp only [go_sem, reduceCtorEq, reduceIte, Nat.reduceEqDiff], by rw [Hp.upd_ne' gr7.2.1, Hp.upd_ne' g8.2.1]; exact Hp.upd_same _ _ _⟩, by simp only [go_sem, reduceCtorEq, reduceIte, Nat.reduceEqDiff], by rw [Hp.upd_ne' gr.2.1]; exact Hp.upd_same _ _ _, g86.2.2, by simp only [go_sem, reduceCtorEq, reduceIte, Nat.reduceEqDiff]⟩⟩
  rintro σ F' M' ⟨r, r8, s⟩
  obtain rfl := s.ff
  have ne := s.ne
  by_cases hv : a.nextR 0 < 0 ∨ b.nextR 0 < 0
  · have dv := do_void (op := op) (k := k) ha hb hv
    obtain ⟨r6, h6, f6⟩ := s.h6
    obtain ⟨r7, h7, f7⟩ := s.h7
    have b6 := blk_M (F := F') f6
    have b7 := blk_M (F := F') f7
    have call := k73 F' M' M r _ _ [] s.held (by simp)
    by_cases hv1 : a.nextR 0 < 0
    · simp only [go_sem, reduceCtorEq, reduceIte, Nat.reduceEqDiff, Nat.reduceAdd, Nat.reduceLeDiff, Nat.reduceMul, Int.reduceLT, Int.reduceLE, Int.reduceAdd, Int.reduceSub, Int.reduceMul, Int.reduceNeg, Int.reduceToNat, Int.reduceEq, h6, h7, b6, b7]
      refine callK_same (k72 F' _ a ha) ?_
      simp only [go_sem, reduceCtorEq, reduceIte, Nat.reduceEqDiff, Nat.reduceAdd, Nat.reduceLeDiff, Nat.reduceMul, Int.reduceLT, Int.reduceLE, Int.reduceAdd, Int.reduceSub, Int.reduceMul, Int.reduceNeg, Int.reduceToNat, Int.reduceEq, h6, h7, b6, b7, hv1, s.h10, s.h8]
      refine callK_of call ?_
      rintro w G M2 ht
      obtain ⟨hG, f82, u, rfl, he⟩ := told_end s.n8 ne s.f8 dv ht
      rw [hG]
      refine ⟨(fun h => by cases h), ?_⟩
      simp only [go_sem, reduceCtorEq, reduceIte, Nat.reduceEqDiff, Nat.reduceAdd, Nat.reduceLeDiff, Nat.reduceMul, Int.reduceLT, Int.reduceLE, Int.reduceAdd, Int.reduceSub, Int.reduceMul, Int.reduceNeg, Int.reduceToNat, Int.reduceEq, s.h8, f82]
      simp only [setH, go_sem, reduceCtorEq, reduceIte, Nat.reduceEqDiff, Nat.reduceAdd, Nat.reduceLeDiff, Nat.reduceMul, Int.reduceLT, Int.reduceLE, Int.reduceAdd, Int.reduceSub, Int.reduceMul, Int.reduceNeg, Int.reduceToNat, Int.reduceEq]
      exact he
    · have hv2 : b.nextR 0 < 0 := hv.resolve_left hv1
      simp only [go_sem, reduceCtorEq, reduceIte, Nat.reduceEqDiff, Nat.reduceAdd, Nat.reduceLeDiff, Nat.reduceMul, Int.reduceLT, Int.reduceLE, Int.reduceAdd, Int.reduceSub, Int.reduceMul, Int.reduceNeg, Int.reduceToNat, Int.reduceEq, h6, h7, b6, b7]
      refine callK_same (k72 F' _ a ha) ?_
      simp only [go_sem, reduceCtorEq, reduceIte, Nat.reduceEqDiff, Nat.reduceAdd, Nat.reduceLeDiff, Nat.reduceMul, Int.reduceLT, Int.reduceLE, Int.reduceAdd, Int.reduceSub, Int.reduceMul, Int.reduceNeg, Int.reduceToNat, Int.reduceEq, h6, h7, b6, b7, hv1]
      refine callK_same (k72 F' _ b hb) ?_
      simp only [go_sem, reduceCtorEq, reduceIte, Nat.reduceEqDiff, Nat.reduceAdd, Nat.reduceLeDiff, Nat.reduceMul, Int.reduceLT, Int.reduceLE, Int.reduceAdd, Int.reduceSub, Int.reduceMul, Int.reduceNeg, Int.reduceToNat, Int.reduceEq, h6, h7, b6, b7, hv2, s.h10, s.h8]
      refine callK_of call ?_
      rintro w G M2 ht
      obtain ⟨hG, f82, u, rfl, he⟩ := told_end s.n8 ne s.f8 dv ht
      rw [hG]
      refine ⟨(fun h => by cases h), ?_⟩
      simp only [go_sem, reduceCtorEq, reduceIte, Nat.reduceEqDiff, Nat.reduceAdd, Nat.reduceLeDiff, Nat.reduceMul, Int.reduceLT, Int.reduceLE, Int.reduceAdd, Int.reduceSub, Int.reduceMul, Int.reduceNeg, Int.reduceToNat, Int.reduceEq, s.h8, f82]
      simp only [setH, go_sem, reduceCtorEq, reduceIte, Nat.reduceEqDiff, Nat.reduceAdd, Nat.reduceLeDiff, Nat.reduceMul, Int.reduceLT, Int.reduceLE, Int.reduceAdd, Int.reduceSub, Int.reduceMul, Int.reduceNeg, Int.reduceToNat, Int.reduceEq]
      exact he
  have na : ¬ a.nextR 0 < 0 := fun h => hv (.inl h)
  have nb : ¬ b.nextR 0 < 0 := fun h => hv (.inr h)
  refine cut (DA op k a b r r8 F' M) ?_ ?_
  · obtain ⟨r6, h6, f6⟩ := s.h6
    obtain ⟨r7, h7, f7⟩ := s.h7
    have b6 := blk_M (F := F') f6
    have b7 := blk_M (F := F') f7
    simp only [go_sem, reduceCtorEq, reduceIte, Nat.reduceEqDiff, Nat.reduceAdd, Nat.reduceLeDiff, Nat.reduceMul, Int.reduceLT, Int.reduceLE, Int.reduceAdd, Int.reduceSub, Int.reduceMul, Int.reduceNeg, Int.reduceToNat, Int.reduceEq, h6, h7, b6, b7]
    refine callK_same (k72 F' _ a ha) ?_
    simp only [go_sem, reduceCtorEq, reduceIte, Nat.reduceEqDiff, Nat.reduceAdd, Nat.reduceLeDiff, Nat.reduceMul, Int.reduceLT, Int.reduceLE, Int.reduceAdd, Int.reduceSub, Int.reduceMul, Int.reduceNeg, Int.reduceToNat, Int.reduceEq, h6, h7, b6, b7, na]
    refine callK_same (k72 F' _ b hb) ?_
    simp only [go_sem, reduceCtorEq, reduceIte, Nat.reduceEqDiff, Nat.reduceAdd, Nat.reduceLeDiff, Nat.reduceMul, Int.reduceLT, Int.reduceLE, Int.reduceAdd, Int.reduceSub, Int.reduceMul, Int.reduceNeg, Int.reduceToNat, Int.reduceEq, h6, h7, b6, b7, nb]
    exact s.ext (by simp only [go_sem, reduceCtorEq, reduceIte, Nat.reduceEqDiff]) (by simp only [go_sem, reduceCtorEq, reduceIte, Nat.reduceEqDiff]) (by simp only [go_sem, reduceCtorEq, reduceIte, Nat.reduceEqDiff, h6]) (by simp only [go_sem, reduceCtorEq, reduceIte, Nat.reduceEqDiff, h7]) (by simp only [go_sem, reduceCtorEq, reduceIte, Nat.reduceEqDiff]) (by simp only [go_sem, reduceCtorEq, reduceIte, Nat.reduceEqDiff])
  clear s
  rintro σ F' M' s
  obtain rfl := s.ff
  rw [Go.Ax.seq_assoc]
  refine cut (DB op k a b r r8 F' M) ?_ ?_
  · obtain ⟨r6, h6, f6⟩ := s.h6
    obtain ⟨r7, h7, f7⟩ := s.h7
    have b6 := blk_M (F := F') f6
    simp only [go_sem, reduceCtorEq, reduceIte, Nat.reduceEqDiff, Nat.reduceAdd, Nat.reduceLeDiff, Nat.reduceMul, Int.reduceLT, Int.reduceLE, Int.reduceAdd, Int.reduceSub, Int.reduceMul, Int.reduceNeg, Int.reduceToNat, Int.reduceEq, h6, h7, b6]
    refine callK_of (k60 F' _ a 16 ha (by decide)) ?_
    rintro w G M2 hm
    obtain ⟨hG, le, kq, oq, qx, okx, rfl, hx⟩ := hm.row
    rw [hG]
    refine ⟨(fun h => by cases h), ?_⟩
    have f72 := kq _ _ f7
    have b7 := blk_M (F := F') f72
    have o2 := oq s.held.old
    simp only [go_sem, reduceCtorEq, reduceIte, Nat.reduceEqDiff, Nat.reduceAdd, Nat.reduceLeDiff, Nat.reduceMul, Int.reduceLT, Int.reduceLE, Int.reduceAdd, Int.reduceSub, Int.reduceMul, Int.reduceNeg, Int.reduceToNat, Int.reduceEq, h6, h7, b7]
    refine callK_of (k60 F' _ b 16 hb (by decide)) ?_
    rintro w G M3 hm
    obtain ⟨hG, le3, kq3, oq3, qy, oky, rfl, hy⟩ := hm.row
    rw [hG]
    refine ⟨(fun h => by cases h), ?_⟩
    simp only [go_sem, reduceCtorEq, reduceIte, Nat.reduceEqDiff, Nat.reduceAdd, Nat.reduceLeDiff, Nat.reduceMul, Int.reduceLT, Int.reduceLE, Int.reduceAdd, Int.reduceSub, Int.reduceMul, Int.reduceNeg, Int.reduceToNat, Int.reduceEq, h6, h7]
    refine ⟨(s.grow (kq.trans kq3) (oq3 o2)).ext (by simp only [go_sem, reduceCtorEq, reduceIte, Nat.reduceEqDiff]) (by simp only [go_sem, reduceCtorEq, reduceIte, Nat.reduceEqDiff]) (by simp only [go_sem, reduceCtorEq, reduceIte, Nat.reduceEqDiff, h6]) (by simp only [go_sem, reduceCtorEq, reduceIte, Nat.reduceEqDiff, h7]) (by simp only [go_sem, reduceCtorEq, reduceIte, Nat.reduceEqDiff]) (by simp only [go_sem, reduceCtorEq, reduceIte, Nat.reduceEqDiff]), ⟨qx, okx, by simp only [go_sem, reduceCtorEq, reduceIte, Nat.reduceEqDiff], by simp only [go_sem, reduceCtorEq, reduceIte, Nat.reduceEqDiff], ?_⟩, ⟨qy, oky, by simp only [go_sem, reduceCtorEq, reduceIte, Nat.reduceEqDiff], by simp only [go_sem, reduceCtorEq, reduceIte, Nat.reduceEqDiff], hy⟩⟩
    rcases hx with ⟨h1, h2, h3⟩ | h
    · exact .inl ⟨h1, h2, h3.keep kq3⟩
    · exact .inr h
  clear s
  rintro σ F' M' s
  obtain rfl := s.ff
  obtain ⟨qx, okx, h11, h12, hx⟩ := s.x
  obtain ⟨qy, oky, h13, h14, hy⟩ := s.y
  have manyC := k74 F' M' M r op k a b _ s.held hop hk ha hb wa wb na nb
  by_cases hfew : okx = true ∧ oky = true
  rotate_left
  · obtain ⟨r6, h6, f6⟩ := s.h6
    obtain ⟨r7, h7, f7⟩ := s.h7
    have b6 := blk_M (F := F') f6
    have b7 := blk_M (F := F') f7
    have hnot : ¬ ((a.members 16).length ≤ 16 ∧ (b.members 16).length ≤ 16) := by
      rintro ⟨c1, c2⟩
      apply hfew
      constructor
      · rcases hx with ⟨h, _⟩ | ⟨_, h⟩
        · exact h
        · exact absurd c1 h
      · rcases hy with ⟨h, _⟩ | ⟨_, h⟩
        · exact h
        · exact absurd c2 h
    have fin : ∀ {w : Value} {G : Fz} {M2 : Hp} {Q : Prop}, foundP M r (FoundR op k a b) F' M' w G M2 → (G = F' → (∀ z u l, Held F' M M2 r z u l → l.length ≤ 2 → M2 r8 = some ⟨[.int .i64 0, .bool false, .int .i64 0, .int .i64 0, .int .i64 0, .int .i64 0], 30, 6⟩ → DoR op k a b z l → Q) → Q) := by
      rintro w G M2 Q ⟨_, z', u', l', hh, hr, hf⟩ _ hq
      exact hq z' u' l' hh (can_len hf.can hf.nd) (hr _ _ s.f8 ne (by decide)) (do_many hf na nb hnot)
    cases okx
    · simp only [go_sem, reduceCtorEq, reduceIte, Nat.reduceEqDiff, Nat.reduceAdd, Nat.reduceLeDiff, Nat.reduceMul, Int.reduceLT, Int.reduceLE, Int.reduceAdd, Int.reduceSub, Int.reduceMul, Int.reduceNeg, Int.reduceToNat, Int.reduceEq, h12, s.h0, s.h1, h6, h7, s.h8, s.h10, b6, b7]
      refine callK_of manyC ?_
      rintro w G M2 hf
      have hG := hf.1
      rw [hG]
      refine ⟨(fun h => by cases h), ?_⟩
      refine fin hf hG fun z u l hh hl2 f82 hd => ?_
      simp only [go_sem, reduceCtorEq, reduceIte, Nat.reduceEqDiff, Nat.reduceAdd, Nat.reduceLeDiff, Nat.reduceMul, Int.reduceLT, Int.reduceLE, Int.reduceAdd, Int.reduceSub, Int.reduceMul, Int.reduceNeg, Int.reduceToNat, Int.reduceEq, h12, s.h0, s.h1, h6, h7, s.h8, s.h10]
      refine callK_of (k73 F' M2 M r z u l hh hl2) ?_
      rintro w G M3 ht
      obtain ⟨hG, f83, u, rfl, he⟩ := told_end s.n8 ne f82 hd ht
      rw [hG]
      refine ⟨(fun h => by cases h), ?_⟩
      simp only [go_sem, reduceCtorEq, reduceIte, Nat.reduceEqDiff, Nat.reduceAdd, Nat.reduceLeDiff, Nat.reduceMul, Int.reduceLT, Int.reduceLE, Int.reduceAdd, Int.reduceSub, Int.reduceMul, Int.reduceNeg, Int.reduceToNat, Int.reduceEq, s.h8, f83]
      simp only [setH, go_sem, reduceCtorEq, reduceIte, Nat.reduceEqDiff, Nat.reduceAdd, Nat.reduceLeDiff, Nat.reduceMul, Int.reduceLT, Int.reduceLE, Int.reduceAdd, Int.reduceSub, Int.reduceMul, Int.reduceNeg, Int.reduceToNat, Int.reduceEq]
      exact he
    · cases oky
      · simp only [go_sem, reduceCtorEq, reduceIte, Nat.reduceEqDiff, Nat.reduceAdd, Nat.reduceLeDiff, Nat.reduceMul, Int.reduceLT, Int.reduceLE, Int.reduceAdd, Int.reduceSub, Int.reduceMul, Int.reduceNeg, Int.reduceToNat, Int.reduceEq, h12, h14, s.h0, s.h1, h6, h7, s.h8, s.h10, b6, b7]
        refine callK_of manyC ?_
        rintro w G M2 hf
        have hG := hf.1
        rw [hG]
        refine ⟨(fun h => by cases h), ?_⟩
        refine fin hf hG fun z u l hh hl2 f82 hd => ?_
        simp only [go_sem, reduceCtorEq, reduceIte, Nat.reduceEqDiff, Nat.reduceAdd, Nat.reduceLeDiff, Nat.reduceMul, Int.reduceLT, Int.reduceLE, Int.reduceAdd, Int.reduceSub, Int.reduceMul, Int.reduceNeg, Int.reduceToNat, Int.reduceEq, h12, h14, s.h0, s.h1, h6, h7, s.h8, s.h10]
        refine callK_of (k73 F' M2 M r z u l hh hl2) ?_
        rintro w G M3 ht
        obtain ⟨hG, f83, u, rfl, he⟩ := told_end s.n8 ne f82 hd ht
        rw [hG]
        refine ⟨(fun h => by cases h), ?_⟩
        simp only [go_sem, reduceCtorEq, reduceIte, Nat.reduceEqDiff, Nat.reduceAdd, Nat.reduceLeDiff, Nat.reduceMul, Int.reduceLT, Int.reduceLE, Int.reduceAdd, Int.reduceSub, Int.reduceMul, Int.reduceNeg, Int.reduceToNat, Int.reduceEq, s.h8, f83]
        simp only [setH, go_sem, reduceCtorEq, reduceIte, Nat.reduceEqDiff, Nat.reduceAdd, Nat.reduceLeDiff, Nat.reduceMul, Int.reduceLT, Int.reduceLE, Int.reduceAdd, Int.reduceSub, Int.reduceMul, Int.reduceNeg, Int.reduceToNat, Int.reduceEq]
        exact he
      · exact absurd ⟨rfl, rfl⟩ hfew
  obtain ⟨rfl, rfl⟩ := hfew
  obtain ⟨hx16, rx⟩ : (a.members 16).length ≤ 16 ∧ RowI M' qx (a.members 16) := by
    rcases hx with ⟨_, h2, h3⟩ | ⟨h, _⟩
    · exact ⟨h2, h3⟩
    · cases h
  obtain ⟨hy16, ry⟩ : (b.members 16).length ≤ 16 ∧ RowI M' qy (b.members 16) := by
    rcases hy with ⟨_, h2, h3⟩ | ⟨h, _⟩
    · exact ⟨h2, h3⟩
    · cases h
  have xin : ∀ v ∈ a.members 16, 0 ≤ v ∧ v ≤ mostV (ofW k) := fun v hv => by
    have := mem_has ha 17 0 (by omega) v hv
    rw [wa] at this; exact ⟨this.1, this.2.1⟩
  have yin : ∀ v ∈ b.members 16, 0 ≤ v ∧ v ≤ mostV (ofW k) := fun v hv => by
    have := mem_has hb 17 0 (by omega) v hv
    rw [wb] at this; exact ⟨this.1, this.2.1⟩
  have few := fun z l => do_few (op := op) (z := z) (l := l) hk ha hb wa wb hx16 hy16 na nb
  clear hx hy manyC
  generalize a.members 16 = x at *
  generalize b.members 16 = y at *
  have hbase := s.held.base
  have kpb := del_keep s.held.kp s.held.r0
  have f8b : (del M' r) r8 = some ⟨[.int .i64 0, .bool false, .int .i64 0, .int .i64 0, .int .i64 0, .int .i64 0], 30, 6⟩ := by
    unfold del; rw [if_neg ne]; exact s.f8
  have ner : ∀ {g : Nat} {l : List Int} {n : Nat}, M' g = some ⟨l.map intV, 3, n⟩ → ¬ g = r := by
    rintro g l n hg rfl
    have := s.held.blk
    rw [hg] at this
    have := congrArg (Option.map Ent.elem) this
    simp at this
  have rowb : ∀ {q : Value} {l : List Int}, RowI M' q l → RowI (del M' r) q l := by
    rintro q l (h | ⟨g, cap, n, h1, h2⟩)
    · exact .inl h
    · refine .inr ⟨g, cap, n, h1, ?_⟩
      unfold del; rw [if_neg (ner h2)]; exact h2
  replace rx := rowb rx
  replace ry := rowb ry
  clear rowb ner
  obtain ⟨ax, cx, ex⟩ := rx.shape
  obtain ⟨ay, cy, ey⟩ := ry.shape
  have h11' := h11
  rw [ex] at h11'
  have n8 := s.n8
  simp only [go_sem, reduceCtorEq, reduceIte, Nat.reduceEqDiff, Nat.reduceAdd, Nat.reduceLeDiff, Nat.reduceMul, Int.reduceLT, Int.reduceLE, Int.reduceAdd, Int.reduceSub, Int.reduceMul, Int.reduceNeg, Int.reduceToNat, Int.reduceEq, h11', h12, h13, h14, s.h0, s.h1, s.h8, s.h10]
  refine loop_of (dI op k r r8 qx qy x y (del M' r) F') x.length ?_ ?_
  · refine ⟨0, ⟨rfl, ⟨_, _, _, hbase, AddI.nil (ansW_isW op k)⟩, by simp only [go_sem, reduceCtorEq, reduceIte, Nat.reduceEqDiff, s.h0], by simp only [go_sem, reduceCtorEq, reduceIte, Nat.reduceEqDiff, s.h1], by simp only [go_sem, reduceCtorEq, reduceIte, Nat.reduceEqDiff, s.h8], by simp only [go_sem, reduceCtorEq, reduceIte, Nat.reduceEqDiff, s.h10], by simp only [go_sem, reduceCtorEq, reduceIte, Nat.reduceEqDiff, h13], by simp only [go_sem, reduceCtorEq, reduceIte, Nat.reduceEqDiff, ex], by simp only [go_sem, reduceCtorEq, reduceIte, Nat.reduceEqDiff]⟩, by omega, by simp only [go_sem, reduceCtorEq, reduceIte, Nat.reduceEqDiff] <;> rfl⟩
  clear s hbase h11 h11' h12 h13 h14
  generalize del M' r = Mb at *
  clear M'
  rintro mi σ F2 M' ⟨i, s, hi, h63⟩
  obtain rfl := s.ff
  have s61 := s.h61
  rw [ex] at s61
  by_cases hil : (i : Int) < x.length
  rotate_left
  · have ht : x.take i = x := List.take_of_length_le (by omega)
    obtain ⟨z, u, l, hh, ai⟩ := s.held
    rw [ht] at ai
    have hd := few z l ai
    have hl2 := can_len (ai.can pairsL_can) ai.nd
    have f82 := hh.kp _ _ f8b
    simp only [go_sem, reduceCtorEq, reduceIte, Nat.reduceEqDiff, Nat.reduceAdd, Nat.reduceLeDiff, Nat.reduceMul, Int.reduceLT, Int.reduceLE, Int.reduceAdd, Int.reduceSub, Int.reduceMul, Int.reduceNeg, Int.reduceToNat, Int.reduceEq, s.h0, s.h1, s.h8, s.h10, s61, s.h62, h63, hil]
    refine callK_of (k73 F2 M' M r z u l (hh.rebase kpb) hl2) ?_
    rintro w G M3 ht
    obtain ⟨hG, f83, u, rfl, he⟩ := told_end n8 ne f82 hd ht
    rw [hG]
    refine ⟨(fun h => by cases h), ?_⟩
    simp only [go_sem, reduceCtorEq, reduceIte, Nat.reduceEqDiff, Nat.reduceAdd, Nat.reduceLeDiff, Nat.reduceMul, Int.reduceLT, Int.reduceLE, Int.reduceAdd, Int.reduceSub, Int.reduceMul, Int.reduceNeg, Int.reduceToNat, Int.reduceEq, s.h8, f83]
    simp only [setH, go_sem, reduceCtorEq, reduceIte, Nat.reduceEqDiff, Nat.reduceAdd, Nat.reduceLeDiff, Nat.reduceMul, Int.reduceLT, Int.reduceLE, Int.reduceAdd, Int.reduceSub, Int.reduceMul, Int.reduceNeg, Int.reduceToNat, Int.reduceEq]
    exact he
  have hi0 : (0 : Int) ≤ i := by omega
  have hil' : i < x.length := by omega
  have ei : IntKind.i64.wrap ((i : Int) + 1) = i + 1 := w64 (by omega) (by omega)
  have hkp : Keep Mb M' := by
    obtain ⟨z, u, l, hh, _⟩ := s.held
    exact hh.kp
  obtain ⟨gx, capx, egx, bgx, dgx⟩ := (rx.keep hkp).get (F := F2) hil'
  have s61' := s.h61
  rw [egx] at s61'
  have s13' := s.h13
  rw [ey] at s13'
  have hxi := xin x[i] (List.getElem_mem _)
  have hsucc := pairsL_succ (op := op) (k := k) (y := y) hil'
  generalize x[i] = xi at *
  simp only [go_sem, reduceCtorEq, reduceIte, Nat.reduceEqDiff, Nat.reduceAdd, Nat.reduceLeDiff, Nat.reduceMul, Int.reduceLT, Int.reduceLE, Int.reduceAdd, Int.reduceSub, Int.reduceMul, Int.reduceNeg, Int.reduceToNat, Int.reduceEq, s.h0, s.h1, s.h8, s.h10, s61', s13', s.h62, h63, hil, hi0, Int.toNat_natCast, Nat.mul_one, Nat.zero_add, bgx, dgx]
  refine loop_of (dJ op k r r8 qx qy x y Mb F2 i xi) y.length ?_ ?_
  · refine ⟨0, ?_, by omega, by simp only [go_sem, reduceCtorEq, reduceIte, Nat.reduceEqDiff, h63], by simp only [go_sem, reduceCtorEq, reduceIte, Nat.reduceEqDiff], by simp only [go_sem, reduceCtorEq, reduceIte, Nat.reduceEqDiff, ey], by simp only [go_sem, reduceCtorEq, reduceIte, Nat.reduceEqDiff], by simp only [go_sem, reduceCtorEq, reduceIte, Nat.reduceEqDiff] <;> rfl⟩
    have : pairsL op k (x.take i) y ++ (y.take 0).map (twoK op k xi) = pairsL op k (x.take i) y := by simp
    rw [this]
    exact s.ext (by simp only [go_sem, reduceCtorEq, reduceIte, Nat.reduceEqDiff]) (by simp only [go_sem, reduceCtorEq, reduceIte, Nat.reduceEqDiff]) (by simp only [go_sem, reduceCtorEq, reduceIte, Nat.reduceEqDiff]) (by simp only [go_sem, reduceCtorEq, reduceIte, Nat.reduceEqDiff]) (by simp only [go_sem, reduceCtorEq, reduceIte, Nat.reduceEqDiff, s.h13, ey]) (by simp only [go_sem, reduceCtorEq, reduceIte, Nat.reduceEqDiff, s.h61, egx]) (by simp only [go_sem, reduceCtorEq, reduceIte, Nat.reduceEqDiff, s.h62])
  clear s hkp h63 bgx s61 s61' s13'
  rintro mj σ F3 M' ⟨j, s, hj, h63, h16, h67, h68, h69⟩
  obtain rfl := s.ff
  by_cases hjl : (j : Int) < y.length
  rotate_left
  · have ht : y.take j = y := List.take_of_length_le (by omega)
    have s61 := s.h61
    simp only [go_sem, reduceCtorEq, reduceIte, Nat.reduceEqDiff, Nat.reduceAdd, Nat.reduceLeDiff, Nat.reduceMul, Int.reduceLT, Int.reduceLE, Int.reduceAdd, Int.reduceSub, Int.reduceMul, Int.reduceNeg, Int.reduceToNat, Int.reduceEq, s.h0, s.h1, s.h8, s.h10, s.h61, s.h62, h63, h67, h68, h69, hjl, ei]
    refine ⟨mi - 1, by omega, i + 1, ?_, by omega, by simp only [go_sem, reduceCtorEq, reduceIte, Nat.reduceEqDiff]; rfl⟩
    rw [hsucc]
    rw [ht] at s
    exact s.ext (by simp only [go_sem, reduceCtorEq, reduceIte, Nat.reduceEqDiff]) (by simp only [go_sem, reduceCtorEq, reduceIte, Nat.reduceEqDiff]) (by simp only [go_sem, reduceCtorEq, reduceIte, Nat.reduceEqDiff]) (by simp only [go_sem, reduceCtorEq, reduceIte, Nat.reduceEqDiff]) (by simp only [go_sem, reduceCtorEq, reduceIte, Nat.reduceEqDiff]) (by simp only [go_sem, reduceCtorEq, reduceIte, Nat.reduceEqDiff]) (by simp only [go_sem, reduceCtorEq, reduceIte, Nat.reduceEqDiff])
  have hj0 : (0 : Int) ≤ j := by omega
  have hjl' : j < y.length := by omega
  have ej : IntKind.i64.wrap ((j : Int) + 1) = j + 1 := w64 (by omega) (by omega)
  obtain ⟨z, u, l, hh, ai⟩ := s.held
  obtain ⟨gy, capy, egy, bgy, dgy⟩ := (ry.keep hh.kp).get (F := F3) hjl'
  have h67' := h67
  rw [egy] at h67'
  have hyj := yin y[j] (List.getElem_mem _)
  have hst : (y.take (j + 1)).map (twoK op k xi) = (y.take j).map (twoK op k xi) ++ [twoK op k xi y[j]] := by
    rw [List.take_succ_eq_append_getElem hjl', List.map_append]; rfl
  generalize y[j] = yj at *
  have hl2 := can_len (op := op) (k := k) (ai.can fun r hr => by
    rcases List.mem_append.1 hr with hr | hr
    · exact pairsL_can r hr
    · rw [List.mem_map] at hr
      obtain ⟨v, _, rfl⟩ := hr
      exact two_can) ai.nd
  simp only [go_sem, reduceCtorEq, reduceIte, Nat.reduceEqDiff, Nat.reduceAdd, Nat.reduceLeDiff, Nat.reduceMul, Int.reduceLT, Int.reduceLE, Int.reduceAdd, Int.reduceSub, Int.reduceMul, Int.reduceNeg, Int.reduceToNat, Int.reduceEq, s.h0, s.h1, s.h8, s.h10, h63, h16, h67', h68, h69, hjl, hj0, Int.toNat_natCast, Nat.mul_one, Nat.zero_add, bgy, dgy]
  refine callK_same (k75 F3 _ op k xi yj hk hop hxi.1 hxi.2 hyj.1 hyj.2) ?_
  have hran := two_isN (op := op) hk hxi.1 hxi.2 hyj.1 hyj.2
  simp only [pairV, go_sem, reduceCtorEq, reduceIte, Nat.reduceEqDiff, Nat.reduceAdd, Nat.reduceLeDiff, Nat.reduceMul, Int.reduceLT, Int.reduceLE, Int.reduceAdd, Int.reduceSub, Int.reduceMul, Int.reduceNeg, Int.reduceToNat, Int.reduceEq, s.h0, s.h1, s.h8, s.h10, h63, h16, h67', h68, h69]
  refine callK_of (k62 F3 M' Mb r z u l _ _ hh ai.ok (fun h => by rw [ai.w]; exact hran h) (by omega)) ?_
  rintro w G M2 ⟨hG, z', u', l', hh', hr', hx'⟩
  rw [hG]
  refine ⟨(fun h => by cases h), ?_⟩
  simp only [go_sem, reduceCtorEq, reduceIte, Nat.reduceEqDiff, Nat.reduceAdd, Nat.reduceLeDiff, Nat.reduceMul, Int.reduceLT, Int.reduceLE, Int.reduceAdd, Int.reduceSub, Int.reduceMul, Int.reduceNeg, Int.reduceToNat, Int.reduceEq, s.h0, s.h1, s.h8, s.h10, h63, h16, h67', h68, h69, ej]
  have ai' : AddI (ansW op k) ((pairsL op k (x.take i) y ++ (y.take j).map (twoK op k xi)) ++ [twoK op k xi yj]) z' l' := by
    rcases hx' with ⟨h0, rfl, hbo⟩ | ⟨h0, rfl, rfl⟩
    · have e : twoK op k xi yj = ((twoK op k xi yj).1, 0) := by rw [← h0]
      rw [e]
      rw [ai.w] at hbo
      exact ai.addNum (hran h0) hbo
    · exact ai.addBad h0
  refine ⟨mj - 1, by omega, j + 1, ?_, by omega, by simp only [go_sem, reduceCtorEq, reduceIte, Nat.reduceEqDiff, h63], by simp only [go_sem, reduceCtorEq, reduceIte, Nat.reduceEqDiff, h16], by simp only [go_sem, reduceCtorEq, reduceIte, Nat.reduceEqDiff, h67', egy], by simp only [go_sem, reduceCtorEq, reduceIte, Nat.reduceEqDiff, h68], by simp only [go_sem, reduceCtorEq, reduceIte, Nat.reduceEqDiff]; rfl⟩
  rw [hst, ← List.append_assoc]
  exact ⟨rfl, ⟨z', u', l', hh', ai'⟩, by simp only [go_sem, reduceCtorEq, reduceIte, Nat.reduceEqDiff, s.h0], by simp only [go_sem, reduceCtorEq, reduceIte, Nat.reduceEqDiff, s.h1], by simp only [go_sem, reduceCtorEq, reduceIte, Nat.reduceEqDiff, s.h8], by simp only [go_sem, reduceCtorEq, reduceIte, Nat.reduceEqDiff, s.h10], by simp only [go_sem, reduceCtorEq, reduceIte, Nat.reduceEqDiff, s.h13], by simp only [go_sem, reduceCtorEq, reduceIte, Nat.reduceEqDiff, s.h61], by simp only [go_sem, reduceCtorEq, reduceIte, Nat.reduceEqDiff, s.h62]⟩
end Go.Proofs.Tryz.K

/- Contracts: an operator of two sets, asked. -/
namespace Go.Proofs.Tryz.K
open Go Go.Ax Go.Proofs.Tryz.S
set_option maxRecDepth 100000
set_option linter.unusedSimpArgs false
set_option linter.unusedVariables false
set_option maxHeartbeats 4000000
variable (F : Fz) (M : Hp)

theorem k36 (k : Int) (v : V) : CallsA Tryz.prog 36 [.int .i64 k, v.val] F M (Same F M (.bool (fitB k v))) := by
  refine callsA_of hm Tryz.func36 e36 (Nat.le_of_ble_eq_true rfl) ?_
  simp only [c36, go_sem, reduceCtorEq, reduceIte, Nat.reduceEqDiff, Nat.reduceAdd, Nat.reduceLeDiff, Nat.reduceMul, Int.reduceLT, Int.reduceLE, Int.reduceAdd, Int.reduceSub, Int.reduceMul, Int.reduceNeg, Int.reduceToNat, Int.reduceEq]
  intro r hF hM
  simp only [go_sem, reduceCtorEq, reduceIte, Nat.reduceEqDiff, Nat.reduceAdd, Nat.reduceLeDiff, Nat.reduceMul, Int.reduceLT, Int.reduceLE, Int.reduceAdd, Int.reduceSub, Int.reduceMul, Int.reduceNeg, Int.reduceToNat, Int.reduceEq]
  refine callK_same (k37 F _ k) ?_
  cases hk : isK k
  · simp only [go_sem, reduceCtorEq, reduceIte, Nat.reduceEqDiff, Nat.reduceAdd, Nat.reduceLeDiff, Nat.reduceMul, Int.reduceLT, Int.reduceLE, Int.reduceAdd, Int.reduceSub, Int.reduceMul, Int.reduceNeg, Int.reduceToNat, Int.reduceEq]
    exact endK_drop hM (endK_same ⟨by simp [fitB, hk], rfl, rfl⟩)
  simp only [go_sem, reduceCtorEq, reduceIte, Nat.reduceEqDiff, Nat.reduceAdd, Nat.reduceLeDiff, Nat.reduceMul, Int.reduceLT, Int.reduceLE, Int.reduceAdd, Int.reduceSub, Int.reduceMul, Int.reduceNeg, Int.reduceToNat, Int.reduceEq]
  refine callK_same (k58 F _ v) ?_
  cases hv : v.ok
  · simp only [go_sem, reduceCtorEq, reduceIte, Nat.reduceEqDiff, Nat.reduceAdd, Nat.reduceLeDiff, Nat.reduceMul, Int.reduceLT, Int.reduceLE, Int.reduceAdd, Int.reduceSub, Int.reduceMul, Int.reduceNeg, Int.reduceToNat, Int.reduceEq]
    exact endK_drop hM (endK_same ⟨by simp [fitB, hk, hv], rfl, rfl⟩)
  simp only [go_sem, reduceCtorEq, reduceIte, Nat.reduceEqDiff, Nat.reduceAdd, Nat.reduceLeDiff, Nat.reduceMul, Int.reduceLT, Int.reduceLE, Int.reduceAdd, Int.reduceSub, Int.reduceMul, Int.reduceNeg, Int.reduceToNat, Int.reduceEq]
  refine callK_same (k59 F _ k hk) ?_
  simp only [go_sem, reduceCtorEq, reduceIte, Nat.reduceEqDiff, Nat.reduceAdd, Nat.reduceLeDiff, Nat.reduceMul, Int.reduceLT, Int.reduceLE, Int.reduceAdd, Int.reduceSub, Int.reduceMul, Int.reduceNeg, Int.reduceToNat, Int.reduceEq]
  exact endK_drop hM (endK_same ⟨by simp [fitB, hk, hv], rfl, rfl⟩)
def okT (op k : Int) (a b : V) : Bool := isTwo op && fitB k a && fitB k b
theorem fitB_of {k : Int} {v : V} (h : fitB k v = true) : isK k = true ∧ v.ok = true ∧ v.w = ofW k := by
  simp only [fitB, Bool.and_eq_true, decide_eq_true_eq] at h
  exact ⟨h.1.1, h.1.2, h.2⟩
/-- What is told of two sets, or that they are refused. -/
def twoP (op k : Int) (a b : V) (F : Fz) (M : Hp) (v : Value) (F' : Fz) (M' : Hp) : Prop :=
  F' = F ∧ Keep M M' ∧ Old F M' ∧ ((okT op k a b = true ∧ ∃ z l q, v = .tuple #[z.val, q, .int .i64 0] ∧ DoR op k a b z l ∧ l.Pairwise (· < ·) ∧ RowI M' q l) ∨ (okT op k a b = false ∧ v = .tuple #[V.zero.val, .slice none 0 0, .int .i64 1]))
theorem flat_int : ∀ l : List Int, l.flatMap intC = l.map intV
  | [] => rfl
  | x :: l => by rw [List.flatMap_cons, List.map_cons, flat_int l]; rfl
/-- A new row is not where something else was. -/
theorem rowR_apart {l : List Int} {F : Fz} {M1 : Hp} {q : Value} {F' : Fz} {M2 : Hp} {r8 : Nat} {x e : Ent} (hr : rowR 1 intC 3 l F M1 q F' M2) (h8 : M1 r8 = some x) (hl : l.length ≤ 1000) : RowI (M2.upd r8 e) q l := by
  rcases hr.2 with ⟨rfl, rfl, _⟩ | ⟨g, cap, h1, h2, rfl, h4, rfl⟩
  · exact .inl ⟨rfl, rfl⟩
  · refine .inr ⟨g, cap, cap * 1, rfl, ?_⟩
    rw [Hp.upd_ne' (fun e => by rw [e, h8] at h2; cases h2), Hp.upd_same, flat_int]
theorem k24 (op k : Int) (a b : V) (hold : Old F M) : CallsA Tryz.prog 24 [.int .i64 op, .int .i64 k, a.val, b.val] F M (twoP op k a b F M) := by
  refine callsA_of hm Tryz.func24 e24 (Nat.le_of_ble_eq_true rfl) ?_
  simp only [c24, go_sem, reduceCtorEq, reduceIte, Nat.reduceEqDiff, Nat.reduceAdd, Nat.reduceLeDiff, Nat.reduceMul, Int.reduceLT, Int.reduceLE, Int.reduceAdd, Int.reduceSub, Int.reduceMul, Int.reduceNeg, Int.reduceToNat, Int.reduceEq]
  intro r6 hF6 hM6
  simp only [go_sem, reduceCtorEq, reduceIte, Nat.reduceEqDiff, Nat.reduceAdd, Nat.reduceLeDiff, Nat.reduceMul, Int.reduceLT, Int.reduceLE, Int.reduceAdd, Int.reduceSub, Int.reduceMul, Int.reduceNeg, Int.reduceToNat, Int.reduceEq]
  intro r7 hF7 hM7
  have g7 := fresh_of hM7
  simp only [go_sem, reduceCtorEq, reduceIte, Nat.reduceEqDiff, Nat.reduceAdd, Nat.reduceLeDiff, Nat.reduceMul, Int.reduceLT, Int.reduceLE, Int.reduceAdd, Int.reduceSub, Int.reduceMul, Int.reduceNeg, Int.reduceToNat, Int.reduceEq]
  intro r8 hF8 hM8
  have g8 := fresh_of hM8
  have g86 := fresh_of g8.2.2
  have kp : ∀ e, Keep M (((M.upd r6 ⟨a.cs, 30, 6⟩).upd r7 ⟨b.cs, 30, 6⟩).upd r8 e) := fun e => (((Keep.refl M).new hM6).new g7.2.2).new g86.2.2
  have oo : ∀ e, Old F (((M.upd r6 ⟨a.cs, 30, 6⟩).upd r7 ⟨b.cs, 30, 6⟩).upd r8 e) := fun e => ((hold.upd hF6).upd hF7).upd hF8
  simp only [go_sem, reduceCtorEq, reduceIte, Nat.reduceEqDiff, Nat.reduceAdd, Nat.reduceLeDiff, Nat.reduceMul, Int.reduceLT, Int.reduceLE, Int.reduceAdd, Int.reduceSub, Int.reduceMul, Int.reduceNeg, Int.reduceToNat, Int.reduceEq, g7, g8, g86]
  refine callK_same (k46 F _ op) ?_
  cases h1 : isTwo op
  · simp only [go_sem, reduceCtorEq, reduceIte, Nat.reduceEqDiff, Nat.reduceAdd, Nat.reduceLeDiff, Nat.reduceMul, Int.reduceLT, Int.reduceLE, Int.reduceAdd, Int.reduceSub, Int.reduceMul, Int.reduceNeg, Int.reduceToNat, Int.reduceEq, g7, g8, g86]
    exact endK_same ⟨rfl, kp _, oo _, .inr ⟨by simp [okT, h1], rfl⟩⟩
  simp only [go_sem, reduceCtorEq, reduceIte, Nat.reduceEqDiff, Nat.reduceAdd, Nat.reduceLeDiff, Nat.reduceMul, Int.reduceLT, Int.reduceLE, Int.reduceAdd, Int.reduceSub, Int.reduceMul, Int.reduceNeg, Int.reduceToNat, Int.reduceEq, g7, g8, g86]
  refine callK_same (k36 F _ k a) ?_
  cases h2 : fitB k a
  · simp only [go_sem, reduceCtorEq, reduceIte, Nat.reduceEqDiff, Nat.reduceAdd, Nat.reduceLeDiff, Nat.reduceMul, Int.reduceLT, Int.reduceLE, Int.reduceAdd, Int.reduceSub, Int.reduceMul, Int.reduceNeg, Int.reduceToNat, Int.reduceEq, g7, g8, g86]
    exact endK_same ⟨rfl, kp _, oo _, .inr ⟨by simp [okT, h2], rfl⟩⟩
  simp only [go_sem, reduceCtorEq, reduceIte, Nat.reduceEqDiff, Nat.reduceAdd, Nat.reduceLeDiff, Nat.reduceMul, Int.reduceLT, Int.reduceLE, Int.reduceAdd, Int.reduceSub, Int.reduceMul, Int.reduceNeg, Int.reduceToNat, Int.reduceEq, g7, g8, g86]
  refine callK_same (k36 F _ k b) ?_
  cases h3 : fitB k b
  · simp only [go_sem, reduceCtorEq, reduceIte, Nat.reduceEqDiff, Nat.reduceAdd, Nat.reduceLeDiff, Nat.reduceMul, Int.reduceLT, Int.reduceLE, Int.reduceAdd, Int.reduceSub, Int.reduceMul, Int.reduceNeg, Int.reduceToNat, Int.reduceEq, g7, g8, g86]
    exact endK_same ⟨rfl, kp _, oo _, .inr ⟨by simp [okT, h3], rfl⟩⟩
  obtain ⟨hk, ha, wa⟩ := fitB_of h2
  obtain ⟨_, hb, wb⟩ := fitB_of h3
  simp only [go_sem, reduceCtorEq, reduceIte, Nat.reduceEqDiff, Nat.reduceAdd, Nat.reduceLeDiff, Nat.reduceMul, Int.reduceLT, Int.reduceLE, Int.reduceAdd, Int.reduceSub, Int.reduceMul, Int.reduceNeg, Int.reduceToNat, Int.reduceEq, g7, g8, g86]
  refine callK_of (k47 F _ op k a b (oo _) h1 hk ha hb wa wb) ?_
  rintro w G M2 ⟨z, l, q, rfl, hd, hpw, hr⟩
  have f81 := Hp.upd_same ((M.upd r6 ⟨a.cs, 30, 6⟩).upd r7 ⟨b.cs, 30, 6⟩) r8 ⟨[.int .i64 0, .bool false, .int .i64 0, .int .i64 0, .int .i64 0, .int .i64 0], 30, 6⟩
  have rd8 := fun e => rowR_apart (e := e) hr f81 (by have := can_len hd.can hd.nd; omega)
  obtain ⟨hG, le, kq, oq, aq, cq, rfl, rdq⟩ := hr.le (f := intC) intC_len (by
    have := can_len hd.can hd.nd
    omega)
  rw [hG]
  refine ⟨(fun h => by cases h), ?_⟩
  have f8 := kq _ _ (Hp.upd_same ((M.upd r6 ⟨a.cs, 30, 6⟩).upd r7 ⟨b.cs, 30, 6⟩) r8 ⟨[.int .i64 0, .bool false, .int .i64 0, .int .i64 0, .int .i64 0, .int .i64 0], 30, 6⟩)
  have kp2 := (kp _).trans kq
  have o2 := oq (oo _)
  have ne8 : M r8 = none := g86.2.2
  simp only [go_sem, reduceCtorEq, reduceIte, Nat.reduceEqDiff, Nat.reduceAdd, Nat.reduceLeDiff, Nat.reduceMul, Int.reduceLT, Int.reduceLE, Int.reduceAdd, Int.reduceSub, Int.reduceMul, Int.reduceNeg, Int.reduceToNat, Int.reduceEq, f8]
  simp only [setH, Hp.upd_upd, go_sem, reduceCtorEq, reduceIte, Nat.reduceEqDiff, Nat.reduceAdd, Nat.reduceLeDiff, Nat.reduceMul, Int.reduceLT, Int.reduceLE, Int.reduceAdd, Int.reduceSub, Int.reduceMul, Int.reduceNeg, Int.reduceToNat, Int.reduceEq]
  exact endK_same ⟨rfl, kp2.new ne8, o2.upd hF8, .inl ⟨by simp [okT, h1, h2, h3], z, l, _, rfl, hd, hpw, rd8 _⟩⟩
end Go.Proofs.Tryz.K

/- Contracts: small words of layer 4's statements. -/
namespace Go.Proofs.Tryz.K
open Go Go.Ax Go.Proofs.Tryz.S
set_option maxRecDepth 100000
set_option linter.unusedSimpArgs false
set_option linter.unusedVariables false
set_option maxHeartbeats 1000000
variable (F : Fz) (M : Hp)

theorem k15 (n : Int) : CallsA Tryz.prog 15 [.int .i64 n] F M (Same F M (.int .i64 n)) := by
  refine callsA_of hm Tryz.func15 e15 (Nat.le_of_ble_eq_true rfl) ?_
  simp only [c15, go_sem, reduceCtorEq, reduceIte, Nat.reduceEqDiff, Nat.reduceAdd, Nat.reduceLeDiff, Nat.reduceMul, Int.reduceLT, Int.reduceLE, Int.reduceAdd, Int.reduceSub, Int.reduceMul, Int.reduceNeg, Int.reduceToNat, Int.reduceEq]
  exact endK_same ⟨rfl, rfl, rfl⟩
theorem rise_get {l : List Int} (h : l.Pairwise (· < ·)) {i : Nat} (hi : i + 1 < l.length) : l[i] < l[i + 1] := by
  rw [List.pairwise_iff_getElem] at h
  exact h i (i + 1) (by omega) hi (by omega)
def clI (u : Value) (l : List Int) (slot : Nat) (F0 : Fz) (M0 : Hp) (m : Nat) (σ : Env) (F : Fz) (M : Hp) : Prop :=
  F = F0 ∧ M = M0 ∧ Ax.look σ 0 = some u ∧ ∃ i : Nat, i + m = l.length ∧ Ax.look σ slot = some (.int .i64 i)
theorem k49 (u : Value) (l : List Int) (h : RowI M u l) (hl : l.length ≤ 1000) (hin : ∀ x ∈ l, 1 ≤ x ∧ x ≤ 10) (hr : l.Pairwise (· < ·)) : CallsA Tryz.prog 49 [u] F M (Same F M (.bool true)) := by
  refine callsA_of hm Tryz.func49 e49 (Nat.le_of_ble_eq_true rfl) ?_
  obtain ⟨a, c, hu⟩ := h.shape
  simp only [c49, go_sem, reduceCtorEq, reduceIte, Nat.reduceEqDiff, Nat.reduceAdd, Nat.reduceLeDiff, Nat.reduceMul, Int.reduceLT, Int.reduceLE, Int.reduceAdd, Int.reduceSub, Int.reduceMul, Int.reduceNeg, Int.reduceToNat, Int.reduceEq]
  refine loop_of (clI u l 3 F M) l.length ?_ ?_
  · exact ⟨rfl, rfl, by simp only [go_sem, reduceCtorEq, reduceIte, Nat.reduceEqDiff], 0, by omega, by simp only [go_sem, reduceCtorEq, reduceIte, Nat.reduceEqDiff] <;> rfl⟩
  rintro m σ F' M' ⟨rfl, rfl, h0, i, hi, h3⟩
  have h0' := h0
  rw [hu] at h0'
  by_cases hil : (i : Int) < l.length
  rotate_left
  · simp only [go_sem, reduceCtorEq, reduceIte, Nat.reduceEqDiff, Nat.reduceAdd, Nat.reduceLeDiff, Nat.reduceMul, Int.reduceLT, Int.reduceLE, Int.reduceAdd, Int.reduceSub, Int.reduceMul, Int.reduceNeg, Int.reduceToNat, Int.reduceEq, h0', h3, hil]
    exact endK_same ⟨rfl, rfl, rfl⟩
  have hi0 : (0 : Int) ≤ i := by omega
  have hil' : i < l.length := by omega
  have ei : IntKind.i64.wrap ((i : Int) + 1) = i + 1 := w64 (by omega) (by omega)
  obtain ⟨g, cap, eg, hb, hg⟩ := h.get (F := F') hil'
  have h0'' := h0
  rw [eg] at h0''
  have hx := hin l[i] (List.getElem_mem _)
  have hbt : (decide ((1 : Int) ≤ l[i]) && decide (l[i] ≤ 10)) = true := by simp [hx.1, hx.2]
  simp only [go_sem, reduceCtorEq, reduceIte, Nat.reduceEqDiff, Nat.reduceAdd, Nat.reduceLeDiff, Nat.reduceMul, Int.reduceLT, Int.reduceLE, Int.reduceAdd, Int.reduceSub, Int.reduceMul, Int.reduceNeg, Int.reduceToNat, Int.reduceEq, h0'', h3, hil, hi0, Int.toNat_natCast, Nat.mul_one, Nat.zero_add, hb, hg]
  refine callK_same (k45 F' _ _ 1 10) ?_
  rw [hbt]
  by_cases hp : 0 < (i : Int)
  · have ep : IntKind.i64.wrap ((i : Int) - 1) = ((i - 1 : Nat) : Int) := by rw [w64 (by omega) (by omega)]; omega
    have hp1 : ((i - 1 : Nat) : Int) < l.length := by omega
    have hp0 : (0 : Int) ≤ ((i - 1 : Nat) : Int) := by omega
    obtain ⟨g', cap', eg', hb', hg'⟩ := h.get (F := F') (i := i - 1) (by omega)
    rw [eg] at eg'
    cases eg'
    have hlt := rise_get hr (i := i - 1) (by omega)
    have e1 : i - 1 + 1 = i := by omega
    simp only [e1] at hlt
    have hge : ¬ l[i] ≤ l[i - 1] := by omega
    simp only [go_sem, reduceCtorEq, reduceIte, Nat.reduceEqDiff, Nat.reduceAdd, Nat.reduceLeDiff, Nat.reduceMul, Int.reduceLT, Int.reduceLE, Int.reduceAdd, Int.reduceSub, Int.reduceMul, Int.reduceNeg, Int.reduceToNat, Int.reduceEq, h0'', h3, hil, hi0, hp, ep, hp1, hp0, Int.toNat_natCast, Nat.mul_one, Nat.zero_add, hb, hg, hg', hge, ei]
    exact ⟨m - 1, by omega, rfl, rfl, by simp only [go_sem, reduceCtorEq, reduceIte, Nat.reduceEqDiff, h0'', eg], i + 1, by omega, by simp only [go_sem, reduceCtorEq, reduceIte, Nat.reduceEqDiff]; rfl⟩
  · simp only [go_sem, reduceCtorEq, reduceIte, Nat.reduceEqDiff, Nat.reduceAdd, Nat.reduceLeDiff, Nat.reduceMul, Int.reduceLT, Int.reduceLE, Int.reduceAdd, Int.reduceSub, Int.reduceMul, Int.reduceNeg, Int.reduceToNat, Int.reduceEq, h0'', h3, hil, hi0, hp, Int.toNat_natCast, Nat.mul_one, hb, hg, ei]
    exact ⟨m - 1, by omega, rfl, rfl, by simp only [go_sem, reduceCtorEq, reduceIte, Nat.reduceEqDiff, h0'', eg], i + 1, by omega, by simp only [go_sem, reduceCtorEq, reduceIte, Nat.reduceEqDiff]; rfl⟩
theorem k55 (u : Value) (l : List Int) (n : Int) (h : RowI M u l) (hl : l.length ≤ 1000) : CallsA Tryz.prog 55 [u, .int .i64 n] F M (Same F M (.bool (decide (n ∈ l)))) := by
  refine callsA_of hm Tryz.func55 e55 (Nat.le_of_ble_eq_true rfl) ?_
  simp only [c55, go_sem, reduceCtorEq, reduceIte, Nat.reduceEqDiff, Nat.reduceAdd, Nat.reduceLeDiff, Nat.reduceMul, Int.reduceLT, Int.reduceLE, Int.reduceAdd, Int.reduceSub, Int.reduceMul, Int.reduceNeg, Int.reduceToNat, Int.reduceEq]
  refine callK_of (k69 F M u l n (by omega) ?_) ?_
  · rcases h with h | ⟨g, cap, k, h1, h2⟩
    · exact .inl h
    · exact .inr ⟨g, cap, h1, blk_M h2⟩
  rintro w G M' ⟨hG, rfl, z, rfl, hz⟩
  rw [hG]
  refine ⟨(fun h => by cases h), ?_⟩
  simp only [go_sem, reduceCtorEq, reduceIte, Nat.reduceEqDiff, Nat.reduceAdd, Nat.reduceLeDiff, Nat.reduceMul, Int.reduceLT, Int.reduceLE, Int.reduceAdd, Int.reduceSub, Int.reduceMul, Int.reduceNeg, Int.reduceToNat, Int.reduceEq]
  refine endK_same ⟨?_, rfl, rfl⟩
  have : decide (0 ≤ z) = decide (n ∈ l) := by
    by_cases hn : n ∈ l
    · have : ¬ z < 0 := fun h => hz.1 h hn
      simp [hn]; omega
    · have := hz.2 hn
      simp [hn]; omega
  rw [this]
theorem k50 (op k bad : Int) : CallsA Tryz.prog 50 [.int .i64 op, .int .i64 k, .int .i64 bad] F M (Same F M (.bool (canK op k bad))) := by
  refine callsA_of hm Tryz.func50 e50 (Nat.le_of_ble_eq_true rfl) ?_
  simp only [c50, go_sem, reduceCtorEq, reduceIte, Nat.reduceEqDiff, Nat.reduceAdd, Nat.reduceLeDiff, Nat.reduceMul, Int.reduceLT, Int.reduceLE, Int.reduceAdd, Int.reduceSub, Int.reduceMul, Int.reduceNeg, Int.reduceToNat, Int.reduceEq]
  refine callK_same (k52 F _ k) ?_
  by_cases h8 : op = 8
  · cases hs : sgn k <;> simp only [go_sem, reduceCtorEq, reduceIte, Nat.reduceEqDiff, Nat.reduceAdd, Nat.reduceLeDiff, Nat.reduceMul, Int.reduceLT, Int.reduceLE, Int.reduceAdd, Int.reduceSub, Int.reduceMul, Int.reduceNeg, Int.reduceToNat, Int.reduceEq, h8] <;> exact endK_same ⟨by simp [canK, hs], rfl, rfl⟩
  by_cases h9 : op = 9
  · cases hs : sgn k <;> simp only [go_sem, reduceCtorEq, reduceIte, Nat.reduceEqDiff, Nat.reduceAdd, Nat.reduceLeDiff, Nat.reduceMul, Int.reduceLT, Int.reduceLE, Int.reduceAdd, Int.reduceSub, Int.reduceMul, Int.reduceNeg, Int.reduceToNat, Int.reduceEq, h9] <;> exact endK_same ⟨by simp [canK, hs], rfl, rfl⟩
  by_cases h10 : op = 10
  · cases hs : sgn k <;> simp only [go_sem, reduceCtorEq, reduceIte, Nat.reduceEqDiff, Nat.reduceAdd, Nat.reduceLeDiff, Nat.reduceMul, Int.reduceLT, Int.reduceLE, Int.reduceAdd, Int.reduceSub, Int.reduceMul, Int.reduceNeg, Int.reduceToNat, Int.reduceEq, h10] <;> exact endK_same ⟨by simp [canK, hs], rfl, rfl⟩
  by_cases h5 : op = 5
  · cases hs : sgn k <;> simp only [go_sem, reduceCtorEq, reduceIte, Nat.reduceEqDiff, Nat.reduceAdd, Nat.reduceLeDiff, Nat.reduceMul, Int.reduceLT, Int.reduceLE, Int.reduceAdd, Int.reduceSub, Int.reduceMul, Int.reduceNeg, Int.reduceToNat, Int.reduceEq, h5] <;> exact endK_same ⟨by simp [canK, hs], rfl, rfl⟩
  by_cases h11 : op = 11
  · by_cases hb : bad = 6
    · simp only [go_sem, reduceCtorEq, reduceIte, Nat.reduceEqDiff, Nat.reduceAdd, Nat.reduceLeDiff, Nat.reduceMul, Int.reduceLT, Int.reduceLE, Int.reduceAdd, Int.reduceSub, Int.reduceMul, Int.reduceNeg, Int.reduceToNat, Int.reduceEq, h11, hb]
      exact endK_same ⟨by simp [canK], rfl, rfl⟩
    · cases hs : sgn k <;> simp only [go_sem, reduceCtorEq, reduceIte, Nat.reduceEqDiff, Nat.reduceAdd, Nat.reduceLeDiff, Nat.reduceMul, Int.reduceLT, Int.reduceLE, Int.reduceAdd, Int.reduceSub, Int.reduceMul, Int.reduceNeg, Int.reduceToNat, Int.reduceEq, h11, hb] <;> exact endK_same ⟨by simp [canK, hs, hb], rfl, rfl⟩
  by_cases h12 : op = 12
  · by_cases hb : bad = 6
    · simp only [go_sem, reduceCtorEq, reduceIte, Nat.reduceEqDiff, Nat.reduceAdd, Nat.reduceLeDiff, Nat.reduceMul, Int.reduceLT, Int.reduceLE, Int.reduceAdd, Int.reduceSub, Int.reduceMul, Int.reduceNeg, Int.reduceToNat, Int.reduceEq, h12, hb]
      exact endK_same ⟨by simp [canK], rfl, rfl⟩
    · cases hs : sgn k <;> simp only [go_sem, reduceCtorEq, reduceIte, Nat.reduceEqDiff, Nat.reduceAdd, Nat.reduceLeDiff, Nat.reduceMul, Int.reduceLT, Int.reduceLE, Int.reduceAdd, Int.reduceSub, Int.reduceMul, Int.reduceNeg, Int.reduceToNat, Int.reduceEq, h12, hb] <;> exact endK_same ⟨by simp [canK, hs, hb], rfl, rfl⟩
  by_cases h16 : op = 16
  · simp only [go_sem, reduceCtorEq, reduceIte, Nat.reduceEqDiff, Nat.reduceAdd, Nat.reduceLeDiff, Nat.reduceMul, Int.reduceLT, Int.reduceLE, Int.reduceAdd, Int.reduceSub, Int.reduceMul, Int.reduceNeg, Int.reduceToNat, Int.reduceEq, h16]
    exact endK_same ⟨by simp [canK], rfl, rfl⟩
  by_cases h17 : op = 17
  · simp only [go_sem, reduceCtorEq, reduceIte, Nat.reduceEqDiff, Nat.reduceAdd, Nat.reduceLeDiff, Nat.reduceMul, Int.reduceLT, Int.reduceLE, Int.reduceAdd, Int.reduceSub, Int.reduceMul, Int.reduceNeg, Int.reduceToNat, Int.reduceEq, h17]
    exact endK_same ⟨by simp [canK], rfl, rfl⟩
  simp only [go_sem, reduceCtorEq, reduceIte, Nat.reduceEqDiff, Nat.reduceAdd, Nat.reduceLeDiff, Nat.reduceMul, Int.reduceLT, Int.reduceLE, Int.reduceAdd, Int.reduceSub, Int.reduceMul, Int.reduceNeg, Int.reduceToNat, Int.reduceEq, h8, h9, h10, h5, h11, h12, h16, h17]
  exact endK_same ⟨by simp [canK, h8, h9, h10, h5, h11, h12, h16, h17], rfl, rfl⟩
theorem can_range {op k x : Int} (h : canK op k x = true) : 1 ≤ x ∧ x ≤ 10 := by
  unfold canK at h
  split at h
  · simp at h; omega
  · split at h
    · simp at h; omega
    · split at h
      · simp at h; omega
      · cases h
def fnI (op k : Int) (u : Value) (l : List Int) (F0 : Fz) (M0 : Hp) (m : Nat) (σ : Env) (F : Fz) (M : Hp) : Prop :=
  F = F0 ∧ M = M0 ∧ Ax.look σ 0 = some (.int .i64 op) ∧ Ax.look σ 1 = some (.int .i64 k) ∧ Ax.look σ 3 = some u ∧ ∃ i : Nat, i + m = l.length ∧ Ax.look σ 9 = some (.int .i64 i)
theorem k26 (op k : Int) (v : V) (u : Value) (l : List Int) (hk : isK k = true) (h : RowI M u l) (hl : l.length ≤ 1000) (hv : v.ok = true) (hw : v.w = ansW op k) (hc : ∀ x ∈ l, canK op k x = true) (hr : l.Pairwise (· < ·)) :
    CallsA Tryz.prog 26 [.int .i64 op, .int .i64 k, v.val, u] F M (Same F M (.bool true)) := by
  refine callsA_of hm Tryz.func26 e26 (Nat.le_of_ble_eq_true rfl) ?_
  obtain ⟨a, c, hu⟩ := h.shape
  simp only [c26, go_sem, reduceCtorEq, reduceIte, Nat.reduceEqDiff, Nat.reduceAdd, Nat.reduceLeDiff, Nat.reduceMul, Int.reduceLT, Int.reduceLE, Int.reduceAdd, Int.reduceSub, Int.reduceMul, Int.reduceNeg, Int.reduceToNat, Int.reduceEq]
  intro r hF hM
  have h' : RowI (M.upd r ⟨v.cs, 30, 6⟩) u l := h.keep ((Keep.refl M).new hM)
  simp only [go_sem, reduceCtorEq, reduceIte, Nat.reduceEqDiff, Nat.reduceAdd, Nat.reduceLeDiff, Nat.reduceMul, Int.reduceLT, Int.reduceLE, Int.reduceAdd, Int.reduceSub, Int.reduceMul, Int.reduceNeg, Int.reduceToNat, Int.reduceEq]
  refine callK_same (k14 F _ v) ?_
  rw [hv]
  simp only [go_sem, reduceCtorEq, reduceIte, Nat.reduceEqDiff, Nat.reduceAdd, Nat.reduceLeDiff, Nat.reduceMul, Int.reduceLT, Int.reduceLE, Int.reduceAdd, Int.reduceSub, Int.reduceMul, Int.reduceNeg, Int.reduceToNat, Int.reduceEq]
  refine callK_same (k48 F _ op k hk) ?_
  simp only [go_sem, reduceCtorEq, reduceIte, Nat.reduceEqDiff, Nat.reduceAdd, Nat.reduceLeDiff, Nat.reduceMul, Int.reduceLT, Int.reduceLE, Int.reduceAdd, Int.reduceSub, Int.reduceMul, Int.reduceNeg, Int.reduceToNat, Int.reduceEq, hw]
  refine callK_same (k49 F _ u l h' hl (fun x hx => can_range (hc x hx)) hr) ?_
  simp only [go_sem, reduceCtorEq, reduceIte, Nat.reduceEqDiff, Nat.reduceAdd, Nat.reduceLeDiff, Nat.reduceMul, Int.reduceLT, Int.reduceLE, Int.reduceAdd, Int.reduceSub, Int.reduceMul, Int.reduceNeg, Int.reduceToNat, Int.reduceEq]
  refine loop_of (fnI op k u l F (M.upd r ⟨v.cs, 30, 6⟩)) l.length ?_ ?_
  · exact ⟨rfl, rfl, by simp only [go_sem, reduceCtorEq, reduceIte, Nat.reduceEqDiff], by simp only [go_sem, reduceCtorEq, reduceIte, Nat.reduceEqDiff], by simp only [go_sem, reduceCtorEq, reduceIte, Nat.reduceEqDiff], 0, by omega, by simp only [go_sem, reduceCtorEq, reduceIte, Nat.reduceEqDiff] <;> rfl⟩
  rintro m σ F' M' ⟨rfl, rfl, h0, h1, h3, i, hi, h9⟩
  have h3' := h3
  rw [hu] at h3'
  by_cases hil : (i : Int) < l.length
  rotate_left
  · simp only [go_sem, reduceCtorEq, reduceIte, Nat.reduceEqDiff, Nat.reduceAdd, Nat.reduceLeDiff, Nat.reduceMul, Int.reduceLT, Int.reduceLE, Int.reduceAdd, Int.reduceSub, Int.reduceMul, Int.reduceNeg, Int.reduceToNat, Int.reduceEq, h0, h1, h3', h9, hil]
    exact endK_drop hM (endK_same ⟨rfl, rfl, rfl⟩)
  have hi0 : (0 : Int) ≤ i := by omega
  have hil' : i < l.length := by omega
  have ei : IntKind.i64.wrap ((i : Int) + 1) = i + 1 := w64 (by omega) (by omega)
  obtain ⟨g, cap, eg, hb, hg⟩ := h'.get (F := F') hil'
  have h3'' := h3
  rw [eg] at h3''
  have hx := hc l[i] (List.getElem_mem _)
  simp only [go_sem, reduceCtorEq, reduceIte, Nat.reduceEqDiff, Nat.reduceAdd, Nat.reduceLeDiff, Nat.reduceMul, Int.reduceLT, Int.reduceLE, Int.reduceAdd, Int.reduceSub, Int.reduceMul, Int.reduceNeg, Int.reduceToNat, Int.reduceEq, h0, h1, h3'', h9, hil, hi0, Int.toNat_natCast, Nat.mul_one, Nat.zero_add, hb, hg]
  refine callK_same (k50 F' _ op k _) ?_
  rw [hx]
  simp only [go_sem, reduceCtorEq, reduceIte, Nat.reduceEqDiff, Nat.reduceAdd, Nat.reduceLeDiff, Nat.reduceMul, Int.reduceLT, Int.reduceLE, Int.reduceAdd, Int.reduceSub, Int.reduceMul, Int.reduceNeg, Int.reduceToNat, Int.reduceEq, h0, h1, h3'', h9, ei]
  exact ⟨m - 1, by omega, rfl, rfl, by simp only [go_sem, reduceCtorEq, reduceIte, Nat.reduceEqDiff, h0], by simp only [go_sem, reduceCtorEq, reduceIte, Nat.reduceEqDiff, h1], by simp only [go_sem, reduceCtorEq, reduceIte, Nat.reduceEqDiff, h3'', eg], i + 1, by omega, by simp only [go_sem, reduceCtorEq, reduceIte, Nat.reduceEqDiff]; rfl⟩
theorem k28 (v : V) (u : Value) (l : List Int) (r : Int × Int) (h : RowI M u l) (hl : l.length ≤ 1000) (hh : if r.2 = 0 then v.has r.1 = true else r.2 ∈ l) :
    CallsA Tryz.prog 28 [v.val, u, .int .i64 r.1, .int .i64 r.2] F M (Same F M (.bool true)) := by
  refine callsA_of hm Tryz.func28 e28 (Nat.le_of_ble_eq_true rfl) ?_
  simp only [c28, go_sem, reduceCtorEq, reduceIte, Nat.reduceEqDiff, Nat.reduceAdd, Nat.reduceLeDiff, Nat.reduceMul, Int.reduceLT, Int.reduceLE, Int.reduceAdd, Int.reduceSub, Int.reduceMul, Int.reduceNeg, Int.reduceToNat, Int.reduceEq]
  intro r4 hF hM
  have h' : RowI (M.upd r4 ⟨v.cs, 30, 6⟩) u l := h.keep ((Keep.refl M).new hM)
  by_cases h0 : r.2 = 0
  · rw [if_pos h0] at hh
    simp only [go_sem, reduceCtorEq, reduceIte, Nat.reduceEqDiff, Nat.reduceAdd, Nat.reduceLeDiff, Nat.reduceMul, Int.reduceLT, Int.reduceLE, Int.reduceAdd, Int.reduceSub, Int.reduceMul, Int.reduceNeg, Int.reduceToNat, Int.reduceEq, h0]
    refine callK_same (k19 F _ v r.1) ?_
    rw [hh]
    simp only [go_sem, reduceCtorEq, reduceIte, Nat.reduceEqDiff, Nat.reduceAdd, Nat.reduceLeDiff, Nat.reduceMul, Int.reduceLT, Int.reduceLE, Int.reduceAdd, Int.reduceSub, Int.reduceMul, Int.reduceNeg, Int.reduceToNat, Int.reduceEq]
    exact endK_drop hM (endK_same ⟨rfl, rfl, rfl⟩)
  · rw [if_neg h0] at hh
    simp only [go_sem, reduceCtorEq, reduceIte, Nat.reduceEqDiff, Nat.reduceAdd, Nat.reduceLeDiff, Nat.reduceMul, Int.reduceLT, Int.reduceLE, Int.reduceAdd, Int.reduceSub, Int.reduceMul, Int.reduceNeg, Int.reduceToNat, Int.reduceEq, h0]
    refine callK_same (k55 F _ u l r.2 h' hl) ?_
    simp only [go_sem, reduceCtorEq, reduceIte, Nat.reduceEqDiff, Nat.reduceAdd, Nat.reduceLeDiff, Nat.reduceMul, Int.reduceLT, Int.reduceLE, Int.reduceAdd, Int.reduceSub, Int.reduceMul, Int.reduceNeg, Int.reduceToNat, Int.reduceEq, hh]
    exact endK_drop hM (endK_same ⟨rfl, rfl, rfl⟩)
theorem k21 (v : V) (u : Value) (l : List Int) (r : Int × Int) (hv : v.ok = true) (h : RowI M u l) (hh : if r.2 = 0 then v.nextR 0 = r.1 ∧ v.is1 = true ∧ l = [] else v.nextR 0 < 0 ∧ l = [r.2]) :
    CallsA Tryz.prog 21 [v.val, u, .int .i64 r.1, .int .i64 r.2] F M (Same F M (.bool true)) := by
  refine callsA_of hm Tryz.func21 e21 (Nat.le_of_ble_eq_true rfl) ?_
  have lw := isW_le (ok_in hv).w
  obtain ⟨a, c, hu⟩ := h.shape
  simp only [c21, go_sem, reduceCtorEq, reduceIte, Nat.reduceEqDiff, Nat.reduceAdd, Nat.reduceLeDiff, Nat.reduceMul, Int.reduceLT, Int.reduceLE, Int.reduceAdd, Int.reduceSub, Int.reduceMul, Int.reduceNeg, Int.reduceToNat, Int.reduceEq]
  intro r4 hF hM
  by_cases h0 : r.2 = 0
  · rw [if_pos h0] at hh
    obtain ⟨e1, e2, e3⟩ := hh
    have e4 : (decide (0 ≤ v.nextR 0) && decide (v.nextR (v.nextR 0 + 1) < 0)) = true := e2
    rw [e1] at e4
    simp only [go_sem, reduceCtorEq, reduceIte, Nat.reduceEqDiff, Nat.reduceAdd, Nat.reduceLeDiff, Nat.reduceMul, Int.reduceLT, Int.reduceLE, Int.reduceAdd, Int.reduceSub, Int.reduceMul, Int.reduceNeg, Int.reduceToNat, Int.reduceEq, h0]
    refine callK_same (k20 F _ v hv) ?_
    subst e3
    rw [hu]
    simp only [onlyA, e4, e1, go_sem, reduceCtorEq, reduceIte, Nat.reduceEqDiff, Nat.reduceAdd, Nat.reduceLeDiff, Nat.reduceMul, Int.reduceLT, Int.reduceLE, Int.reduceAdd, Int.reduceSub, Int.reduceMul, Int.reduceNeg, Int.reduceToNat, Int.reduceEq, List.length_nil]
    exact endK_drop hM (endK_same ⟨rfl, rfl, rfl⟩)
  · rw [if_neg h0] at hh
    obtain ⟨e1, e2⟩ := hh
    subst e2
    rcases h with ⟨_, h⟩ | ⟨g, cap, n, rfl, hg⟩
    · cases h
    have bg := blk_M (F := F) hg
    have gg := ne_of_none hM hg
    simp only [go_sem, reduceCtorEq, reduceIte, Nat.reduceEqDiff, Nat.reduceAdd, Nat.reduceLeDiff, Nat.reduceMul, Int.reduceLT, Int.reduceLE, Int.reduceAdd, Int.reduceSub, Int.reduceMul, Int.reduceNeg, Int.reduceToNat, Int.reduceEq, h0]
    refine callK_same (k17 F _ v 0 lw.1 lw.2) ?_
    simp only [go_sem, reduceCtorEq, reduceIte, Nat.reduceEqDiff, Nat.reduceAdd, Nat.reduceLeDiff, Nat.reduceMul, Int.reduceLT, Int.reduceLE, Int.reduceAdd, Int.reduceSub, Int.reduceMul, Int.reduceNeg, Int.reduceToNat, Int.reduceEq, h0, e1, List.length_singleton, bg, gg, List.map_cons, List.map_nil, intV]
    exact endK_drop hM (endK_same ⟨rfl, rfl, rfl⟩)
end Go.Proofs.Tryz.K

/- Contract: sets of a kind, of layer 4's statements. -/
namespace Go.Proofs.Tryz.K
open Go Go.Ax Go.Proofs.Tryz.S
set_option maxRecDepth 100000
set_option linter.unusedSimpArgs false
set_option linter.unusedVariables false
set_option maxHeartbeats 4000000
variable (F : Fz) (M : Hp)

structure S4 (F0 : Fz) (M0 : Hp) (r2 : Nat) (ask : List Value) (w : Int) (σ : Env) (F : Fz) (M : Hp) : Prop where
  f : F = F0
  kp : Keep M0 M
  old : Old F0 M
  fr : M r2 = some ⟨ask, 25, 2⟩
  h1 : Ax.look σ 5 = some (.int .i64 w)
  h2 : Ax.look σ 2 = some (.pointer (some ⟨r2, 0, none⟩))
theorem S4.ext {F0 : Fz} {M0 : Hp} {r2 : Nat} {ask : List Value} {w : Int} {σ σ' : Env} {F : Fz} {M : Hp} (s : S4 F0 M0 r2 ask w σ F M) (e1 : Ax.look σ' 5 = Ax.look σ 5) (e2 : Ax.look σ' 2 = Ax.look σ 2) : S4 F0 M0 r2 ask w σ' F M :=
  ⟨s.f, s.kp, s.old, s.fr, e1.trans s.h1, e2.trans s.h2⟩
def c4I (F0 : Fz) (M0 : Hp) (r2 : Nat) (ask : List Value) (w : Int) (n : Nat) (σ : Env) (F : Fz) (M : Hp) : Prop :=
  S4 F0 M0 r2 ask w σ F M ∧ ∃ (sl : Value) (l : List V), Ax.look σ 6 = some sl ∧ Mine 30 F0 M0 M sl l ∧ l.length ≤ n
def c42I (F0 : Fz) (M0 : Hp) (r2 : Nat) (ask : List Value) (w : Int) (n : Nat) (σ : Env) (F : Fz) (M : Hp) : Prop :=
  S4 F0 M0 r2 ask w σ F M ∧ ∃ (sl : Value) (l : List V), Ax.look σ 6 = some sl ∧ Mine 30 F0 M0 M sl l ∧ l.length ≤ n ∧ l ≠ []
def v4I (F0 : Fz) (M0 : Hp) (r2 : Nat) (ask : List Value) (w : Int) (slot n c k : Nat) (m : Nat) (σ : Env) (F : Fz) (M : Hp) : Prop :=
  S4 F0 M0 r2 ask w σ F M ∧ ∃ (i : Nat) (sl : Value) (l : List V), i + m = n ∧ Ax.look σ slot = some (.int .i64 i) ∧ Ax.look σ 6 = some sl ∧ Mine 30 F0 M0 M sl l ∧ l.length ≤ c + k * i ∧ l.length ≤ c + 4 ∧ (c = 9 → l ≠ [])
theorem k11 (k : Int) (uV uN : Value) (lv : List V) (ln : List Int) (hold : Old F M) (hV : RdV F M uV lv) (hN : RdI F M uN ln) :
    CallsA Tryz.prog 11 [.agg #[uV, uN], .int .i64 k] F M (setsR F M) := by
  refine callsA_of hm Tryz.func11 e11 (Nat.le_of_ble_eq_true rfl) ?_
  have hw : wK k = 0 ∨ isW (wK k) = true := by
    unfold wK
    split
    · exact .inr (ofW_isW k)
    · exact .inl rfl
  have hV0 := hV
  have hN0 := hN
  obtain ⟨hlv, aV, cV, hcV, rfl, _⟩ := hV
  obtain ⟨hln, aN, cN, rfl, _⟩ := hN
  simp only [c11, go_sem, reduceCtorEq, reduceIte, Nat.reduceEqDiff, Nat.reduceAdd, Nat.reduceLeDiff, Nat.reduceMul, Int.reduceLT, Int.reduceLE, Int.reduceAdd, Int.reduceSub, Int.reduceMul, Int.reduceNeg, Int.reduceToNat, Int.reduceEq]
  intro r2 hF2 hM2
  simp only [go_sem, reduceCtorEq, reduceIte, Nat.reduceEqDiff, Nat.reduceAdd, Nat.reduceLeDiff, Nat.reduceMul, Int.reduceLT, Int.reduceLE, Int.reduceAdd, Int.reduceSub, Int.reduceMul, Int.reduceNeg, Int.reduceToNat, Int.reduceEq]
  refine callK_same (k13 F _ k) ?_
  generalize wK k = w at *
  simp only [go_sem, reduceCtorEq, reduceIte, Nat.reduceEqDiff, Nat.reduceAdd, Nat.reduceLeDiff, Nat.reduceMul, Int.reduceLT, Int.reduceLE, Int.reduceAdd, Int.reduceSub, Int.reduceMul, Int.reduceNeg, Int.reduceToNat, Int.reduceEq]
  refine block_cut (c4I F M r2 [.slice aV lv.length cV, .slice aN ln.length cN] w 4) ?_ ?_
  · refine loop_of (v4I F M r2 [.slice aV lv.length cV, .slice aN ln.length cN] w 7 lv.length 0 1) lv.length ?_ ?_
    · exact ⟨⟨rfl, (Keep.refl M).new hM2, hold.upd hF2, Hp.upd_same _ _ _, by simp only [go_sem, reduceCtorEq, reduceIte, Nat.reduceEqDiff], by simp only [go_sem, reduceCtorEq, reduceIte, Nat.reduceEqDiff]⟩, 0, _, [], by omega, by simp only [go_sem, reduceCtorEq, reduceIte, Nat.reduceEqDiff] <;> rfl, by simp only [go_sem, reduceCtorEq, reduceIte, Nat.reduceEqDiff], Mine.nil _ _ _ _, by simp, by simp, by omega⟩
    rintro m σ F' M' ⟨s, i, sl, l, hi, h6, h5, mine, hll, hl4, _⟩
    obtain rfl := s.f
    have br := blk_M (F := F') s.fr
    have hsl : ∃ ad cap, sl = .slice ad l.length cap := by
      rcases mine.own with ⟨h1, h2⟩ | ⟨g, cap, h1, _⟩
      · exact ⟨none, 0, by rw [h1, h2]; rfl⟩
      · exact ⟨_, _, h1⟩
    obtain ⟨ad, cap, rfl⟩ := hsl
    have ei : IntKind.i64.wrap ((i : Int) + 1) = i + 1 := w64 (by omega) (by omega)
    by_cases hil : (i : Int) < lv.length
    rotate_left
    · simp only [go_sem, reduceCtorEq, reduceIte, Nat.reduceEqDiff, Nat.reduceAdd, Nat.reduceLeDiff, Nat.reduceMul, Int.reduceLT, Int.reduceLE, Int.reduceAdd, Int.reduceSub, Int.reduceMul, Int.reduceNeg, Int.reduceToNat, Int.reduceEq, s.h1, s.h2, h5, h6, br, hil]
      exact ⟨s.ext (by simp only [go_sem, reduceCtorEq, reduceIte, Nat.reduceEqDiff]) (by simp only [go_sem, reduceCtorEq, reduceIte, Nat.reduceEqDiff]), _, l, by simp only [go_sem, reduceCtorEq, reduceIte, Nat.reduceEqDiff, h5], mine, by omega⟩
    by_cases hl3 : (l.length : Int) < 4
    rotate_left
    · simp only [go_sem, reduceCtorEq, reduceIte, Nat.reduceEqDiff, Nat.reduceAdd, Nat.reduceLeDiff, Nat.reduceMul, Int.reduceLT, Int.reduceLE, Int.reduceAdd, Int.reduceSub, Int.reduceMul, Int.reduceNeg, Int.reduceToNat, Int.reduceEq, s.h1, s.h2, h5, h6, br, hil, hl3]
      exact ⟨s.ext (by simp only [go_sem, reduceCtorEq, reduceIte, Nat.reduceEqDiff]) (by simp only [go_sem, reduceCtorEq, reduceIte, Nat.reduceEqDiff]), _, l, by simp only [go_sem, reduceCtorEq, reduceIte, Nat.reduceEqDiff, h5], mine, by omega⟩
    have hi0 : (0 : Int) ≤ i := by omega
    have hi' : i < lv.length := by omega
    have hV1 := hV0.keep s.kp s.old
    obtain ⟨_, aV', cV', _, eV, hV1⟩ := hV1
    cases eV
    rcases hV1 with h | ⟨b, o, cs, rfl, hb, hc⟩
    · rw [h] at hi'; simp at hi'
    obtain ⟨d1, d2⟩ := hc i hi'
    generalize lv[i] = va at d2
    have d3 : cs[o + i * 6]? = some (.int .i64 va.w) := by
      have := congrArg (fun t => t[0]?) d2
      simpa [V.cs] using this
    have m1 : (i : Int).tmod 5 = (i : Int) % 5 := Int.tmod_eq_emod_of_nonneg (by omega)
    have n5 : ¬ (5 : Int) = 0 := by decide
    have nxt : ∀ σ' (M2 : Hp) (v' : Value) (l' : List V), Ax.look σ' 5 = Ax.look σ 5 → Ax.look σ' 2 = Ax.look σ 2 → Ax.look σ' 6 = some v' → Ax.look σ' 7 = some (.int .i64 (i + 1)) → Keep M M2 → Old F' M2 → M2 r2 = some ⟨[.slice (some ⟨b, o, none⟩) lv.length cV, .slice aN ln.length cN], 25, 2⟩ → Mine 30 F' M M2 v' l' → l'.length ≤ l.length + 1 →
        ∃ m', m' < m ∧ v4I F' M r2 [.slice (some ⟨b, o, none⟩) lv.length cV, .slice aN ln.length cN] w 7 lv.length 0 1 m' σ' F' M2 := by
      intro σ' M2 v' l' e1 e2 e5 e6 k o' f mi hl'
      exact ⟨m - 1, by omega, ⟨rfl, k, o', f, e1.trans s.h1, e2.trans s.h2⟩, i + 1, v', l', by omega, e6, e5, mi, by omega, by omega, by omega⟩
    by_cases hc1 : va.w = w ∨ (i : Int) % 5 = 4
    · have hst : ∀ (K : Env → Fz → Hp → Prop), True := fun _ => trivial
      by_cases hvw : va.w = w
      · simp only [go_sem, reduceCtorEq, reduceIte, Nat.reduceEqDiff, Nat.reduceAdd, Nat.reduceLeDiff, Nat.reduceMul, Int.reduceLT, Int.reduceLE, Int.reduceAdd, Int.reduceSub, Int.reduceMul, Int.reduceNeg, Int.reduceToNat, Int.reduceEq, s.h1, s.h2, h5, h6, br, hil, hl3, hi0, Int.toNat_natCast, Nat.add_zero, hb, d3, d1, d2, hvw, m1, n5, not_false_eq_true]
        intro rb hFb hMb
        simp only [go_sem, reduceCtorEq, reduceIte, Nat.reduceEqDiff, Nat.reduceAdd, Nat.reduceLeDiff, Nat.reduceMul, Int.reduceLT, Int.reduceLE, Int.reduceAdd, Int.reduceSub, Int.reduceMul, Int.reduceNeg, Int.reduceToNat, Int.reduceEq, s.h1, s.h2, h5, h6]
        refine apM_of mine s.kp s.old s.fr (by simp) hFb hMb (ys := [va]) ⟨rfl, .inr ⟨⟨rb, 0, none⟩, 1, rfl, .inr ⟨rb, 0, _, rfl, blk_upd_same, by simp [V.cs]⟩⟩⟩ (by simp) (by simp; omega) ?_
        intro v' M2 k2 o2 f2 m2
        simp only [go_sem, reduceCtorEq, reduceIte, Nat.reduceEqDiff, Nat.reduceAdd, Nat.reduceLeDiff, Nat.reduceMul, Int.reduceLT, Int.reduceLE, Int.reduceAdd, Int.reduceSub, Int.reduceMul, Int.reduceNeg, Int.reduceToNat, Int.reduceEq, s.h1, s.h2, h5, h6, ei]
        exact nxt _ _ _ _ (by simp only [go_sem, reduceCtorEq, reduceIte, Nat.reduceEqDiff]) (by simp only [go_sem, reduceCtorEq, reduceIte, Nat.reduceEqDiff]) (by simp only [go_sem, reduceCtorEq, reduceIte, Nat.reduceEqDiff] <;> rfl) (by simp only [go_sem, reduceCtorEq, reduceIte, Nat.reduceEqDiff]) k2 o2 f2 m2 (by simp)
      · have h4 : (i : Int) % 5 = 4 := by rcases hc1 with h | h; exact absurd h hvw; exact h
        simp only [go_sem, reduceCtorEq, reduceIte, Nat.reduceEqDiff, Nat.reduceAdd, Nat.reduceLeDiff, Nat.reduceMul, Int.reduceLT, Int.reduceLE, Int.reduceAdd, Int.reduceSub, Int.reduceMul, Int.reduceNeg, Int.reduceToNat, Int.reduceEq, s.h1, s.h2, h5, h6, br, hil, hl3, hi0, Int.toNat_natCast, Nat.add_zero, hb, d3, d1, d2, hvw, m1, n5, h4, not_false_eq_true]
        intro rb hFb hMb
        simp only [go_sem, reduceCtorEq, reduceIte, Nat.reduceEqDiff, Nat.reduceAdd, Nat.reduceLeDiff, Nat.reduceMul, Int.reduceLT, Int.reduceLE, Int.reduceAdd, Int.reduceSub, Int.reduceMul, Int.reduceNeg, Int.reduceToNat, Int.reduceEq, s.h1, s.h2, h5, h6]
        refine apM_of mine s.kp s.old s.fr (by simp) hFb hMb (ys := [va]) ⟨rfl, .inr ⟨⟨rb, 0, none⟩, 1, rfl, .inr ⟨rb, 0, _, rfl, blk_upd_same, by simp [V.cs]⟩⟩⟩ (by simp) (by simp; omega) ?_
        intro v' M2 k2 o2 f2 m2
        simp only [go_sem, reduceCtorEq, reduceIte, Nat.reduceEqDiff, Nat.reduceAdd, Nat.reduceLeDiff, Nat.reduceMul, Int.reduceLT, Int.reduceLE, Int.reduceAdd, Int.reduceSub, Int.reduceMul, Int.reduceNeg, Int.reduceToNat, Int.reduceEq, s.h1, s.h2, h5, h6, ei]
        exact nxt _ _ _ _ (by simp only [go_sem, reduceCtorEq, reduceIte, Nat.reduceEqDiff]) (by simp only [go_sem, reduceCtorEq, reduceIte, Nat.reduceEqDiff]) (by simp only [go_sem, reduceCtorEq, reduceIte, Nat.reduceEqDiff] <;> rfl) (by simp only [go_sem, reduceCtorEq, reduceIte, Nat.reduceEqDiff]) k2 o2 f2 m2 (by simp)
    · have hvw : ¬ va.w = w := fun h => hc1 (.inl h)
      have h4 : ¬ (i : Int) % 5 = 4 := fun h => hc1 (.inr h)
      simp only [go_sem, reduceCtorEq, reduceIte, Nat.reduceEqDiff, Nat.reduceAdd, Nat.reduceLeDiff, Nat.reduceMul, Int.reduceLT, Int.reduceLE, Int.reduceAdd, Int.reduceSub, Int.reduceMul, Int.reduceNeg, Int.reduceToNat, Int.reduceEq, s.h1, s.h2, h5, h6, br, hil, hl3, hi0, Int.toNat_natCast, Nat.add_zero, hb, d3, d1, d2, hvw, m1, n5, h4, ei, not_false_eq_true]
      exact nxt _ _ _ _ (by simp only [go_sem, reduceCtorEq, reduceIte, Nat.reduceEqDiff]) (by simp only [go_sem, reduceCtorEq, reduceIte, Nat.reduceEqDiff]) (by simp only [go_sem, reduceCtorEq, reduceIte, Nat.reduceEqDiff, h5] <;> rfl) (by simp only [go_sem, reduceCtorEq, reduceIte, Nat.reduceEqDiff]) s.kp s.old s.fr mine (by omega)
  rintro σ F' M' ⟨s, sl, l, h5, mine, hl4⟩
  obtain rfl := s.f
  rw [then_n]
  have hl6 : l.length ≤ 4 := hl4
  by_cases hw0 : w = 0
  · have e8 := k32 F' M' 8 (by decide) (by decide)
    simp only [go_sem, reduceCtorEq, reduceIte, Nat.reduceEqDiff, Nat.reduceAdd, Nat.reduceLeDiff, Nat.reduceMul, Int.reduceLT, Int.reduceLE, Int.reduceAdd, Int.reduceSub, Int.reduceMul, Int.reduceNeg, Int.reduceToNat, Int.reduceEq, s.h1, s.h2, h5, hw0]
    refine callK_same e8 ?_
    simp only [go_sem, reduceCtorEq, reduceIte, Nat.reduceEqDiff, Nat.reduceAdd, Nat.reduceLeDiff, Nat.reduceMul, Int.reduceLT, Int.reduceLE, Int.reduceAdd, Int.reduceSub, Int.reduceMul, Int.reduceNeg, Int.reduceToNat, Int.reduceEq, s.h1, s.h2, h5]
    intro rb hFb hMb
    simp only [go_sem, reduceCtorEq, reduceIte, Nat.reduceEqDiff, Nat.reduceAdd, Nat.reduceLeDiff, Nat.reduceMul, Int.reduceLT, Int.reduceLE, Int.reduceAdd, Int.reduceSub, Int.reduceMul, Int.reduceNeg, Int.reduceToNat, Int.reduceEq, s.h1, s.h2, h5]
    refine apM_of mine s.kp s.old s.fr (by simp) hFb hMb (ys := [V.whole 8]) ⟨rfl, .inr ⟨⟨rb, 0, none⟩, 1, rfl, .inr ⟨rb, 0, _, rfl, blk_upd_same, by simp [V.cs]⟩⟩⟩ (by simp) (by simp; omega) ?_
    intro v' M2 k2 o2 f2 m2
    simp only [go_sem, reduceCtorEq, reduceIte, Nat.reduceEqDiff, Nat.reduceAdd, Nat.reduceLeDiff, Nat.reduceMul, Int.reduceLT, Int.reduceLE, Int.reduceAdd, Int.reduceSub, Int.reduceMul, Int.reduceNeg, Int.reduceToNat, Int.reduceEq, s.h1, s.h2, h5]
    exact m2.done k2 (by simp) (by simp; omega)
  have isw : isW w = true := by rcases hw with h | h; exact absurd h hw0; exact h
  have lw := isW_le isw
  have hp := pow_w isw
  have w1 : IntKind.i64.wrap (w - 1) = w - 1 := w64 (by omega) (by omega)
  have c0 : ¬ w - 1 < 0 := by omega
  have c1 : ¬ w < 0 := by omega
  have e1 : shlv .i64 1 (w - 1) = halfV w := shl1 (by omega) (by omega)
  have e65 : shlv .i64 1 w = 2 ^ w.toNat := shl1 lw.1 lw.2
  have e66 : IntKind.i64.wrap (2 ^ w.toNat - 1) = mostV w := most_wrap lw.1 lw.2
  simp only [go_sem, reduceCtorEq, reduceIte, Nat.reduceEqDiff, Nat.reduceAdd, Nat.reduceLeDiff, Nat.reduceMul, Int.reduceLT, Int.reduceLE, Int.reduceAdd, Int.reduceSub, Int.reduceMul, Int.reduceNeg, Int.reduceToNat, Int.reduceEq, s.h1, s.h2, h5, hw0, w1, c0, c1, e1, e65, e66, not_false_eq_true]
  refine callK_same (k32 _ _ w lw.1 lw.2) ?_
  simp only [go_sem, reduceCtorEq, reduceIte, Nat.reduceEqDiff, Nat.reduceAdd, Nat.reduceLeDiff, Nat.reduceMul, Int.reduceLT, Int.reduceLE, Int.reduceAdd, Int.reduceSub, Int.reduceMul, Int.reduceNeg, Int.reduceToNat, Int.reduceEq, s.h1, s.h2, h5]
  refine callK_same (k33 _ _ w) ?_
  simp only [go_sem, reduceCtorEq, reduceIte, Nat.reduceEqDiff, Nat.reduceAdd, Nat.reduceLeDiff, Nat.reduceMul, Int.reduceLT, Int.reduceLE, Int.reduceAdd, Int.reduceSub, Int.reduceMul, Int.reduceNeg, Int.reduceToNat, Int.reduceEq, s.h1, s.h2, h5]
  refine callK_same (k34 _ _ w 0) ?_
  simp only [go_sem, reduceCtorEq, reduceIte, Nat.reduceEqDiff, Nat.reduceAdd, Nat.reduceLeDiff, Nat.reduceMul, Int.reduceLT, Int.reduceLE, Int.reduceAdd, Int.reduceSub, Int.reduceMul, Int.reduceNeg, Int.reduceToNat, Int.reduceEq, s.h1, s.h2, h5]
  refine callK_same (k34 _ _ w _) ?_
  simp only [go_sem, reduceCtorEq, reduceIte, Nat.reduceEqDiff, Nat.reduceAdd, Nat.reduceLeDiff, Nat.reduceMul, Int.reduceLT, Int.reduceLE, Int.reduceAdd, Int.reduceSub, Int.reduceMul, Int.reduceNeg, Int.reduceToNat, Int.reduceEq, s.h1, s.h2, h5]
  refine callK_same (k34 _ _ w _) ?_
  simp only [go_sem, reduceCtorEq, reduceIte, Nat.reduceEqDiff, Nat.reduceAdd, Nat.reduceLeDiff, Nat.reduceMul, Int.reduceLT, Int.reduceLE, Int.reduceAdd, Int.reduceSub, Int.reduceMul, Int.reduceNeg, Int.reduceToNat, Int.reduceEq, s.h1, s.h2, h5]
  simp only [go_sem, reduceCtorEq, reduceIte, Nat.reduceEqDiff, Nat.reduceAdd, Nat.reduceLeDiff, Nat.reduceMul, Int.reduceLT, Int.reduceLE, Int.reduceAdd, Int.reduceSub, Int.reduceMul, Int.reduceNeg, Int.reduceToNat, Int.reduceEq, List.append_assoc, V.drop_app, V.take_app]
  intro rb hFb hMb
  simp only [go_sem, reduceCtorEq, reduceIte, Nat.reduceEqDiff, Nat.reduceAdd, Nat.reduceLeDiff, Nat.reduceMul, Int.reduceLT, Int.reduceLE, Int.reduceAdd, Int.reduceSub, Int.reduceMul, Int.reduceNeg, Int.reduceToNat, Int.reduceEq, s.h1, s.h2, h5]
  refine apM_of mine s.kp s.old s.fr (by simp) hFb hMb (ys := [V.whole w, V.nothing w, V.just w 0, V.just w (halfV w), V.just w (mostV w)]) ⟨rfl, .inr ⟨⟨rb, 0, none⟩, 5, rfl, .inr ⟨rb, 0, _, rfl, blk_upd_same, by simp [V.cs]⟩⟩⟩ (by simp) (by simp; omega) ?_
  intro v' M2 k2 o2 f2 m2
  have hl9 : (l ++ [V.whole w, V.nothing w, V.just w 0, V.just w (halfV w), V.just w (mostV w)]).length ≤ 9 := by simp; omega
  have hne : l ++ [V.whole w, V.nothing w, V.just w 0, V.just w (halfV w), V.just w (mostV w)] ≠ [] := by simp
  generalize l ++ [V.whole w, V.nothing w, V.just w 0, V.just w (halfV w), V.just w (mostV w)] = l2 at *
  simp only [go_sem, reduceCtorEq, reduceIte, Nat.reduceEqDiff, Nat.reduceAdd, Nat.reduceLeDiff, Nat.reduceMul, Int.reduceLT, Int.reduceLE, Int.reduceAdd, Int.reduceSub, Int.reduceMul, Int.reduceNeg, Int.reduceToNat, Int.reduceEq, s.h1, s.h2, h5]
  refine block_cut (c42I F' M r2 [.slice aV lv.length cV, .slice aN ln.length cN] w 13) ?_ ?_
  · refine loop_of (v4I F' M r2 [.slice aV lv.length cV, .slice aN ln.length cN] w 8 2 9 2) 2 ?_ ?_
    · exact ⟨⟨rfl, k2, o2, f2, by simp only [go_sem, reduceCtorEq, reduceIte, Nat.reduceEqDiff, s.h1], by simp only [go_sem, reduceCtorEq, reduceIte, Nat.reduceEqDiff, s.h2]⟩, 0, _, l2, by omega, by simp only [go_sem, reduceCtorEq, reduceIte, Nat.reduceEqDiff] <;> rfl, by simp only [go_sem, reduceCtorEq, reduceIte, Nat.reduceEqDiff], m2, by omega, by omega, fun _ => hne⟩
    clear s h5 mine hl4 hl6 hl9 hne m2 f2 o2 k2 sl l
    rintro m σ F'' M'' ⟨s, i, sl, l, hi, h7, h5, mine, hll, hl4, hne⟩
    obtain rfl := s.f
    have br := blk_M (F := F'') s.fr
    have ei : IntKind.i64.wrap ((i : Int) + 1) = i + 1 := w64 (by omega) (by omega)
    have out : ∀ σ', Ax.look σ' 5 = Ax.look σ 5 → Ax.look σ' 2 = Ax.look σ 2 → Ax.look σ' 6 = Ax.look σ 6 → c42I F'' M r2 [.slice aV lv.length cV, .slice aN ln.length cN] w 13 σ' F'' M'' := fun σ' q1 q2 q5 => ⟨s.ext q1 q2, sl, l, q5.trans h5, mine, by omega, hne rfl⟩
    by_cases hil : (i : Int) < ln.length
    rotate_left
    · simp only [go_sem, reduceCtorEq, reduceIte, Nat.reduceEqDiff, Nat.reduceAdd, Nat.reduceLeDiff, Nat.reduceMul, Int.reduceLT, Int.reduceLE, Int.reduceAdd, Int.reduceSub, Int.reduceMul, Int.reduceNeg, Int.reduceToNat, Int.reduceEq, s.h1, s.h2, h5, h7, br, hil]
      exact out _ (by simp only [go_sem, reduceCtorEq, reduceIte, Nat.reduceEqDiff]) (by simp only [go_sem, reduceCtorEq, reduceIte, Nat.reduceEqDiff]) (by simp only [go_sem, reduceCtorEq, reduceIte, Nat.reduceEqDiff])
    by_cases hi2 : (i : Int) < 2
    rotate_left
    · simp only [go_sem, reduceCtorEq, reduceIte, Nat.reduceEqDiff, Nat.reduceAdd, Nat.reduceLeDiff, Nat.reduceMul, Int.reduceLT, Int.reduceLE, Int.reduceAdd, Int.reduceSub, Int.reduceMul, Int.reduceNeg, Int.reduceToNat, Int.reduceEq, s.h1, s.h2, h5, h7, br, hil, hi2]
      exact out _ (by simp only [go_sem, reduceCtorEq, reduceIte, Nat.reduceEqDiff]) (by simp only [go_sem, reduceCtorEq, reduceIte, Nat.reduceEqDiff]) (by simp only [go_sem, reduceCtorEq, reduceIte, Nat.reduceEqDiff])
    have hi0 : (0 : Int) ≤ i := by omega
    have hi' : i < ln.length := by omega
    have hN1 := hN0.keep s.kp s.old
    obtain ⟨_, aN', cN', eN, hN1⟩ := hN1
    cases eN
    rcases hN1 with h | ⟨b, o, cs, rfl, hb, hc⟩
    · rw [h] at hi'; simp at hi'
    have d1 := hc i hi'
    simp only [intV] at d1
    generalize ln[i] = x at d1
    simp only [go_sem, reduceCtorEq, reduceIte, Nat.reduceEqDiff, Nat.reduceAdd, Nat.reduceLeDiff, Nat.reduceMul, Int.reduceLT, Int.reduceLE, Int.reduceAdd, Int.reduceSub, Int.reduceMul, Int.reduceNeg, Int.reduceToNat, Int.reduceEq, s.h1, s.h2, h5, h7, br, hil, hi2, hi0, Int.toNat_natCast, Nat.mul_one, hb, d1]
    refine callK_same (k35 _ _ _ w lw.1 lw.2) ?_
    simp only [go_sem, reduceCtorEq, reduceIte, Nat.reduceEqDiff, Nat.reduceAdd, Nat.reduceLeDiff, Nat.reduceMul, Int.reduceLT, Int.reduceLE, Int.reduceAdd, Int.reduceSub, Int.reduceMul, Int.reduceNeg, Int.reduceToNat, Int.reduceEq, s.h1, s.h2, h5, h7, c1, shl1 lw.1 lw.2, most_wrap lw.1 lw.2, not_false_eq_true]
    refine callK_same (k34 _ _ w _) ?_
    simp only [go_sem, reduceCtorEq, reduceIte, Nat.reduceEqDiff, Nat.reduceAdd, Nat.reduceLeDiff, Nat.reduceMul, Int.reduceLT, Int.reduceLE, Int.reduceAdd, Int.reduceSub, Int.reduceMul, Int.reduceNeg, Int.reduceToNat, Int.reduceEq, s.h1, s.h2, h5, h7]
    refine callK_same (k35 _ _ _ w lw.1 lw.2) ?_
    simp only [go_sem, reduceCtorEq, reduceIte, Nat.reduceEqDiff, Nat.reduceAdd, Nat.reduceLeDiff, Nat.reduceMul, Int.reduceLT, Int.reduceLE, Int.reduceAdd, Int.reduceSub, Int.reduceMul, Int.reduceNeg, Int.reduceToNat, Int.reduceEq, s.h1, s.h2, h5, h7, c1, shl1 lw.1 lw.2, most_wrap lw.1 lw.2, not_false_eq_true]
    intro rb hFb hMb
    simp only [go_sem, reduceCtorEq, reduceIte, Nat.reduceEqDiff, Nat.reduceAdd, Nat.reduceLeDiff, Nat.reduceMul, Int.reduceLT, Int.reduceLE, Int.reduceAdd, Int.reduceSub, Int.reduceMul, Int.reduceNeg, Int.reduceToNat, Int.reduceEq, s.h1, s.h2, h5, h7]
    refine apM_of mine s.kp s.old s.fr (by simp) hFb hMb (ys := [V.just w (x % 2 ^ w.toNat), V.mk w false (x % 2 ^ w.toNat) (IntKind.i64.wrap (x % 2 ^ w.toNat + 9) % 2 ^ w.toNat) (mostV w) 0]) ⟨rfl, .inr ⟨⟨rb, 0, none⟩, 2, rfl, .inr ⟨rb, 0, _, rfl, blk_upd_same, by simp [V.cs]⟩⟩⟩ (by simp) (by simp; omega) ?_
    intro v' M2 k2 o2 f2 m2
    simp only [go_sem, reduceCtorEq, reduceIte, Nat.reduceEqDiff, Nat.reduceAdd, Nat.reduceLeDiff, Nat.reduceMul, Int.reduceLT, Int.reduceLE, Int.reduceAdd, Int.reduceSub, Int.reduceMul, Int.reduceNeg, Int.reduceToNat, Int.reduceEq, s.h1, s.h2, h5, h7, ei]
    exact ⟨m - 1, by omega, ⟨rfl, k2, o2, f2, by simp only [go_sem, reduceCtorEq, reduceIte, Nat.reduceEqDiff, s.h1], by simp only [go_sem, reduceCtorEq, reduceIte, Nat.reduceEqDiff, s.h2]⟩, i + 1, v', _, by omega, by simp only [go_sem, reduceCtorEq, reduceIte, Nat.reduceEqDiff]; rfl, by simp only [go_sem, reduceCtorEq, reduceIte, Nat.reduceEqDiff] <;> rfl, m2, by simp; omega, by simp; omega, fun _ => by simp⟩
  rintro σ F'' M'' ⟨s, sl, l, h5, mine, hl4, hne⟩
  obtain rfl := s.f
  rw [then_n]
  simp only [go_sem, reduceCtorEq, reduceIte, Nat.reduceEqDiff, Nat.reduceAdd, Nat.reduceLeDiff, Nat.reduceMul, Int.reduceLT, Int.reduceLE, Int.reduceAdd, Int.reduceSub, Int.reduceMul, Int.reduceNeg, Int.reduceToNat, Int.reduceEq, s.h1, s.h2, h5]
  exact mine.done s.kp hne (by omega)
end Go.Proofs.Tryz.K

/- Contracts: an operator of two, of all kinds, played. -/
namespace Go.Proofs.Tryz.K
open Go Go.Ax Go.Proofs.Tryz.S
set_option maxRecDepth 100000
set_option linter.unusedSimpArgs false
set_option linter.unusedVariables false
set_option maxHeartbeats 4000000
variable (F : Fz) (M : Hp)

theorem k23 (hold : Old F M) : CallsA Tryz.prog 23 [] F M (Same F M (.bool true)) := by
  refine callsA_of hm Tryz.func23 e23 (Nat.le_of_ble_eq_true rfl) ?_
  have ha : (V.just 8 1).is1 = true := by decide +kernel
  have hb : (V.just 8 2).is1 = true := by decide +kernel
  have hok : okT 8 1 (V.just 8 1) (V.just 8 2) = true := by decide +kernel
  have hna : (V.just 8 1).nextR 0 = 1 := by decide +kernel
  have hnb : (V.just 8 2).nextR 0 = 2 := by decide +kernel
  have h3 : twoK 8 1 1 2 = (3, 0) := by decide +kernel
  simp only [c23, go_sem, reduceCtorEq, reduceIte, Nat.reduceEqDiff, Nat.reduceAdd, Nat.reduceLeDiff, Nat.reduceMul, Int.reduceLT, Int.reduceLE, Int.reduceAdd, Int.reduceSub, Int.reduceMul, Int.reduceNeg, Int.reduceToNat, Int.reduceEq]
  refine callK_same (k34 _ _ 8 1) ?_
  simp only [go_sem, reduceCtorEq, reduceIte, Nat.reduceEqDiff, Nat.reduceAdd, Nat.reduceLeDiff, Nat.reduceMul, Int.reduceLT, Int.reduceLE, Int.reduceAdd, Int.reduceSub, Int.reduceMul, Int.reduceNeg, Int.reduceToNat, Int.reduceEq]
  refine callK_same (k34 _ _ 8 2) ?_
  simp only [go_sem, reduceCtorEq, reduceIte, Nat.reduceEqDiff, Nat.reduceAdd, Nat.reduceLeDiff, Nat.reduceMul, Int.reduceLT, Int.reduceLE, Int.reduceAdd, Int.reduceSub, Int.reduceMul, Int.reduceNeg, Int.reduceToNat, Int.reduceEq]
  refine callK_of (k24 F M 8 1 (V.just 8 1) (V.just 8 2) hold) ?_
  rintro w G M2 ⟨hG, kp, oo, ⟨_, z, l, q, rfl, hd, hr, row⟩ | ⟨h, _⟩⟩
  rotate_left
  · rw [hok] at h; cases h
  rw [hG]
  refine ⟨(fun h => by cases h), ?_⟩
  have h1 := hd.one ha hb
  rw [hna, hnb, h3, if_pos rfl] at h1
  obtain ⟨e1, e2, e3⟩ := h1
  obtain ⟨a, c, eq⟩ := row.shape
  subst e3
  rw [eq]
  have e4 : (decide (0 ≤ z.nextR 0) && decide (z.nextR (z.nextR 0 + 1) < 0)) = true := e2
  rw [e1] at e4
  have e5 : z.nextR 4 < 0 := by simpa using e4
  simp only [go_sem, reduceCtorEq, reduceIte, Nat.reduceEqDiff, Nat.reduceAdd, Nat.reduceLeDiff, Nat.reduceMul, Int.reduceLT, Int.reduceLE, Int.reduceAdd, Int.reduceSub, Int.reduceMul, Int.reduceNeg, Int.reduceToNat, Int.reduceEq]
  intro r1 hF hM
  simp only [go_sem, reduceCtorEq, reduceIte, Nat.reduceEqDiff, Nat.reduceAdd, Nat.reduceLeDiff, Nat.reduceMul, Int.reduceLT, Int.reduceLE, Int.reduceAdd, Int.reduceSub, Int.reduceMul, Int.reduceNeg, Int.reduceToNat, Int.reduceEq]
  refine callK_same (k20 F _ z hd.ok) ?_
  simp only [onlyA, e1, e5, go_sem, reduceCtorEq, reduceIte, Nat.reduceEqDiff, Nat.reduceAdd, Nat.reduceLeDiff, Nat.reduceMul, Int.reduceLT, Int.reduceLE, Int.reduceAdd, Int.reduceSub, Int.reduceMul, Int.reduceNeg, Int.reduceToNat, Int.reduceEq]
  refine callK_same (k15 F _ 0) ?_
  simp only [go_sem, reduceCtorEq, reduceIte, Nat.reduceEqDiff, Nat.reduceAdd, Nat.reduceLeDiff, Nat.reduceMul, Int.reduceLT, Int.reduceLE, Int.reduceAdd, Int.reduceSub, Int.reduceMul, Int.reduceNeg, Int.reduceToNat, Int.reduceEq, List.length_nil, e5]
  exact endK_keep (kp.trans ((Keep.refl M2).new hM)) ⟨rfl, rfl, rfl⟩
theorem someN.row {v : V} {F : Fz} {M : Hp} {u : Value} {F' : Fz} {M' : Hp} (h : someN v F M u F' M') : F' = F ∧ Le F M F M' ∧ Keep M M' ∧ (Old F M → Old F M') ∧
    ∃ l : List Int, l.length ≤ 1000 ∧ (l = [] → v.nextR 0 < 0) ∧ (∀ y ∈ l, 0 ≤ y ∧ y ≤ mostV v.w ∧ v.has y = true) ∧ RowI M' u l := by
  obtain ⟨hF, l, ⟨hl, hn⟩, hm, hu⟩ := h
  refine ⟨hF, ?_⟩
  rcases hu with ⟨rfl, rfl, rfl⟩ | ⟨g, cap, hFg, hMg, rfl, rfl⟩
  · exact ⟨Le.refl _ _, Keep.refl _, fun h => h, [], by simp, hn, by simp, .inl ⟨rfl, rfl⟩⟩
  · exact ⟨Le.upd hFg hMg, (Keep.refl _).new hMg, fun h => h.upd hFg, l, hl, hn, hm, .inr ⟨g, cap, _, rfl, Hp.upd_same _ _ _⟩⟩
def t4J (F0 : Fz) (M0 : Hp) (r2 : Nat) (ask : List Value) (op : Int) (k : Nat) (sl : Value) (L : List V) (i : Nat) (m : Nat) (σ : Env) (F : Fz) (M : Hp) : Prop :=
  T1 F0 M0 r2 ask op k sl L σ F M ∧ Ax.look σ 7 = some (.int .i64 i) ∧ ∃ j : Nat, j + m = L.length ∧ Ax.look σ 8 = some (.int .i64 j)
/-- In a round: two sets. -/
structure U2 (F0 : Fz) (M0 : Hp) (r2 : Nat) (ask : List Value) (op : Int) (k : Nat) (sl : Value) (L : List V) (i j : Nat) (a b : V) (σ : Env) (F : Fz) (M : Hp) : Prop extends T1 F0 M0 r2 ask op k sl L σ F M where
  h7 : Ax.look σ 7 = some (.int .i64 i)
  h8 : Ax.look σ 8 = some (.int .i64 j)
  h9 : ∃ r9, Ax.look σ 9 = some (.pointer (some ⟨r9, 0, none⟩)) ∧ M r9 = some ⟨a.cs, 30, 6⟩
  h10 : ∃ r10, Ax.look σ 10 = some (.pointer (some ⟨r10, 0, none⟩)) ∧ M r10 = some ⟨b.cs, 30, 6⟩
/-- What is told of them. -/
structure U3 (F0 : Fz) (M0 : Hp) (r2 : Nat) (ask : List Value) (op : Int) (k : Nat) (sl : Value) (L : List V) (i j : Nat) (a b z : V) (l : List Int) (σ : Env) (F : Fz) (M : Hp) : Prop extends U2 F0 M0 r2 ask op k sl L i j a b σ F M where
  h11 : ∃ r11, Ax.look σ 11 = some (.pointer (some ⟨r11, 0, none⟩)) ∧ M r11 = some ⟨z.cs, 30, 6⟩
  h12 : ∃ q, Ax.look σ 12 = some q ∧ RowI M q l
/-- With some members of both. -/
structure U5 (F0 : Fz) (M0 : Hp) (r2 : Nat) (ask : List Value) (op : Int) (k : Nat) (sl : Value) (L : List V) (i j : Nat) (a b z : V) (l lu lw : List Int) (σ : Env) (F : Fz) (M : Hp) : Prop extends U3 F0 M0 r2 ask op k sl L i j a b z l σ F M where
  h15 : ∃ q, Ax.look σ 15 = some q ∧ RowI M q lu
  h16 : ∃ q, Ax.look σ 16 = some q ∧ RowI M q lw
section
variable {F0 : Fz} {M0 : Hp} {r2 : Nat} {ask : List Value} {op : Int} {k : Nat} {sl : Value} {L : List V} {i j : Nat} {a b z : V} {l lu lw : List Int} {σ σ' : Env} {F : Fz} {M M' : Hp}
theorem T1.ext4 (s : T1 F0 M0 r2 ask op k sl L σ F M) (e1 : Ax.look σ' 1 = Ax.look σ 1) (e2 : Ax.look σ' 2 = Ax.look σ 2) (e5 : Ax.look σ' 5 = Ax.look σ 5) (e6 : Ax.look σ' 6 = Ax.look σ 6) : T1 F0 M0 r2 ask op k sl L σ' F M :=
  ⟨s.toT0.ext e1 e2, e5.trans s.h5, e6.trans s.h6, s.rd⟩
theorem T1.grow4 (s : T1 F0 M0 r2 ask op k sl L σ F M) (kp : Keep M M') (o : Old F0 M') : T1 F0 M0 r2 ask op k sl L σ F M' :=
  ⟨⟨s.f, s.kp.trans kp, o, kp _ _ s.fr, s.h1, s.h2⟩, s.h5, s.h6, s.rd.keep kp o⟩
theorem U2.ext (s : U2 F0 M0 r2 ask op k sl L i j a b σ F M) (e1 : Ax.look σ' 1 = Ax.look σ 1) (e2 : Ax.look σ' 2 = Ax.look σ 2) (e5 : Ax.look σ' 5 = Ax.look σ 5) (e6 : Ax.look σ' 6 = Ax.look σ 6) (e7 : Ax.look σ' 7 = Ax.look σ 7) (e8 : Ax.look σ' 8 = Ax.look σ 8) (e9 : Ax.look σ' 9 = Ax.look σ 9) (e10 : Ax.look σ' 10 = Ax.look σ 10) : U2 F0 M0 r2 ask op k sl L i j a b σ' F M := by
  obtain ⟨r9, h9, f9⟩ := s.h9
  obtain ⟨r10, h10, f10⟩ := s.h10
  exact ⟨s.toT1.ext4 e1 e2 e5 e6, e7.trans s.h7, e8.trans s.h8, ⟨r9, e9.trans h9, f9⟩, ⟨r10, e10.trans h10, f10⟩⟩
theorem U2.grow (s : U2 F0 M0 r2 ask op k sl L i j a b σ F M) (kp : Keep M M') (o : Old F0 M') : U2 F0 M0 r2 ask op k sl L i j a b σ F M' := by
  obtain ⟨r9, h9, f9⟩ := s.h9
  obtain ⟨r10, h10, f10⟩ := s.h10
  exact ⟨s.toT1.grow4 kp o, s.h7, s.h8, ⟨r9, h9, kp _ _ f9⟩, ⟨r10, h10, kp _ _ f10⟩⟩
theorem U3.ext (s : U3 F0 M0 r2 ask op k sl L i j a b z l σ F M) (e1 : Ax.look σ' 1 = Ax.look σ 1) (e2 : Ax.look σ' 2 = Ax.look σ 2) (e5 : Ax.look σ' 5 = Ax.look σ 5) (e6 : Ax.look σ' 6 = Ax.look σ 6) (e7 : Ax.look σ' 7 = Ax.look σ 7) (e8 : Ax.look σ' 8 = Ax.look σ 8) (e9 : Ax.look σ' 9 = Ax.look σ 9) (e10 : Ax.look σ' 10 = Ax.look σ 10) (e11 : Ax.look σ' 11 = Ax.look σ 11) (e12 : Ax.look σ' 12 = Ax.look σ 12) : U3 F0 M0 r2 ask op k sl L i j a b z l σ' F M := by
  obtain ⟨r11, h11, f11⟩ := s.h11
  obtain ⟨q, h12, f12⟩ := s.h12
  exact ⟨s.toU2.ext e1 e2 e5 e6 e7 e8 e9 e10, ⟨r11, e11.trans h11, f11⟩, ⟨q, e12.trans h12, f12⟩⟩
theorem U3.grow (s : U3 F0 M0 r2 ask op k sl L i j a b z l σ F M) (kp : Keep M M') (o : Old F0 M') : U3 F0 M0 r2 ask op k sl L i j a b z l σ F M' := by
  obtain ⟨r11, h11, f11⟩ := s.h11
  obtain ⟨q, h12, f12⟩ := s.h12
  exact ⟨s.toU2.grow kp o, ⟨r11, h11, kp _ _ f11⟩, ⟨q, h12, f12.keep kp⟩⟩
theorem U5.ext (s : U5 F0 M0 r2 ask op k sl L i j a b z l lu lw σ F M) (e1 : Ax.look σ' 1 = Ax.look σ 1) (e2 : Ax.look σ' 2 = Ax.look σ 2) (e5 : Ax.look σ' 5 = Ax.look σ 5) (e6 : Ax.look σ' 6 = Ax.look σ 6) (e7 : Ax.look σ' 7 = Ax.look σ 7) (e8 : Ax.look σ' 8 = Ax.look σ 8) (e9 : Ax.look σ' 9 = Ax.look σ 9) (e10 : Ax.look σ' 10 = Ax.look σ 10) (e11 : Ax.look σ' 11 = Ax.look σ 11) (e12 : Ax.look σ' 12 = Ax.look σ 12) (e15 : Ax.look σ' 15 = Ax.look σ 15) (e16 : Ax.look σ' 16 = Ax.look σ 16) : U5 F0 M0 r2 ask op k sl L i j a b z l lu lw σ' F M := by
  obtain ⟨q, h15, f15⟩ := s.h15
  obtain ⟨q', h16, f16⟩ := s.h16
  exact ⟨s.toU3.ext e1 e2 e5 e6 e7 e8 e9 e10 e11 e12, ⟨q, e15.trans h15, f15⟩, ⟨q', e16.trans h16, f16⟩⟩
theorem U2.tj (s : U2 F0 M0 r2 ask op k sl L i j a b σ F M) : tjB F0 M0 r2 ask op k sl L i j σ F M := ⟨s.toT1, s.h7, s.h8⟩
end
/-- Told or refused. -/
def U3e (F0 : Fz) (M0 : Hp) (r2 : Nat) (ask : List Value) (op : Int) (k : Nat) (sl : Value) (L : List V) (i j : Nat) (a b : V) (σ : Env) (F : Fz) (M : Hp) : Prop :=
  ∃ z l, U3 F0 M0 r2 ask op k sl L i j a b z l σ F M ∧ ((okT op k a b = true ∧ Ax.look σ 13 = some (.int .i64 0) ∧ DoR op k a b z l ∧ l.Pairwise (· < ·)) ∨ (okT op k a b = false ∧ Ax.look σ 13 = some (.int .i64 1)))
def U2e (F0 : Fz) (M0 : Hp) (r2 : Nat) (ask : List Value) (op : Int) (k : Nat) (sl : Value) (L : List V) (i j : Nat) (σ : Env) (F : Fz) (M : Hp) : Prop := ∃ a b, U2 F0 M0 r2 ask op k sl L i j a b σ F M
def U4 (F0 : Fz) (M0 : Hp) (r2 : Nat) (ask : List Value) (op : Int) (k : Nat) (sl : Value) (L : List V) (i j : Nat) (a b z : V) (l : List Int) (σ : Env) (F : Fz) (M : Hp) : Prop :=
  U3 F0 M0 r2 ask op k sl L i j a b z l σ F M ∧ Ax.look σ 13 = some (.int .i64 (if okT op k a b then 0 else 1)) ∧ Ax.look σ 14 = some (.int .i64 (if okT op k a b then 0 else 1))
def U5e (F0 : Fz) (M0 : Hp) (r2 : Nat) (ask : List Value) (op : Int) (k : Nat) (sl : Value) (L : List V) (i j : Nat) (a b z : V) (l : List Int) (σ : Env) (F : Fz) (M : Hp) : Prop :=
  ∃ lu lw, U5 F0 M0 r2 ask op k sl L i j a b z l lu lw σ F M ∧ (lu.length ≤ 1000 ∧ lw.length ≤ 1000) ∧ (lu = [] → a.nextR 0 < 0) ∧ (lw = [] → b.nextR 0 < 0) ∧ (∀ y ∈ lu, 0 ≤ y ∧ y ≤ mostV a.w ∧ a.has y = true) ∧ (∀ y ∈ lw, 0 ≤ y ∧ y ≤ mostV b.w ∧ b.has y = true)
def u4S (F0 : Fz) (M0 : Hp) (r2 : Nat) (ask : List Value) (op : Int) (k : Nat) (sl : Value) (L : List V) (i j : Nat) (a b z : V) (l lu lw : List Int) (m : Nat) (σ : Env) (F : Fz) (M : Hp) : Prop :=
  U5 F0 M0 r2 ask op k sl L i j a b z l lu lw σ F M ∧ ∃ s : Nat, s + m = lu.length ∧ Ax.look σ 17 = some (.int .i64 s)
def u4T (F0 : Fz) (M0 : Hp) (r2 : Nat) (ask : List Value) (op : Int) (k : Nat) (sl : Value) (L : List V) (i j : Nat) (a b z : V) (l lu lw : List Int) (s : Nat) (m : Nat) (σ : Env) (F : Fz) (M : Hp) : Prop :=
  U5 F0 M0 r2 ask op k sl L i j a b z l lu lw σ F M ∧ Ax.look σ 17 = some (.int .i64 s) ∧ ∃ t : Nat, t + m = lw.length ∧ Ax.look σ 18 = some (.int .i64 t)
theorem k8 (op : Int) (uV uN : Value) (lv : List V) (ln : List Int) (hold : Old F M) (hV : RdV F M uV lv) (hN : RdI F M uN ln) :
    CallsA Tryz.prog 8 [.agg #[uV, uN], .int .i64 op] F M (Same F M (.bool true)) := by
  refine callsA_of hm Tryz.func8 e8 (Nat.le_of_ble_eq_true rfl) ?_
  have hV0 := hV
  have hN0 := hN
  obtain ⟨hlv, aV, cV, hcV, rfl, _⟩ := hV
  obtain ⟨hln, aN, cN, rfl, _⟩ := hN
  simp only [c8, go_sem, reduceCtorEq, reduceIte, Nat.reduceEqDiff, Nat.reduceAdd, Nat.reduceLeDiff, Nat.reduceMul, Int.reduceLT, Int.reduceLE, Int.reduceAdd, Int.reduceSub, Int.reduceMul, Int.reduceNeg, Int.reduceToNat, Int.reduceEq]
  intro r2 hF2 hM2
  simp only [go_sem, reduceCtorEq, reduceIte, Nat.reduceEqDiff, Nat.reduceAdd, Nat.reduceLeDiff, Nat.reduceMul, Int.reduceLT, Int.reduceLE, Int.reduceAdd, Int.reduceSub, Int.reduceMul, Int.reduceNeg, Int.reduceToNat, Int.reduceEq]
  refine callK_same (k10 _ _ aV aN lv.length ln.length cV cN) ?_
  cases hh : (decide (100 < (lv.length : Int)) || decide (100 < (ln.length : Int)))
  rotate_left
  · simp only [go_sem, reduceCtorEq, reduceIte, Nat.reduceEqDiff, Nat.reduceAdd, Nat.reduceLeDiff, Nat.reduceMul, Int.reduceLT, Int.reduceLE, Int.reduceAdd, Int.reduceSub, Int.reduceMul, Int.reduceNeg, Int.reduceToNat, Int.reduceEq]
    exact endK_drop hM2 (endK_same ⟨rfl, rfl, rfl⟩)
  simp only [go_sem, reduceCtorEq, reduceIte, Nat.reduceEqDiff, Nat.reduceAdd, Nat.reduceLeDiff, Nat.reduceMul, Int.reduceLT, Int.reduceLE, Int.reduceAdd, Int.reduceSub, Int.reduceMul, Int.reduceNeg, Int.reduceToNat, Int.reduceEq]
  refine loop_of (tkI F M r2 [.slice aV lv.length cV, .slice aN ln.length cN] op) 8 ?_ ?_
  · exact ⟨⟨rfl, (Keep.refl M).new hM2, hold.upd hF2, Hp.upd_same _ _ _, by simp only [go_sem, reduceCtorEq, reduceIte, Nat.reduceEqDiff], by simp only [go_sem, reduceCtorEq, reduceIte, Nat.reduceEqDiff]⟩, 0, by omega, by simp only [go_sem, reduceCtorEq, reduceIte, Nat.reduceEqDiff] <;> rfl⟩
  rintro mk σ F' M' ⟨s, k, hk, h5⟩
  obtain rfl := s.f
  by_cases hk7 : (k : Int) ≤ 7
  rotate_left
  · simp only [go_sem, reduceCtorEq, reduceIte, Nat.reduceEqDiff, Nat.reduceAdd, Nat.reduceLeDiff, Nat.reduceMul, Int.reduceLT, Int.reduceLE, Int.reduceAdd, Int.reduceSub, Int.reduceMul, Int.reduceNeg, Int.reduceToNat, Int.reduceEq, s.h1, s.h2, h5, hk7]
    refine callK_same (k23 _ _ s.old) ?_
    simp only [go_sem, reduceCtorEq, reduceIte, Nat.reduceEqDiff, Nat.reduceAdd, Nat.reduceLeDiff, Nat.reduceMul, Int.reduceLT, Int.reduceLE, Int.reduceAdd, Int.reduceSub, Int.reduceMul, Int.reduceNeg, Int.reduceToNat, Int.reduceEq]
    exact endK_keep s.kp ⟨rfl, rfl, rfl⟩
  have ek : IntKind.i64.wrap ((k : Int) + 1) = k + 1 := w64 (by omega) (by omega)
  have br := blk_M (F := F') s.fr
  simp only [go_sem, reduceCtorEq, reduceIte, Nat.reduceEqDiff, Nat.reduceAdd, Nat.reduceLeDiff, Nat.reduceMul, Int.reduceLT, Int.reduceLE, Int.reduceAdd, Int.reduceSub, Int.reduceMul, Int.reduceNeg, Int.reduceToNat, Int.reduceEq, s.h1, s.h2, h5, hk7, br]
  refine callK_of (k11 _ _ k _ _ lv ln s.old (hV0.keep s.kp s.old) (hN0.keep s.kp s.old)) ?_
  rintro u G M2 ⟨hG, L, g, cap, hL, hLc, rfl, hFg, hMg, hM2'⟩
  rw [hG, hM2']
  refine ⟨fun _ => Le.upd hFg hMg, ?_⟩
  have gg := ne_of_none hMg s.fr
  have kp2 := s.kp.new (s.kp.free hMg) (e := ⟨L.flatMap V.cs, 30, cap * 6⟩)
  have old2 := s.old.upd (e := ⟨L.flatMap V.cs, 30, cap * 6⟩) hFg
  have fr2 : (M'.upd g ⟨L.flatMap V.cs, 30, cap * 6⟩) r2 = some ⟨[.slice aV lv.length cV, .slice aN ln.length cN], 25, 2⟩ := by rw [Hp.upd_ne' gg.1]; exact s.fr
  have rd2 : RdV F' (M'.upd g ⟨L.flatMap V.cs, 30, cap * 6⟩) (.slice (some ⟨g, 0, none⟩) L.length cap) L := rdV_flat (by omega) hLc blk_upd_same
  simp only [go_sem, reduceCtorEq, reduceIte, Nat.reduceEqDiff, Nat.reduceAdd, Nat.reduceLeDiff, Nat.reduceMul, Int.reduceLT, Int.reduceLE, Int.reduceAdd, Int.reduceSub, Int.reduceMul, Int.reduceNeg, Int.reduceToNat, Int.reduceEq, s.h1, s.h2, h5]
  refine loop_of (tiI F' M r2 [.slice aV lv.length cV, .slice aN ln.length cN] op k (.slice (some ⟨g, 0, none⟩) L.length cap) L) L.length ?_ ?_
  · exact ⟨⟨⟨rfl, kp2, old2, fr2, by simp only [go_sem, reduceCtorEq, reduceIte, Nat.reduceEqDiff, s.h1], by simp only [go_sem, reduceCtorEq, reduceIte, Nat.reduceEqDiff, s.h2]⟩, by simp only [go_sem, reduceCtorEq, reduceIte, Nat.reduceEqDiff, h5], by simp only [go_sem, reduceCtorEq, reduceIte, Nat.reduceEqDiff], rd2⟩, 0, by omega, by simp only [go_sem, reduceCtorEq, reduceIte, Nat.reduceEqDiff] <;> rfl⟩
  generalize hsl : Value.slice (some ⟨g, 0, none⟩) L.length cap = sl at *
  clear kp2 old2 fr2 rd2 gg s br h5 hM2' hG hMg hFg
  rintro mi σ F'' M'' ⟨s, i, hi, h7⟩
  obtain rfl := s.f
  by_cases hil : (i : Int) < L.length
  rotate_left
  · simp only [go_sem, reduceCtorEq, reduceIte, Nat.reduceEqDiff, Nat.reduceAdd, Nat.reduceLeDiff, Nat.reduceMul, Int.reduceLT, Int.reduceLE, Int.reduceAdd, Int.reduceSub, Int.reduceMul, Int.reduceNeg, Int.reduceToNat, Int.reduceEq, s.h1, s.h2, s.h5, s.h6, ← hsl, h7, hil, ek]
    exact ⟨mk - 1, by omega, s.toT0.ext (by simp only [go_sem, reduceCtorEq, reduceIte, Nat.reduceEqDiff]) (by simp only [go_sem, reduceCtorEq, reduceIte, Nat.reduceEqDiff]), k + 1, by omega, by simp only [go_sem, reduceCtorEq, reduceIte, Nat.reduceEqDiff]; rfl⟩
  have ei : IntKind.i64.wrap ((i : Int) + 1) = i + 1 := w64 (by omega) (by omega)
  have h6 := s.h6
  rw [← hsl] at h6
  simp only [go_sem, reduceCtorEq, reduceIte, Nat.reduceEqDiff, Nat.reduceAdd, Nat.reduceLeDiff, Nat.reduceMul, Int.reduceLT, Int.reduceLE, Int.reduceAdd, Int.reduceSub, Int.reduceMul, Int.reduceNeg, Int.reduceToNat, Int.reduceEq, s.h1, s.h2, s.h5, h6, h7, hil]
  refine loop_of (t4J F'' M r2 [.slice aV lv.length cV, .slice aN ln.length cN] op k sl L i) L.length ?_ ?_
  · exact ⟨s.ext4 (by simp only [go_sem, reduceCtorEq, reduceIte, Nat.reduceEqDiff]) (by simp only [go_sem, reduceCtorEq, reduceIte, Nat.reduceEqDiff]) (by simp only [go_sem, reduceCtorEq, reduceIte, Nat.reduceEqDiff]) (by simp only [go_sem, reduceCtorEq, reduceIte, Nat.reduceEqDiff, s.h6, h6]), by simp only [go_sem, reduceCtorEq, reduceIte, Nat.reduceEqDiff, h7], 0, by omega, by simp only [go_sem, reduceCtorEq, reduceIte, Nat.reduceEqDiff] <;> rfl⟩
  clear s h6 h7
  rintro mj σ F3 M3 ⟨s, h7, j, hj, h8⟩
  obtain rfl := s.f
  have h6 := s.h6
  rw [← hsl] at h6
  by_cases hjl : (j : Int) < L.length
  rotate_left
  · simp only [go_sem, reduceCtorEq, reduceIte, Nat.reduceEqDiff, Nat.reduceAdd, Nat.reduceLeDiff, Nat.reduceMul, Int.reduceLT, Int.reduceLE, Int.reduceAdd, Int.reduceSub, Int.reduceMul, Int.reduceNeg, Int.reduceToNat, Int.reduceEq, s.h1, s.h2, s.h5, h6, h7, h8, hjl, ei]
    exact ⟨mi - 1, by omega, s.ext4 (by simp only [go_sem, reduceCtorEq, reduceIte, Nat.reduceEqDiff]) (by simp only [go_sem, reduceCtorEq, reduceIte, Nat.reduceEqDiff]) (by simp only [go_sem, reduceCtorEq, reduceIte, Nat.reduceEqDiff]) (by simp only [go_sem, reduceCtorEq, reduceIte, Nat.reduceEqDiff, s.h6, h6]), i + 1, by omega, by simp only [go_sem, reduceCtorEq, reduceIte, Nat.reduceEqDiff]; rfl⟩
  have ej : IntKind.i64.wrap ((j : Int) + 1) = j + 1 := w64 (by omega) (by omega)
  refine cut (tjB F3 M r2 [.slice aV lv.length cV, .slice aN ln.length cN] op k sl L i j) ?_ ?_
  · simp only [go_sem, reduceCtorEq, reduceIte, Nat.reduceEqDiff, Nat.reduceAdd, Nat.reduceLeDiff, Nat.reduceMul, Int.reduceLT, Int.reduceLE, Int.reduceAdd, Int.reduceSub, Int.reduceMul, Int.reduceNeg, Int.reduceToNat, Int.reduceEq, s.h1, s.h2, s.h5, h6, h7, h8, hjl]
    exact ⟨s.ext4 (by simp only [go_sem, reduceCtorEq, reduceIte, Nat.reduceEqDiff]) (by simp only [go_sem, reduceCtorEq, reduceIte, Nat.reduceEqDiff]) (by simp only [go_sem, reduceCtorEq, reduceIte, Nat.reduceEqDiff]) (by simp only [go_sem, reduceCtorEq, reduceIte, Nat.reduceEqDiff, s.h6, h6]), by simp only [go_sem, reduceCtorEq, reduceIte, Nat.reduceEqDiff, h7], by simp only [go_sem, reduceCtorEq, reduceIte, Nat.reduceEqDiff, h8]⟩
  clear s h6 h7 h8
  rintro σ F4 M4 ⟨s, h7, h8⟩
  obtain rfl := s.f
  refine cut (tjB F4 M r2 [.slice aV lv.length cV, .slice aN ln.length cN] op k sl L i j) ?_ ?_
  rotate_left
  · rintro σ F5 M5 ⟨s, h7, h8⟩
    obtain rfl := s.f
    simp only [go_sem, reduceCtorEq, reduceIte, Nat.reduceEqDiff, Nat.reduceAdd, Nat.reduceLeDiff, Nat.reduceMul, Int.reduceLT, Int.reduceLE, Int.reduceAdd, Int.reduceSub, Int.reduceMul, Int.reduceNeg, Int.reduceToNat, Int.reduceEq, s.h1, s.h2, s.h5, s.h6, h7, h8, ej]
    exact ⟨mj - 1, by omega, s.ext4 (by simp only [go_sem, reduceCtorEq, reduceIte, Nat.reduceEqDiff]) (by simp only [go_sem, reduceCtorEq, reduceIte, Nat.reduceEqDiff]) (by simp only [go_sem, reduceCtorEq, reduceIte, Nat.reduceEqDiff]) (by simp only [go_sem, reduceCtorEq, reduceIte, Nat.reduceEqDiff, s.h6]), by simp only [go_sem, reduceCtorEq, reduceIte, Nat.reduceEqDiff, h7], j + 1, by omega, by simp only [go_sem, reduceCtorEq, reduceIte, Nat.reduceEqDiff]; rfl⟩
  rw [W_block]
  generalize hask : [Value.slice aV lv.length cV, .slice aN ln.length cN] = ask at *
  refine cut (U2e F4 M r2 ask op k sl L i j) ?_ ?_
  · have h6 := s.h6
    rw [← hsl] at h6
    obtain ⟨_, ad', cap', _, esl, hread⟩ := s.rd
    rw [← hsl] at esl
    cases esl
    rcases hread with h | ⟨b, o, cs, eb, hb, hc⟩
    · rw [h] at hil; simp at hil; omega
    cases eb
    have hi0 : (0 : Int) ≤ i := by omega
    have hj0 : (0 : Int) ≤ j := by omega
    have hi' : i < L.length := by omega
    have hj' : j < L.length := by omega
    obtain ⟨d1, d2⟩ := hc i hi'
    obtain ⟨d3, d4⟩ := hc j hj'
    generalize L[i] = va at *
    generalize L[j] = vb at *
    simp only [Nat.zero_add] at d1 d2 d3 d4
    simp only [go_sem, reduceCtorEq, reduceIte, Nat.reduceEqDiff, Nat.reduceAdd, Nat.reduceLeDiff, Nat.reduceMul, Int.reduceLT, Int.reduceLE, Int.reduceAdd, Int.reduceSub, Int.reduceMul, Int.reduceNeg, Int.reduceToNat, Int.reduceEq, s.h1, s.h2, s.h5, h6, h7, h8, hil, hjl, hi0, hj0, Int.toNat_natCast, Nat.zero_add, hb, d1, d2, d3, d4]
    intro r9 hF9 hM9
    simp only [go_sem, reduceCtorEq, reduceIte, Nat.reduceEqDiff, Nat.reduceAdd, Nat.reduceLeDiff, Nat.reduceMul, Int.reduceLT, Int.reduceLE, Int.reduceAdd, Int.reduceSub, Int.reduceMul, Int.reduceNeg, Int.reduceToNat, Int.reduceEq, s.h1, s.h2, s.h5, h6, h7, h8]
    intro r10 hF10 hM10
    have g10 := fresh_of hM10
    have n9 := blk_ne hb hF9 hM9
    have n10 := blk_ne hb hF10 g10.2.2
    simp only [go_sem, reduceCtorEq, reduceIte, Nat.reduceEqDiff, Nat.reduceAdd, Nat.reduceLeDiff, Nat.reduceMul, Int.reduceLT, Int.reduceLE, Int.reduceAdd, Int.reduceSub, Int.reduceMul, Int.reduceNeg, Int.reduceToNat, Int.reduceEq, s.h1, s.h2, s.h5, h6, h7, h8, hil, hjl, hi0, hj0, Int.toNat_natCast, Nat.zero_add, hb, d1, d2, d3, d4, g10, n9, n10, not_false_eq_true]
    have kp := ((Keep.refl M4).new hM9 (e := ⟨va.cs, 30, 6⟩)).new g10.2.2 (e := ⟨vb.cs, 30, 6⟩)
    have oo := (s.old.upd hF9 (e := ⟨va.cs, 30, 6⟩)).upd hF10 (e := ⟨vb.cs, 30, 6⟩)
    exact ⟨va, vb, ⟨(s.grow4 kp oo).ext4 (by simp only [go_sem, reduceCtorEq, reduceIte, Nat.reduceEqDiff]) (by simp only [go_sem, reduceCtorEq, reduceIte, Nat.reduceEqDiff]) (by simp only [go_sem, reduceCtorEq, reduceIte, Nat.reduceEqDiff]) (by simp only [go_sem, reduceCtorEq, reduceIte, Nat.reduceEqDiff, s.h6, h6]), by simp only [go_sem, reduceCtorEq, reduceIte, Nat.reduceEqDiff, h7], by simp only [go_sem, reduceCtorEq, reduceIte, Nat.reduceEqDiff, h8], ⟨r9, by simp only [go_sem, reduceCtorEq, reduceIte, Nat.reduceEqDiff], by rw [Hp.upd_ne' g10.2.1]; exact Hp.upd_same _ _ _⟩, ⟨r10, by simp only [go_sem, reduceCtorEq, reduceIte, Nat.reduceEqDiff], Hp.upd_same _ _ _⟩⟩⟩
  clear s h7 h8
  rintro σ F5 M5 ⟨a, b, s⟩
  obtain rfl := s.f
  refine cut (U3e F5 M r2 ask op k sl L i j a b) ?_ ?_
  · obtain ⟨r9, h9, f9⟩ := s.h9
    obtain ⟨r10, h10, f10⟩ := s.h10
    have b9 := blk_M (F := F5) f9
    have b10 := blk_M (F := F5) f10
    simp only [go_sem, reduceCtorEq, reduceIte, Nat.reduceEqDiff, Nat.reduceAdd, Nat.reduceLeDiff, Nat.reduceMul, Int.reduceLT, Int.reduceLE, Int.reduceAdd, Int.reduceSub, Int.reduceMul, Int.reduceNeg, Int.reduceToNat, Int.reduceEq, s.h1, s.h2, s.h5, s.h7, s.h8, h9, h10, b9, b10]
    refine callK_of (k24 F5 M5 op k a b s.old) ?_
    rintro w G M6 ⟨hG, kp, oo, hw⟩
    rw [hG]
    refine ⟨(fun h => by cases h), ?_⟩
    rcases hw with ⟨hok, z, l, q, rfl, hd, hr, row⟩ | ⟨hok, rfl⟩
    · simp only [go_sem, reduceCtorEq, reduceIte, Nat.reduceEqDiff, Nat.reduceAdd, Nat.reduceLeDiff, Nat.reduceMul, Int.reduceLT, Int.reduceLE, Int.reduceAdd, Int.reduceSub, Int.reduceMul, Int.reduceNeg, Int.reduceToNat, Int.reduceEq, s.h1, s.h2, s.h5, s.h7, s.h8, h9, h10]
      intro r11 hF11 hM11
      have kp2 := kp.trans ((Keep.refl M6).new hM11 (e := ⟨z.cs, 30, 6⟩))
      have o2 := oo.upd hF11 (e := ⟨z.cs, 30, 6⟩)
      simp only [go_sem, reduceCtorEq, reduceIte, Nat.reduceEqDiff, Nat.reduceAdd, Nat.reduceLeDiff, Nat.reduceMul, Int.reduceLT, Int.reduceLE, Int.reduceAdd, Int.reduceSub, Int.reduceMul, Int.reduceNeg, Int.reduceToNat, Int.reduceEq, s.h1, s.h2, s.h5, s.h7, s.h8, h9, h10]
      exact ⟨z, l, ⟨(s.grow kp2 o2).ext (by simp only [go_sem, reduceCtorEq, reduceIte, Nat.reduceEqDiff]) (by simp only [go_sem, reduceCtorEq, reduceIte, Nat.reduceEqDiff]) (by simp only [go_sem, reduceCtorEq, reduceIte, Nat.reduceEqDiff]) (by simp only [go_sem, reduceCtorEq, reduceIte, Nat.reduceEqDiff]) (by simp only [go_sem, reduceCtorEq, reduceIte, Nat.reduceEqDiff]) (by simp only [go_sem, reduceCtorEq, reduceIte, Nat.reduceEqDiff]) (by simp only [go_sem, reduceCtorEq, reduceIte, Nat.reduceEqDiff, h9]) (by simp only [go_sem, reduceCtorEq, reduceIte, Nat.reduceEqDiff, h10]), ⟨r11, by simp only [go_sem, reduceCtorEq, reduceIte, Nat.reduceEqDiff], Hp.upd_same _ _ _⟩, ⟨q, by simp only [go_sem, reduceCtorEq, reduceIte, Nat.reduceEqDiff], row.keep ((Keep.refl M6).new hM11)⟩⟩, .inl ⟨hok, by simp only [go_sem, reduceCtorEq, reduceIte, Nat.reduceEqDiff], hd, hr⟩⟩
    · simp only [go_sem, reduceCtorEq, reduceIte, Nat.reduceEqDiff, Nat.reduceAdd, Nat.reduceLeDiff, Nat.reduceMul, Int.reduceLT, Int.reduceLE, Int.reduceAdd, Int.reduceSub, Int.reduceMul, Int.reduceNeg, Int.reduceToNat, Int.reduceEq, s.h1, s.h2, s.h5, s.h7, s.h8, h9, h10]
      intro r11 hF11 hM11
      have kp2 := kp.trans ((Keep.refl M6).new hM11 (e := ⟨V.zero.cs, 30, 6⟩))
      have o2 := oo.upd hF11 (e := ⟨V.zero.cs, 30, 6⟩)
      simp only [go_sem, reduceCtorEq, reduceIte, Nat.reduceEqDiff, Nat.reduceAdd, Nat.reduceLeDiff, Nat.reduceMul, Int.reduceLT, Int.reduceLE, Int.reduceAdd, Int.reduceSub, Int.reduceMul, Int.reduceNeg, Int.reduceToNat, Int.reduceEq, s.h1, s.h2, s.h5, s.h7, s.h8, h9, h10]
      exact ⟨V.zero, [], ⟨(s.grow kp2 o2).ext (by simp only [go_sem, reduceCtorEq, reduceIte, Nat.reduceEqDiff]) (by simp only [go_sem, reduceCtorEq, reduceIte, Nat.reduceEqDiff]) (by simp only [go_sem, reduceCtorEq, reduceIte, Nat.reduceEqDiff]) (by simp only [go_sem, reduceCtorEq, reduceIte, Nat.reduceEqDiff]) (by simp only [go_sem, reduceCtorEq, reduceIte, Nat.reduceEqDiff]) (by simp only [go_sem, reduceCtorEq, reduceIte, Nat.reduceEqDiff]) (by simp only [go_sem, reduceCtorEq, reduceIte, Nat.reduceEqDiff, h9]) (by simp only [go_sem, reduceCtorEq, reduceIte, Nat.reduceEqDiff, h10]), ⟨r11, by simp only [go_sem, reduceCtorEq, reduceIte, Nat.reduceEqDiff], Hp.upd_same _ _ _⟩, ⟨_, by simp only [go_sem, reduceCtorEq, reduceIte, Nat.reduceEqDiff], .inl ⟨rfl, rfl⟩⟩⟩, .inr ⟨hok, by simp only [go_sem, reduceCtorEq, reduceIte, Nat.reduceEqDiff]⟩⟩
  clear s
  rintro σ F5 M5 ⟨z, l, s, hw⟩
  obtain rfl := s.f
  rw [Go.Ax.seq_assoc]
  have h13 : Ax.look σ 13 = some (.int .i64 (if okT op k a b then 0 else 1)) := by
    rcases hw with ⟨h1, h2, _⟩ | ⟨h1, h2⟩
    · rw [h2, h1]; rfl
    · rw [h2, h1]; rfl
  replace hw : okT op k a b = true → DoR op k a b z l ∧ l.Pairwise (· < ·) := fun h => by
    rcases hw with ⟨_, _, h3, h4⟩ | ⟨h1, _⟩
    · exact ⟨h3, h4⟩
    · rw [h] at h1; cases h1
  refine cut (U4 F5 M r2 ask op k sl L i j a b z l) ?_ ?_
  · obtain ⟨r9, h9, f9⟩ := s.h9
    obtain ⟨r10, h10, f10⟩ := s.h10
    obtain ⟨r11, h11, f11⟩ := s.h11
    obtain ⟨q, h12, f12⟩ := s.h12
    have b9 := blk_M (F := F5) f9
    have b10 := blk_M (F := F5) f10
    have fin : ∀ {σ' : Env} {n : Int}, n = (if okT op k a b then 0 else 1) → Ax.look σ' 1 = Ax.look σ 1 → Ax.look σ' 2 = Ax.look σ 2 → Ax.look σ' 5 = Ax.look σ 5 → Ax.look σ' 6 = Ax.look σ 6 → Ax.look σ' 7 = Ax.look σ 7 → Ax.look σ' 8 = Ax.look σ 8 → Ax.look σ' 9 = Ax.look σ 9 → Ax.look σ' 10 = Ax.look σ 10 → Ax.look σ' 11 = Ax.look σ 11 → Ax.look σ' 12 = Ax.look σ 12 → Ax.look σ' 13 = Ax.look σ 13 → Ax.look σ' 14 = some (.int .i64 n) → U4 F5 M r2 ask op k sl L i j a b z l σ' F5 M5 :=
      fun {σ' n} hn e1 e2 e5 e6 e7 e8 e9 e10 e11 e12 e13 e14 => ⟨s.ext e1 e2 e5 e6 e7 e8 e9 e10 e11 e12, e13.trans h13, by rw [e14, hn]⟩
    simp only [go_sem, reduceCtorEq, reduceIte, Nat.reduceEqDiff, Nat.reduceAdd, Nat.reduceLeDiff, Nat.reduceMul, Int.reduceLT, Int.reduceLE, Int.reduceAdd, Int.reduceSub, Int.reduceMul, Int.reduceNeg, Int.reduceToNat, Int.reduceEq, s.h1, s.h2, s.h5, s.h7, s.h8, h9, h10, h11, h12, b9, b10]
    refine callK_same (k25 F5 _ op k) ?_
    cases c1 : (isTwo op && isK k)
    · have hn : okT op k a b = false := by
        cases h1 : isTwo op
        · simp [okT, h1]
        · rw [h1] at c1
          simp at c1
          simp [okT, fitB, c1]
      simp only [go_sem, reduceCtorEq, reduceIte, Nat.reduceEqDiff, Nat.reduceAdd, Nat.reduceLeDiff, Nat.reduceMul, Int.reduceLT, Int.reduceLE, Int.reduceAdd, Int.reduceSub, Int.reduceMul, Int.reduceNeg, Int.reduceToNat, Int.reduceEq, s.h1, s.h2, s.h5, s.h7, s.h8, h9, h10, h11, h12]
      exact fin (n := 1) (by simp [hn]) (by simp only [go_sem, reduceCtorEq, reduceIte, Nat.reduceEqDiff]) (by simp only [go_sem, reduceCtorEq, reduceIte, Nat.reduceEqDiff]) (by simp only [go_sem, reduceCtorEq, reduceIte, Nat.reduceEqDiff]) (by simp only [go_sem, reduceCtorEq, reduceIte, Nat.reduceEqDiff]) (by simp only [go_sem, reduceCtorEq, reduceIte, Nat.reduceEqDiff]) (by simp only [go_sem, reduceCtorEq, reduceIte, Nat.reduceEqDiff]) (by simp only [go_sem, reduceCtorEq, reduceIte, Nat.reduceEqDiff, h9]) (by simp only [go_sem, reduceCtorEq, reduceIte, Nat.reduceEqDiff, h10]) (by simp only [go_sem, reduceCtorEq, reduceIte, Nat.reduceEqDiff, h11]) (by simp only [go_sem, reduceCtorEq, reduceIte, Nat.reduceEqDiff, h12]) (by simp only [go_sem, reduceCtorEq, reduceIte, Nat.reduceEqDiff]) (by simp only [go_sem, reduceCtorEq, reduceIte, Nat.reduceEqDiff])
    rw [Bool.and_eq_true] at c1
    simp only [go_sem, reduceCtorEq, reduceIte, Nat.reduceEqDiff, Nat.reduceAdd, Nat.reduceLeDiff, Nat.reduceMul, Int.reduceLT, Int.reduceLE, Int.reduceAdd, Int.reduceSub, Int.reduceMul, Int.reduceNeg, Int.reduceToNat, Int.reduceEq, s.h1, s.h2, s.h5, s.h7, s.h8, h9, h10, h11, h12, b9, b10]
    refine callK_same (k14 F5 _ a) ?_
    cases c2 : a.ok
    · have hn : okT op k a b = false := by simp [okT, fitB, c2]
      simp only [go_sem, reduceCtorEq, reduceIte, Nat.reduceEqDiff, Nat.reduceAdd, Nat.reduceLeDiff, Nat.reduceMul, Int.reduceLT, Int.reduceLE, Int.reduceAdd, Int.reduceSub, Int.reduceMul, Int.reduceNeg, Int.reduceToNat, Int.reduceEq, s.h1, s.h2, s.h5, s.h7, s.h8, h9, h10, h11, h12]
      exact fin (n := 1) (by simp [hn]) (by simp only [go_sem, reduceCtorEq, reduceIte, Nat.reduceEqDiff]) (by simp only [go_sem, reduceCtorEq, reduceIte, Nat.reduceEqDiff]) (by simp only [go_sem, reduceCtorEq, reduceIte, Nat.reduceEqDiff]) (by simp only [go_sem, reduceCtorEq, reduceIte, Nat.reduceEqDiff]) (by simp only [go_sem, reduceCtorEq, reduceIte, Nat.reduceEqDiff]) (by simp only [go_sem, reduceCtorEq, reduceIte, Nat.reduceEqDiff]) (by simp only [go_sem, reduceCtorEq, reduceIte, Nat.reduceEqDiff, h9]) (by simp only [go_sem, reduceCtorEq, reduceIte, Nat.reduceEqDiff, h10]) (by simp only [go_sem, reduceCtorEq, reduceIte, Nat.reduceEqDiff, h11]) (by simp only [go_sem, reduceCtorEq, reduceIte, Nat.reduceEqDiff, h12]) (by simp only [go_sem, reduceCtorEq, reduceIte, Nat.reduceEqDiff]) (by simp only [go_sem, reduceCtorEq, reduceIte, Nat.reduceEqDiff])
    simp only [go_sem, reduceCtorEq, reduceIte, Nat.reduceEqDiff, Nat.reduceAdd, Nat.reduceLeDiff, Nat.reduceMul, Int.reduceLT, Int.reduceLE, Int.reduceAdd, Int.reduceSub, Int.reduceMul, Int.reduceNeg, Int.reduceToNat, Int.reduceEq, s.h1, s.h2, s.h5, s.h7, s.h8, h9, h10, h11, h12, b9, b10]
    refine callK_same (k14 F5 _ b) ?_
    cases c3 : b.ok
    · have hn : okT op k a b = false := by simp [okT, fitB, c3]
      simp only [go_sem, reduceCtorEq, reduceIte, Nat.reduceEqDiff, Nat.reduceAdd, Nat.reduceLeDiff, Nat.reduceMul, Int.reduceLT, Int.reduceLE, Int.reduceAdd, Int.reduceSub, Int.reduceMul, Int.reduceNeg, Int.reduceToNat, Int.reduceEq, s.h1, s.h2, s.h5, s.h7, s.h8, h9, h10, h11, h12]
      exact fin (n := 1) (by simp [hn]) (by simp only [go_sem, reduceCtorEq, reduceIte, Nat.reduceEqDiff]) (by simp only [go_sem, reduceCtorEq, reduceIte, Nat.reduceEqDiff]) (by simp only [go_sem, reduceCtorEq, reduceIte, Nat.reduceEqDiff]) (by simp only [go_sem, reduceCtorEq, reduceIte, Nat.reduceEqDiff]) (by simp only [go_sem, reduceCtorEq, reduceIte, Nat.reduceEqDiff]) (by simp only [go_sem, reduceCtorEq, reduceIte, Nat.reduceEqDiff]) (by simp only [go_sem, reduceCtorEq, reduceIte, Nat.reduceEqDiff, h9]) (by simp only [go_sem, reduceCtorEq, reduceIte, Nat.reduceEqDiff, h10]) (by simp only [go_sem, reduceCtorEq, reduceIte, Nat.reduceEqDiff, h11]) (by simp only [go_sem, reduceCtorEq, reduceIte, Nat.reduceEqDiff, h12]) (by simp only [go_sem, reduceCtorEq, reduceIte, Nat.reduceEqDiff]) (by simp only [go_sem, reduceCtorEq, reduceIte, Nat.reduceEqDiff])
    simp only [go_sem, reduceCtorEq, reduceIte, Nat.reduceEqDiff, Nat.reduceAdd, Nat.reduceLeDiff, Nat.reduceMul, Int.reduceLT, Int.reduceLE, Int.reduceAdd, Int.reduceSub, Int.reduceMul, Int.reduceNeg, Int.reduceToNat, Int.reduceEq, s.h1, s.h2, s.h5, s.h7, s.h8, h9, h10, h11, h12, b9, b10]
    refine callK_same (k13 F5 _ k) ?_
    rw [wK_of c1.2]
    by_cases c4 : a.w = ofW k
    · by_cases c5 : b.w = a.w
      · have hn : okT op k a b = true := by simp [okT, fitB, c1.1, c1.2, c2, c3, c4, c5]
        simp only [go_sem, reduceCtorEq, reduceIte, Nat.reduceEqDiff, Nat.reduceAdd, Nat.reduceLeDiff, Nat.reduceMul, Int.reduceLT, Int.reduceLE, Int.reduceAdd, Int.reduceSub, Int.reduceMul, Int.reduceNeg, Int.reduceToNat, Int.reduceEq, s.h1, s.h2, s.h5, s.h7, s.h8, h9, h10, h11, h12, b9, b10, c4, c5]
        exact fin (n := 0) (by simp [hn]) (by simp only [go_sem, reduceCtorEq, reduceIte, Nat.reduceEqDiff]) (by simp only [go_sem, reduceCtorEq, reduceIte, Nat.reduceEqDiff]) (by simp only [go_sem, reduceCtorEq, reduceIte, Nat.reduceEqDiff]) (by simp only [go_sem, reduceCtorEq, reduceIte, Nat.reduceEqDiff]) (by simp only [go_sem, reduceCtorEq, reduceIte, Nat.reduceEqDiff]) (by simp only [go_sem, reduceCtorEq, reduceIte, Nat.reduceEqDiff]) (by simp only [go_sem, reduceCtorEq, reduceIte, Nat.reduceEqDiff, h9]) (by simp only [go_sem, reduceCtorEq, reduceIte, Nat.reduceEqDiff, h10]) (by simp only [go_sem, reduceCtorEq, reduceIte, Nat.reduceEqDiff, h11]) (by simp only [go_sem, reduceCtorEq, reduceIte, Nat.reduceEqDiff, h12]) (by simp only [go_sem, reduceCtorEq, reduceIte, Nat.reduceEqDiff]) (by simp only [go_sem, reduceCtorEq, reduceIte, Nat.reduceEqDiff])
      · have hn : okT op k a b = false := by
          have : ¬ b.w = ofW k := fun h => c5 (h.trans c4.symm)
          simp [okT, fitB, this]
        rw [c4] at c5
        simp only [go_sem, reduceCtorEq, reduceIte, Nat.reduceEqDiff, Nat.reduceAdd, Nat.reduceLeDiff, Nat.reduceMul, Int.reduceLT, Int.reduceLE, Int.reduceAdd, Int.reduceSub, Int.reduceMul, Int.reduceNeg, Int.reduceToNat, Int.reduceEq, s.h1, s.h2, s.h5, s.h7, s.h8, h9, h10, h11, h12, b9, b10, c4, c5]
        exact fin (n := 1) (by simp [hn]) (by simp only [go_sem, reduceCtorEq, reduceIte, Nat.reduceEqDiff]) (by simp only [go_sem, reduceCtorEq, reduceIte, Nat.reduceEqDiff]) (by simp only [go_sem, reduceCtorEq, reduceIte, Nat.reduceEqDiff]) (by simp only [go_sem, reduceCtorEq, reduceIte, Nat.reduceEqDiff]) (by simp only [go_sem, reduceCtorEq, reduceIte, Nat.reduceEqDiff]) (by simp only [go_sem, reduceCtorEq, reduceIte, Nat.reduceEqDiff]) (by simp only [go_sem, reduceCtorEq, reduceIte, Nat.reduceEqDiff, h9]) (by simp only [go_sem, reduceCtorEq, reduceIte, Nat.reduceEqDiff, h10]) (by simp only [go_sem, reduceCtorEq, reduceIte, Nat.reduceEqDiff, h11]) (by simp only [go_sem, reduceCtorEq, reduceIte, Nat.reduceEqDiff, h12]) (by simp only [go_sem, reduceCtorEq, reduceIte, Nat.reduceEqDiff]) (by simp only [go_sem, reduceCtorEq, reduceIte, Nat.reduceEqDiff])
    · have hn : okT op k a b = false := by simp [okT, fitB, c4]
      simp only [go_sem, reduceCtorEq, reduceIte, Nat.reduceEqDiff, Nat.reduceAdd, Nat.reduceLeDiff, Nat.reduceMul, Int.reduceLT, Int.reduceLE, Int.reduceAdd, Int.reduceSub, Int.reduceMul, Int.reduceNeg, Int.reduceToNat, Int.reduceEq, s.h1, s.h2, s.h5, s.h7, s.h8, h9, h10, h11, h12, b9, b10, c4]
      exact fin (n := 1) (by simp [hn]) (by simp only [go_sem, reduceCtorEq, reduceIte, Nat.reduceEqDiff]) (by simp only [go_sem, reduceCtorEq, reduceIte, Nat.reduceEqDiff]) (by simp only [go_sem, reduceCtorEq, reduceIte, Nat.reduceEqDiff]) (by simp only [go_sem, reduceCtorEq, reduceIte, Nat.reduceEqDiff]) (by simp only [go_sem, reduceCtorEq, reduceIte, Nat.reduceEqDiff]) (by simp only [go_sem, reduceCtorEq, reduceIte, Nat.reduceEqDiff]) (by simp only [go_sem, reduceCtorEq, reduceIte, Nat.reduceEqDiff, h9]) (by simp only [go_sem, reduceCtorEq, reduceIte, Nat.reduceEqDiff, h10]) (by simp only [go_sem, reduceCtorEq, reduceIte, Nat.reduceEqDiff, h11]) (by simp only [go_sem, reduceCtorEq, reduceIte, Nat.reduceEqDiff, h12]) (by simp only [go_sem, reduceCtorEq, reduceIte, Nat.reduceEqDiff]) (by simp only [go_sem, reduceCtorEq, reduceIte, Nat.reduceEqDiff])
  clear s h13
  rintro σ F5 M5 ⟨s, h13, h14⟩
  obtain rfl := s.f
  cases hok : okT op k a b
  · rw [hok] at h13 h14
    simp only [Bool.false_eq_true, if_false] at h13 h14
    obtain ⟨r9, h9, f9⟩ := s.h9
    obtain ⟨r10, h10, f10⟩ := s.h10
    obtain ⟨r11, h11, f11⟩ := s.h11
    obtain ⟨q, h12, f12⟩ := s.h12
    simp only [go_sem, reduceCtorEq, reduceIte, Nat.reduceEqDiff, Nat.reduceAdd, Nat.reduceLeDiff, Nat.reduceMul, Int.reduceLT, Int.reduceLE, Int.reduceAdd, Int.reduceSub, Int.reduceMul, Int.reduceNeg, Int.reduceToNat, Int.reduceEq, s.h1, s.h2, s.h5, s.h7, s.h8, h9, h10, h11, h12, h13, h14]
    refine callK_same (k15 F5 _ 1) ?_
    simp only [go_sem, reduceCtorEq, reduceIte, Nat.reduceEqDiff, Nat.reduceAdd, Nat.reduceLeDiff, Nat.reduceMul, Int.reduceLT, Int.reduceLE, Int.reduceAdd, Int.reduceSub, Int.reduceMul, Int.reduceNeg, Int.reduceToNat, Int.reduceEq, s.h1, s.h2, s.h5, s.h7, s.h8, h9, h10, h11, h12, h13, h14]
    exact (s.toU2.ext (by simp only [go_sem, reduceCtorEq, reduceIte, Nat.reduceEqDiff]) (by simp only [go_sem, reduceCtorEq, reduceIte, Nat.reduceEqDiff]) (by simp only [go_sem, reduceCtorEq, reduceIte, Nat.reduceEqDiff]) (by simp only [go_sem, reduceCtorEq, reduceIte, Nat.reduceEqDiff]) (by simp only [go_sem, reduceCtorEq, reduceIte, Nat.reduceEqDiff]) (by simp only [go_sem, reduceCtorEq, reduceIte, Nat.reduceEqDiff]) (by simp only [go_sem, reduceCtorEq, reduceIte, Nat.reduceEqDiff, h9]) (by simp only [go_sem, reduceCtorEq, reduceIte, Nat.reduceEqDiff, h10])).tj
  obtain ⟨hd, hri⟩ := hw hok
  rw [hok] at h13 h14
  simp only [if_true] at h13 h14
  have hok' := hok
  simp only [okT, Bool.and_eq_true] at hok'
  obtain ⟨⟨hop, hfa⟩, hfb⟩ := hok'
  obtain ⟨hkk, ha, wa⟩ := fitB_of hfa
  obtain ⟨_, hb, wb⟩ := fitB_of hfb
  have hl2 := can_len hd.can hd.nd
  rw [Go.Ax.seq_assoc, Go.Ax.seq_assoc]
  refine cut (U3 F5 M r2 ask op k sl L i j a b z l) ?_ ?_
  · obtain ⟨r9, h9, f9⟩ := s.h9
    obtain ⟨r10, h10, f10⟩ := s.h10
    obtain ⟨r11, h11, f11⟩ := s.h11
    obtain ⟨q, h12, f12⟩ := s.h12
    have b11 := blk_M (F := F5) f11
    simp only [go_sem, reduceCtorEq, reduceIte, Nat.reduceEqDiff, Nat.reduceAdd, Nat.reduceLeDiff, Nat.reduceMul, Int.reduceLT, Int.reduceLE, Int.reduceAdd, Int.reduceSub, Int.reduceMul, Int.reduceNeg, Int.reduceToNat, Int.reduceEq, s.h1, s.h2, s.h5, s.h7, s.h8, h9, h10, h11, h12, h13, h14]
    refine callK_same (k15 F5 _ 0) ?_
    simp only [go_sem, reduceCtorEq, reduceIte, Nat.reduceEqDiff, Nat.reduceAdd, Nat.reduceLeDiff, Nat.reduceMul, Int.reduceLT, Int.reduceLE, Int.reduceAdd, Int.reduceSub, Int.reduceMul, Int.reduceNeg, Int.reduceToNat, Int.reduceEq, s.h1, s.h2, s.h5, s.h7, s.h8, h9, h10, h11, h12, h13, h14, b11]
    refine callK_same (k26 F5 _ op k z q l hkk f12 (by omega) hd.ok hd.w hd.can hri) ?_
    simp only [go_sem, reduceCtorEq, reduceIte, Nat.reduceEqDiff, Nat.reduceAdd, Nat.reduceLeDiff, Nat.reduceMul, Int.reduceLT, Int.reduceLE, Int.reduceAdd, Int.reduceSub, Int.reduceMul, Int.reduceNeg, Int.reduceToNat, Int.reduceEq, s.h1, s.h2, s.h5, s.h7, s.h8, h9, h10, h11, h12, h13, h14]
    exact s.ext (by simp only [go_sem, reduceCtorEq, reduceIte, Nat.reduceEqDiff]) (by simp only [go_sem, reduceCtorEq, reduceIte, Nat.reduceEqDiff]) (by simp only [go_sem, reduceCtorEq, reduceIte, Nat.reduceEqDiff]) (by simp only [go_sem, reduceCtorEq, reduceIte, Nat.reduceEqDiff]) (by simp only [go_sem, reduceCtorEq, reduceIte, Nat.reduceEqDiff]) (by simp only [go_sem, reduceCtorEq, reduceIte, Nat.reduceEqDiff]) (by simp only [go_sem, reduceCtorEq, reduceIte, Nat.reduceEqDiff, h9]) (by simp only [go_sem, reduceCtorEq, reduceIte, Nat.reduceEqDiff, h10]) (by simp only [go_sem, reduceCtorEq, reduceIte, Nat.reduceEqDiff, h11]) (by simp only [go_sem, reduceCtorEq, reduceIte, Nat.reduceEqDiff, h12])
  clear s h13 h14
  rintro σ F5 M5 s
  obtain rfl := s.f
  refine cut (U5e F5 M r2 ask op k sl L i j a b z l) ?_ ?_
  · obtain ⟨r9, h9, f9⟩ := s.h9
    obtain ⟨r10, h10, f10⟩ := s.h10
    obtain ⟨r11, h11, f11⟩ := s.h11
    obtain ⟨q, h12, f12⟩ := s.h12
    have b9 := blk_M (F := F5) f9
    have b10 := blk_M (F := F5) f10
    have eij : IntKind.i64.wrap ((i : Int) + j) = i + j := w64 (by omega) (by omega)
    simp only [go_sem, reduceCtorEq, reduceIte, Nat.reduceEqDiff, Nat.reduceAdd, Nat.reduceLeDiff, Nat.reduceMul, Int.reduceLT, Int.reduceLE, Int.reduceAdd, Int.reduceSub, Int.reduceMul, Int.reduceNeg, Int.reduceToNat, Int.reduceEq, s.h1, s.h2, s.h5, s.h7, s.h8, h9, h10, h11, h12, b9, b10, eij]
    refine callK_of (k16_genN F5 M5 a (i + j) 14 4 7 (by decide) (by decide) (by decide) (by decide) (by decide) ha) ?_
    rintro w G M6 hsu
    obtain ⟨hG, le1, k1, o1, lu, hlu, hnu, hmu, ru⟩ := hsu.row
    rw [hG]
    refine ⟨fun _ => le1, ?_⟩
    simp only [go_sem, reduceCtorEq, reduceIte, Nat.reduceEqDiff, Nat.reduceAdd, Nat.reduceLeDiff, Nat.reduceMul, Int.reduceLT, Int.reduceLE, Int.reduceAdd, Int.reduceSub, Int.reduceMul, Int.reduceNeg, Int.reduceToNat, Int.reduceEq, s.h1, s.h2, s.h5, s.h7, s.h8, h9, h10, h11, h12]
    refine callK_of (k16_genN F5 M6 b j 14 4 7 (by decide) (by decide) (by decide) (by decide) (by decide) hb) ?_
    rintro w' G M7 hsv
    obtain ⟨hG, le2, k2, o2, lw, hlw, hnw, hmw, rw'⟩ := hsv.row
    rw [hG]
    refine ⟨fun _ => le2, ?_⟩
    simp only [go_sem, reduceCtorEq, reduceIte, Nat.reduceEqDiff, Nat.reduceAdd, Nat.reduceLeDiff, Nat.reduceMul, Int.reduceLT, Int.reduceLE, Int.reduceAdd, Int.reduceSub, Int.reduceMul, Int.reduceNeg, Int.reduceToNat, Int.reduceEq, s.h1, s.h2, s.h5, s.h7, s.h8, h9, h10, h11, h12]
    exact ⟨lu, lw, ⟨(s.grow (k1.trans k2) (o2 (o1 s.old))).ext (by simp only [go_sem, reduceCtorEq, reduceIte, Nat.reduceEqDiff]) (by simp only [go_sem, reduceCtorEq, reduceIte, Nat.reduceEqDiff]) (by simp only [go_sem, reduceCtorEq, reduceIte, Nat.reduceEqDiff]) (by simp only [go_sem, reduceCtorEq, reduceIte, Nat.reduceEqDiff]) (by simp only [go_sem, reduceCtorEq, reduceIte, Nat.reduceEqDiff]) (by simp only [go_sem, reduceCtorEq, reduceIte, Nat.reduceEqDiff]) (by simp only [go_sem, reduceCtorEq, reduceIte, Nat.reduceEqDiff, h9]) (by simp only [go_sem, reduceCtorEq, reduceIte, Nat.reduceEqDiff, h10]) (by simp only [go_sem, reduceCtorEq, reduceIte, Nat.reduceEqDiff, h11]) (by simp only [go_sem, reduceCtorEq, reduceIte, Nat.reduceEqDiff, h12]), ⟨w, by simp only [go_sem, reduceCtorEq, reduceIte, Nat.reduceEqDiff], ru.keep k2⟩, ⟨w', by simp only [go_sem, reduceCtorEq, reduceIte, Nat.reduceEqDiff], rw'⟩⟩, ⟨hlu, hlw⟩, hnu, hnw, hmu, hmw⟩
  clear s
  rintro σ F5 M5 ⟨lu, lw, s, ⟨hlu, hlw⟩, hnu, hnw, hmu, hmw⟩
  obtain rfl := s.f
  by_cases hemp : lu = [] ∨ lw = []
  · obtain ⟨hv1, hv2⟩ := hd.void (by
      rcases hemp with h | h
      · exact .inl (hnu h)
      · exact .inr (hnw h))
    have hv1' : ¬ 0 ≤ z.nextR 0 := by omega
    have lwz := isW_le (ok_in hd.ok).w
    subst hv2
    obtain ⟨r9, h9, f9⟩ := s.h9
    obtain ⟨r10, h10, f10⟩ := s.h10
    obtain ⟨r11, h11, f11⟩ := s.h11
    obtain ⟨q, h12, f12⟩ := s.h12
    obtain ⟨qu, h15, f15⟩ := s.h15
    obtain ⟨qv, h16, f16⟩ := s.h16
    have b11 := blk_M (F := F5) f11
    obtain ⟨a12, c12, e12⟩ := f12.shape
    obtain ⟨a15, c15, e15⟩ := f15.shape
    obtain ⟨a16, c16, e16⟩ := f16.shape
    have h12' := h12
    have h15' := h15
    have h16' := h16
    rw [e12] at h12'
    rw [e15] at h15'
    rw [e16] at h16'
    by_cases hu0 : lu = []
    · subst hu0
      simp only [List.length_nil] at h12' h15'
      simp only [go_sem, reduceCtorEq, reduceIte, Nat.reduceEqDiff, Nat.reduceAdd, Nat.reduceLeDiff, Nat.reduceMul, Int.reduceLT, Int.reduceLE, Int.reduceAdd, Int.reduceSub, Int.reduceMul, Int.reduceNeg, Int.reduceToNat, Int.reduceEq, s.h1, s.h2, s.h5, s.h7, s.h8, h9, h10, h11, h12', h15', h16', b11]
      refine callK_same (k17 F5 _ z 0 lwz.1 lwz.2) ?_
      simp only [go_sem, reduceCtorEq, reduceIte, Nat.reduceEqDiff, Nat.reduceAdd, Nat.reduceLeDiff, Nat.reduceMul, Int.reduceLT, Int.reduceLE, Int.reduceAdd, Int.reduceSub, Int.reduceMul, Int.reduceNeg, Int.reduceToNat, Int.reduceEq, s.h1, s.h2, s.h5, s.h7, s.h8, h9, h10, h11, h12', h15', h16', hv1']
      exact (s.toU2.ext (by simp only [go_sem, reduceCtorEq, reduceIte, Nat.reduceEqDiff]) (by simp only [go_sem, reduceCtorEq, reduceIte, Nat.reduceEqDiff]) (by simp only [go_sem, reduceCtorEq, reduceIte, Nat.reduceEqDiff]) (by simp only [go_sem, reduceCtorEq, reduceIte, Nat.reduceEqDiff]) (by simp only [go_sem, reduceCtorEq, reduceIte, Nat.reduceEqDiff]) (by simp only [go_sem, reduceCtorEq, reduceIte, Nat.reduceEqDiff]) (by simp only [go_sem, reduceCtorEq, reduceIte, Nat.reduceEqDiff, h9]) (by simp only [go_sem, reduceCtorEq, reduceIte, Nat.reduceEqDiff, h10])).tj
    · have hw0 : lw = [] := hemp.resolve_left hu0
      subst hw0
      have hu1 : ¬ (lu.length : Int) = 0 := by
        intro h
        exact hu0 (List.length_eq_zero_iff.1 (by omega))
      simp only [List.length_nil] at h12' h16'
      simp only [go_sem, reduceCtorEq, reduceIte, Nat.reduceEqDiff, Nat.reduceAdd, Nat.reduceLeDiff, Nat.reduceMul, Int.reduceLT, Int.reduceLE, Int.reduceAdd, Int.reduceSub, Int.reduceMul, Int.reduceNeg, Int.reduceToNat, Int.reduceEq, s.h1, s.h2, s.h5, s.h7, s.h8, h9, h10, h11, h12', h15', h16', b11, hu1]
      refine callK_same (k17 F5 _ z 0 lwz.1 lwz.2) ?_
      simp only [go_sem, reduceCtorEq, reduceIte, Nat.reduceEqDiff, Nat.reduceAdd, Nat.reduceLeDiff, Nat.reduceMul, Int.reduceLT, Int.reduceLE, Int.reduceAdd, Int.reduceSub, Int.reduceMul, Int.reduceNeg, Int.reduceToNat, Int.reduceEq, s.h1, s.h2, s.h5, s.h7, s.h8, h9, h10, h11, h12', h15', h16', hv1']
      exact (s.toU2.ext (by simp only [go_sem, reduceCtorEq, reduceIte, Nat.reduceEqDiff]) (by simp only [go_sem, reduceCtorEq, reduceIte, Nat.reduceEqDiff]) (by simp only [go_sem, reduceCtorEq, reduceIte, Nat.reduceEqDiff]) (by simp only [go_sem, reduceCtorEq, reduceIte, Nat.reduceEqDiff]) (by simp only [go_sem, reduceCtorEq, reduceIte, Nat.reduceEqDiff]) (by simp only [go_sem, reduceCtorEq, reduceIte, Nat.reduceEqDiff]) (by simp only [go_sem, reduceCtorEq, reduceIte, Nat.reduceEqDiff, h9]) (by simp only [go_sem, reduceCtorEq, reduceIte, Nat.reduceEqDiff, h10])).tj
  have hu0 : lu ≠ [] := fun h => hemp (.inl h)
  have hw0 : lw ≠ [] := fun h => hemp (.inr h)
  have hupos : 0 < lu.length := List.length_pos_iff.2 hu0
  have hwpos : 0 < lw.length := List.length_pos_iff.2 hw0
  refine cut (U5 F5 M r2 ask op k sl L i j a b z l lu lw) ?_ ?_
  · obtain ⟨r9, h9, f9⟩ := s.h9
    obtain ⟨r10, h10, f10⟩ := s.h10
    obtain ⟨r11, h11, f11⟩ := s.h11
    obtain ⟨q, h12, f12⟩ := s.h12
    obtain ⟨qu, h15, f15⟩ := s.h15
    obtain ⟨qv, h16, f16⟩ := s.h16
    obtain ⟨a15, c15, e15⟩ := f15.shape
    obtain ⟨a16, c16, e16⟩ := f16.shape
    have h15' := h15
    have h16' := h16
    rw [e15] at h15'
    rw [e16] at h16'
    have hu1 : ¬ (lu.length : Int) = 0 := by omega
    have hw1 : ¬ (lw.length : Int) = 0 := by omega
    simp only [go_sem, reduceCtorEq, reduceIte, Nat.reduceEqDiff, Nat.reduceAdd, Nat.reduceLeDiff, Nat.reduceMul, Int.reduceLT, Int.reduceLE, Int.reduceAdd, Int.reduceSub, Int.reduceMul, Int.reduceNeg, Int.reduceToNat, Int.reduceEq, s.h1, s.h2, s.h5, s.h7, s.h8, h9, h10, h11, h12, h15', h16', hu1, hw1]
    exact s.ext (by simp only [go_sem, reduceCtorEq, reduceIte, Nat.reduceEqDiff]) (by simp only [go_sem, reduceCtorEq, reduceIte, Nat.reduceEqDiff]) (by simp only [go_sem, reduceCtorEq, reduceIte, Nat.reduceEqDiff]) (by simp only [go_sem, reduceCtorEq, reduceIte, Nat.reduceEqDiff]) (by simp only [go_sem, reduceCtorEq, reduceIte, Nat.reduceEqDiff]) (by simp only [go_sem, reduceCtorEq, reduceIte, Nat.reduceEqDiff]) (by simp only [go_sem, reduceCtorEq, reduceIte, Nat.reduceEqDiff, h9]) (by simp only [go_sem, reduceCtorEq, reduceIte, Nat.reduceEqDiff, h10]) (by simp only [go_sem, reduceCtorEq, reduceIte, Nat.reduceEqDiff, h11]) (by simp only [go_sem, reduceCtorEq, reduceIte, Nat.reduceEqDiff, h12]) (by simp only [go_sem, reduceCtorEq, reduceIte, Nat.reduceEqDiff, h15', h15, e15]) (by simp only [go_sem, reduceCtorEq, reduceIte, Nat.reduceEqDiff, h16', h16, e16])
  clear s
  rintro σ F5 M5 s
  obtain rfl := s.f
  refine cut (U5 F5 M r2 ask op k sl L i j a b z l lu lw) ?_ ?_
  · obtain ⟨r9, h9, f9⟩ := s.h9
    obtain ⟨r10, h10, f10⟩ := s.h10
    obtain ⟨r11, h11, f11⟩ := s.h11
    obtain ⟨q, h12, f12⟩ := s.h12
    obtain ⟨qu, h15, f15⟩ := s.h15
    obtain ⟨qv, h16, f16⟩ := s.h16
    obtain ⟨a15, c15, e15⟩ := f15.shape
    obtain ⟨a16, c16, e16⟩ := f16.shape
    have h15' := h15
    have h16' := h16
    rw [e15] at h15'
    rw [e16] at h16'
    simp only [go_sem, reduceCtorEq, reduceIte, Nat.reduceEqDiff, Nat.reduceAdd, Nat.reduceLeDiff, Nat.reduceMul, Int.reduceLT, Int.reduceLE, Int.reduceAdd, Int.reduceSub, Int.reduceMul, Int.reduceNeg, Int.reduceToNat, Int.reduceEq, s.h1, s.h2, s.h5, s.h7, s.h8, h9, h10, h11, h12, h15', h16']
    refine loop_of (u4S F5 M r2 ask op k sl L i j a b z l lu lw) lu.length ?_ ?_
    · exact ⟨s.ext (by simp only [go_sem, reduceCtorEq, reduceIte, Nat.reduceEqDiff]) (by simp only [go_sem, reduceCtorEq, reduceIte, Nat.reduceEqDiff]) (by simp only [go_sem, reduceCtorEq, reduceIte, Nat.reduceEqDiff]) (by simp only [go_sem, reduceCtorEq, reduceIte, Nat.reduceEqDiff]) (by simp only [go_sem, reduceCtorEq, reduceIte, Nat.reduceEqDiff]) (by simp only [go_sem, reduceCtorEq, reduceIte, Nat.reduceEqDiff]) (by simp only [go_sem, reduceCtorEq, reduceIte, Nat.reduceEqDiff, h9]) (by simp only [go_sem, reduceCtorEq, reduceIte, Nat.reduceEqDiff, h10]) (by simp only [go_sem, reduceCtorEq, reduceIte, Nat.reduceEqDiff, h11]) (by simp only [go_sem, reduceCtorEq, reduceIte, Nat.reduceEqDiff, h12]) (by simp only [go_sem, reduceCtorEq, reduceIte, Nat.reduceEqDiff, h15', h15, e15]) (by simp only [go_sem, reduceCtorEq, reduceIte, Nat.reduceEqDiff, h16', h16, e16]), 0, by omega, by simp only [go_sem, reduceCtorEq, reduceIte, Nat.reduceEqDiff] <;> rfl⟩
    clear h9 h10 h11 h12 h15 h16 h15' h16' f9 f10 f11 f12 f15 f16 e15 e16
    clear s r9 r10 r11 q qu qv
    rintro ms σ F6 M6 ⟨s, ns, hns, h17⟩
    obtain rfl := s.f
    obtain ⟨r9, h9, f9⟩ := s.h9
    obtain ⟨r10, h10, f10⟩ := s.h10
    obtain ⟨r11, h11, f11⟩ := s.h11
    obtain ⟨q, h12, f12⟩ := s.h12
    obtain ⟨qu, h15, f15⟩ := s.h15
    obtain ⟨qv, h16, f16⟩ := s.h16
    obtain ⟨a15, c15, e15⟩ := f15.shape
    obtain ⟨a16, c16, e16⟩ := f16.shape
    have h15' := h15
    have h16' := h16
    rw [e15] at h15'
    rw [e16] at h16'
    by_cases hnl : (ns : Int) < lu.length
    rotate_left
    · simp only [go_sem, reduceCtorEq, reduceIte, Nat.reduceEqDiff, Nat.reduceAdd, Nat.reduceLeDiff, Nat.reduceMul, Int.reduceLT, Int.reduceLE, Int.reduceAdd, Int.reduceSub, Int.reduceMul, Int.reduceNeg, Int.reduceToNat, Int.reduceEq, s.h1, s.h2, s.h5, s.h7, s.h8, h9, h10, h11, h12, h15', h16', h17, hnl]
      exact s.ext (by simp only [go_sem, reduceCtorEq, reduceIte, Nat.reduceEqDiff]) (by simp only [go_sem, reduceCtorEq, reduceIte, Nat.reduceEqDiff]) (by simp only [go_sem, reduceCtorEq, reduceIte, Nat.reduceEqDiff]) (by simp only [go_sem, reduceCtorEq, reduceIte, Nat.reduceEqDiff]) (by simp only [go_sem, reduceCtorEq, reduceIte, Nat.reduceEqDiff]) (by simp only [go_sem, reduceCtorEq, reduceIte, Nat.reduceEqDiff]) (by simp only [go_sem, reduceCtorEq, reduceIte, Nat.reduceEqDiff, h9]) (by simp only [go_sem, reduceCtorEq, reduceIte, Nat.reduceEqDiff, h10]) (by simp only [go_sem, reduceCtorEq, reduceIte, Nat.reduceEqDiff, h11]) (by simp only [go_sem, reduceCtorEq, reduceIte, Nat.reduceEqDiff, h12]) (by simp only [go_sem, reduceCtorEq, reduceIte, Nat.reduceEqDiff, h15', h15, e15]) (by simp only [go_sem, reduceCtorEq, reduceIte, Nat.reduceEqDiff, h16', h16, e16])
    have ens : IntKind.i64.wrap ((ns : Int) + 1) = ns + 1 := w64 (by omega) (by omega)
    simp only [go_sem, reduceCtorEq, reduceIte, Nat.reduceEqDiff, Nat.reduceAdd, Nat.reduceLeDiff, Nat.reduceMul, Int.reduceLT, Int.reduceLE, Int.reduceAdd, Int.reduceSub, Int.reduceMul, Int.reduceNeg, Int.reduceToNat, Int.reduceEq, s.h1, s.h2, s.h5, s.h7, s.h8, h9, h10, h11, h12, h15', h16', h17, hnl]
    refine loop_of (u4T F6 M r2 ask op k sl L i j a b z l lu lw ns) lw.length ?_ ?_
    · exact ⟨s.ext (by simp only [go_sem, reduceCtorEq, reduceIte, Nat.reduceEqDiff]) (by simp only [go_sem, reduceCtorEq, reduceIte, Nat.reduceEqDiff]) (by simp only [go_sem, reduceCtorEq, reduceIte, Nat.reduceEqDiff]) (by simp only [go_sem, reduceCtorEq, reduceIte, Nat.reduceEqDiff]) (by simp only [go_sem, reduceCtorEq, reduceIte, Nat.reduceEqDiff]) (by simp only [go_sem, reduceCtorEq, reduceIte, Nat.reduceEqDiff]) (by simp only [go_sem, reduceCtorEq, reduceIte, Nat.reduceEqDiff, h9]) (by simp only [go_sem, reduceCtorEq, reduceIte, Nat.reduceEqDiff, h10]) (by simp only [go_sem, reduceCtorEq, reduceIte, Nat.reduceEqDiff, h11]) (by simp only [go_sem, reduceCtorEq, reduceIte, Nat.reduceEqDiff, h12]) (by simp only [go_sem, reduceCtorEq, reduceIte, Nat.reduceEqDiff, h15', h15, e15]) (by simp only [go_sem, reduceCtorEq, reduceIte, Nat.reduceEqDiff, h16', h16, e16]), by simp only [go_sem, reduceCtorEq, reduceIte, Nat.reduceEqDiff, h17], 0, by omega, by simp only [go_sem, reduceCtorEq, reduceIte, Nat.reduceEqDiff] <;> rfl⟩
    clear h9 h10 h11 h12 h15 h16 h15' h16' f9 f10 f11 f12 f15 f16 e15 e16 h17
    clear s r9 r10 r11 q qu qv
    rintro mt σ F7 M7 ⟨s, h17, nt, hnt, h18⟩
    obtain rfl := s.f
    obtain ⟨r9, h9, f9⟩ := s.h9
    obtain ⟨r10, h10, f10⟩ := s.h10
    obtain ⟨r11, h11, f11⟩ := s.h11
    obtain ⟨q, h12, f12⟩ := s.h12
    obtain ⟨qu, h15, f15⟩ := s.h15
    obtain ⟨qv, h16, f16⟩ := s.h16
    obtain ⟨a15, c15, e15⟩ := f15.shape
    obtain ⟨a16, c16, e16⟩ := f16.shape
    have h15' := h15
    have h16' := h16
    rw [e15] at h15'
    rw [e16] at h16'
    by_cases htl : (nt : Int) < lw.length
    rotate_left
    · simp only [go_sem, reduceCtorEq, reduceIte, Nat.reduceEqDiff, Nat.reduceAdd, Nat.reduceLeDiff, Nat.reduceMul, Int.reduceLT, Int.reduceLE, Int.reduceAdd, Int.reduceSub, Int.reduceMul, Int.reduceNeg, Int.reduceToNat, Int.reduceEq, s.h1, s.h2, s.h5, s.h7, s.h8, h9, h10, h11, h12, h15', h16', h17, h18, htl, ens]
      exact ⟨ms - 1, by omega, s.ext (by simp only [go_sem, reduceCtorEq, reduceIte, Nat.reduceEqDiff]) (by simp only [go_sem, reduceCtorEq, reduceIte, Nat.reduceEqDiff]) (by simp only [go_sem, reduceCtorEq, reduceIte, Nat.reduceEqDiff]) (by simp only [go_sem, reduceCtorEq, reduceIte, Nat.reduceEqDiff]) (by simp only [go_sem, reduceCtorEq, reduceIte, Nat.reduceEqDiff]) (by simp only [go_sem, reduceCtorEq, reduceIte, Nat.reduceEqDiff]) (by simp only [go_sem, reduceCtorEq, reduceIte, Nat.reduceEqDiff, h9]) (by simp only [go_sem, reduceCtorEq, reduceIte, Nat.reduceEqDiff, h10]) (by simp only [go_sem, reduceCtorEq, reduceIte, Nat.reduceEqDiff, h11]) (by simp only [go_sem, reduceCtorEq, reduceIte, Nat.reduceEqDiff, h12]) (by simp only [go_sem, reduceCtorEq, reduceIte, Nat.reduceEqDiff, h15', h15, e15]) (by simp only [go_sem, reduceCtorEq, reduceIte, Nat.reduceEqDiff, h16', h16, e16]), ns + 1, by omega, by simp only [go_sem, reduceCtorEq, reduceIte, Nat.reduceEqDiff]; rfl⟩
    have ent : IntKind.i64.wrap ((nt : Int) + 1) = nt + 1 := w64 (by omega) (by omega)
    have hns0 : (0 : Int) ≤ ns := by omega
    have hnt0 : (0 : Int) ≤ nt := by omega
    have hns' : ns < lu.length := by omega
    have hnt' : nt < lw.length := by omega
    obtain ⟨gu, cu, eu, bu, du⟩ := f15.get (F := F7) hns'
    obtain ⟨gw, cw, ew, bw, dw⟩ := f16.get (F := F7) hnt'
    have h15'' := h15
    have h16'' := h16
    rw [eu] at h15''
    rw [ew] at h16''
    obtain ⟨u1, u2, u3⟩ := hmu lu[ns] (List.getElem_mem _)
    obtain ⟨v1, v2, v3⟩ := hmw lw[nt] (List.getElem_mem _)
    generalize lu[ns] = pu at *
    generalize lw[nt] = pv at *
    have b11 := blk_M (F := F7) f11
    have hall := hd.all pu pv u1 u2 u3 v1 v2 v3
    simp only [go_sem, reduceCtorEq, reduceIte, Nat.reduceEqDiff, Nat.reduceAdd, Nat.reduceLeDiff, Nat.reduceMul, Int.reduceLT, Int.reduceLE, Int.reduceAdd, Int.reduceSub, Int.reduceMul, Int.reduceNeg, Int.reduceToNat, Int.reduceEq, s.h1, s.h2, s.h5, s.h7, s.h8, h9, h10, h11, h12, h15'', h16'', h17, h18, htl, hnl, hns0, hnt0, Int.toNat_natCast, Nat.mul_one, Nat.zero_add, bu, bw, du, dw, b11]
    refine callK_same (k27 F7 _ op k pu pv hkk hop u1 (by rw [← wa]; exact u2) v1 (by rw [← wb]; exact v2)) ?_
    simp only [pairV, go_sem, reduceCtorEq, reduceIte, Nat.reduceEqDiff, Nat.reduceAdd, Nat.reduceLeDiff, Nat.reduceMul, Int.reduceLT, Int.reduceLE, Int.reduceAdd, Int.reduceSub, Int.reduceMul, Int.reduceNeg, Int.reduceToNat, Int.reduceEq, s.h1, s.h2, s.h5, s.h7, s.h8, h9, h10, h11, h12, h15'', h16'', h17, h18, b11]
    refine callK_same (k28 F7 _ z q l (twoK op k pu pv) f12 (by omega) hall) ?_
    simp only [go_sem, reduceCtorEq, reduceIte, Nat.reduceEqDiff, Nat.reduceAdd, Nat.reduceLeDiff, Nat.reduceMul, Int.reduceLT, Int.reduceLE, Int.reduceAdd, Int.reduceSub, Int.reduceMul, Int.reduceNeg, Int.reduceToNat, Int.reduceEq, s.h1, s.h2, s.h5, s.h7, s.h8, h9, h10, h11, h12, h15'', h16'', h17, h18, ent]
    exact ⟨mt - 1, by omega, s.ext (by simp only [go_sem, reduceCtorEq, reduceIte, Nat.reduceEqDiff]) (by simp only [go_sem, reduceCtorEq, reduceIte, Nat.reduceEqDiff]) (by simp only [go_sem, reduceCtorEq, reduceIte, Nat.reduceEqDiff]) (by simp only [go_sem, reduceCtorEq, reduceIte, Nat.reduceEqDiff]) (by simp only [go_sem, reduceCtorEq, reduceIte, Nat.reduceEqDiff]) (by simp only [go_sem, reduceCtorEq, reduceIte, Nat.reduceEqDiff]) (by simp only [go_sem, reduceCtorEq, reduceIte, Nat.reduceEqDiff, h9]) (by simp only [go_sem, reduceCtorEq, reduceIte, Nat.reduceEqDiff, h10]) (by simp only [go_sem, reduceCtorEq, reduceIte, Nat.reduceEqDiff, h11]) (by simp only [go_sem, reduceCtorEq, reduceIte, Nat.reduceEqDiff, h12]) (by simp only [go_sem, reduceCtorEq, reduceIte, Nat.reduceEqDiff, h15'', h15, eu]) (by simp only [go_sem, reduceCtorEq, reduceIte, Nat.reduceEqDiff, h16'', h16, ew]), by simp only [go_sem, reduceCtorEq, reduceIte, Nat.reduceEqDiff, h17], nt + 1, by omega, by simp only [go_sem, reduceCtorEq, reduceIte, Nat.reduceEqDiff]; rfl⟩
  clear s
  rintro σ F5 M5 s
  obtain rfl := s.f
  obtain ⟨r9, h9, f9⟩ := s.h9
  obtain ⟨r10, h10, f10⟩ := s.h10
  obtain ⟨r11, h11, f11⟩ := s.h11
  obtain ⟨q, h12, f12⟩ := s.h12
  obtain ⟨qu, h15, f15⟩ := s.h15
  obtain ⟨qv, h16, f16⟩ := s.h16
  obtain ⟨a15, c15, e15⟩ := f15.shape
  obtain ⟨a16, c16, e16⟩ := f16.shape
  have h15' := h15
  have h16' := h16
  rw [e15] at h15'
  rw [e16] at h16'
  have b9 := blk_M (F := F5) f9
  have b10 := blk_M (F := F5) f10
  have b11 := blk_M (F := F5) f11
  have hO1 : onlyA a = .tuple #[.int .i64 (a.nextR 0), .bool a.is1] := rfl
  have hO2 : onlyA b = .tuple #[.int .i64 (b.nextR 0), .bool b.is1] := rfl
  simp only [go_sem, reduceCtorEq, reduceIte, Nat.reduceEqDiff, Nat.reduceAdd, Nat.reduceLeDiff, Nat.reduceMul, Int.reduceLT, Int.reduceLE, Int.reduceAdd, Int.reduceSub, Int.reduceMul, Int.reduceNeg, Int.reduceToNat, Int.reduceEq, s.h1, s.h2, s.h5, s.h7, s.h8, h9, h10, h11, h12, h15', h16', b9, b10]
  refine callK_same (k20 F5 _ a ha) ?_
  simp only [hO1, go_sem, reduceCtorEq, reduceIte, Nat.reduceEqDiff, Nat.reduceAdd, Nat.reduceLeDiff, Nat.reduceMul, Int.reduceLT, Int.reduceLE, Int.reduceAdd, Int.reduceSub, Int.reduceMul, Int.reduceNeg, Int.reduceToNat, Int.reduceEq, s.h1, s.h2, s.h5, s.h7, s.h8, h9, h10, h11, h12, h15', h16', b9, b10]
  refine callK_same (k20 F5 _ b hb) ?_
  cases i1 : a.is1
  · simp only [hO2, go_sem, reduceCtorEq, reduceIte, Nat.reduceEqDiff, Nat.reduceAdd, Nat.reduceLeDiff, Nat.reduceMul, Int.reduceLT, Int.reduceLE, Int.reduceAdd, Int.reduceSub, Int.reduceMul, Int.reduceNeg, Int.reduceToNat, Int.reduceEq, s.h1, s.h2, s.h5, s.h7, s.h8, h9, h10, h11, h12, h15', h16', i1]
    exact (s.toU2.ext (by simp only [go_sem, reduceCtorEq, reduceIte, Nat.reduceEqDiff]) (by simp only [go_sem, reduceCtorEq, reduceIte, Nat.reduceEqDiff]) (by simp only [go_sem, reduceCtorEq, reduceIte, Nat.reduceEqDiff]) (by simp only [go_sem, reduceCtorEq, reduceIte, Nat.reduceEqDiff]) (by simp only [go_sem, reduceCtorEq, reduceIte, Nat.reduceEqDiff]) (by simp only [go_sem, reduceCtorEq, reduceIte, Nat.reduceEqDiff]) (by simp only [go_sem, reduceCtorEq, reduceIte, Nat.reduceEqDiff, h9]) (by simp only [go_sem, reduceCtorEq, reduceIte, Nat.reduceEqDiff, h10])).tj
  cases i2 : b.is1
  · simp only [hO2, go_sem, reduceCtorEq, reduceIte, Nat.reduceEqDiff, Nat.reduceAdd, Nat.reduceLeDiff, Nat.reduceMul, Int.reduceLT, Int.reduceLE, Int.reduceAdd, Int.reduceSub, Int.reduceMul, Int.reduceNeg, Int.reduceToNat, Int.reduceEq, s.h1, s.h2, s.h5, s.h7, s.h8, h9, h10, h11, h12, h15', h16', i1, i2]
    exact (s.toU2.ext (by simp only [go_sem, reduceCtorEq, reduceIte, Nat.reduceEqDiff]) (by simp only [go_sem, reduceCtorEq, reduceIte, Nat.reduceEqDiff]) (by simp only [go_sem, reduceCtorEq, reduceIte, Nat.reduceEqDiff]) (by simp only [go_sem, reduceCtorEq, reduceIte, Nat.reduceEqDiff]) (by simp only [go_sem, reduceCtorEq, reduceIte, Nat.reduceEqDiff]) (by simp only [go_sem, reduceCtorEq, reduceIte, Nat.reduceEqDiff]) (by simp only [go_sem, reduceCtorEq, reduceIte, Nat.reduceEqDiff, h9]) (by simp only [go_sem, reduceCtorEq, reduceIte, Nat.reduceEqDiff, h10])).tj
  have hone := hd.one i1 i2
  have hma := is1_mem ha i1
  have hmb := is1_mem hb i2
  obtain ⟨gu, cu, eu, bu, du⟩ := f15.get (F := F5) hupos
  obtain ⟨gw, cw, ew, bw, dw⟩ := f16.get (F := F5) hwpos
  have h15'' := h15
  have h16'' := h16
  rw [eu] at h15''
  rw [ew] at h16''
  obtain ⟨u1, u2, u3⟩ := hmu lu[0] (List.getElem_mem _)
  obtain ⟨v1, v2, v3⟩ := hmw lw[0] (List.getElem_mem _)
  have eu0 : lu[0] = a.nextR 0 := hma.2.2.2 _ u1 u2 u3
  have ev0 : lw[0] = b.nextR 0 := hmb.2.2.2 _ v1 v2 v3
  rw [eu0] at du
  rw [ev0] at dw
  have hup : (0 : Int) < lu.length := by omega
  have hwp : (0 : Int) < lw.length := by omega
  simp only [hO2, go_sem, reduceCtorEq, reduceIte, Nat.reduceEqDiff, Nat.reduceAdd, Nat.reduceLeDiff, Nat.reduceMul, Int.reduceLT, Int.reduceLE, Int.reduceAdd, Int.reduceSub, Int.reduceMul, Int.reduceNeg, Int.reduceToNat, Int.reduceEq, s.h1, s.h2, s.h5, s.h7, s.h8, h9, h10, h11, h12, h15'', h16'', i1, i2, hup, hwp, bu, bw, du, dw, Nat.zero_mul, Nat.add_zero]
  refine callK_same (k27 F5 _ op k _ _ hkk hop hma.1 (by rw [← wa]; exact hma.2.1) hmb.1 (by rw [← wb]; exact hmb.2.1)) ?_
  simp only [pairV, go_sem, reduceCtorEq, reduceIte, Nat.reduceEqDiff, Nat.reduceAdd, Nat.reduceLeDiff, Nat.reduceMul, Int.reduceLT, Int.reduceLE, Int.reduceAdd, Int.reduceSub, Int.reduceMul, Int.reduceNeg, Int.reduceToNat, Int.reduceEq, s.h1, s.h2, s.h5, s.h7, s.h8, h9, h10, h11, h12, h15'', h16'', b11]
  refine callK_same (k21 F5 _ z q l (twoK op k (a.nextR 0) (b.nextR 0)) hd.ok f12 hone) ?_
  simp only [go_sem, reduceCtorEq, reduceIte, Nat.reduceEqDiff, Nat.reduceAdd, Nat.reduceLeDiff, Nat.reduceMul, Int.reduceLT, Int.reduceLE, Int.reduceAdd, Int.reduceSub, Int.reduceMul, Int.reduceNeg, Int.reduceToNat, Int.reduceEq, s.h1, s.h2, s.h5, s.h7, s.h8, h9, h10, h11, h12, h15'', h16'']
  exact (s.toU2.ext (by simp only [go_sem, reduceCtorEq, reduceIte, Nat.reduceEqDiff]) (by simp only [go_sem, reduceCtorEq, reduceIte, Nat.reduceEqDiff]) (by simp only [go_sem, reduceCtorEq, reduceIte, Nat.reduceEqDiff]) (by simp only [go_sem, reduceCtorEq, reduceIte, Nat.reduceEqDiff]) (by simp only [go_sem, reduceCtorEq, reduceIte, Nat.reduceEqDiff]) (by simp only [go_sem, reduceCtorEq, reduceIte, Nat.reduceEqDiff]) (by simp only [go_sem, reduceCtorEq, reduceIte, Nat.reduceEqDiff, h9]) (by simp only [go_sem, reduceCtorEq, reduceIte, Nat.reduceEqDiff, h10])).tj
end Go.Proofs.Tryz.K
