/- Parts K30to34: the machine's runs of small codes, contracts of functions, plain facts. -/
import Derived.Test.YtmaclakgkllojaaProg
import Derived.Test.YtmaclakgkllojaaK25to29
namespace Go.Proofs.Try.S
open Go Go.Ax Go.Ax.N
set_option maxRecDepth 100000

/-- cellar/cellarlaw5.twos -/
def c33 : SF := ⟨239, [.t 4], (.seq (.ops [k 2 (.bx 27 (t 0)),
 o 4 (.mv (b false))])
 (.seq (.seq (.ops [o 29 (.ld true 2 (t 2)),
 k 30 (.ca (.func 34) [(t 29)])])
 (.cond (t 30)
 (.seq (.ops [o 4 (.mv (b true))])
 .ret)
 .skip))
 (.seq (.seq (.ops [o 5 (.mv (i 0))])
 (.block 0 (.loop (.seq (.seq (.ops [o 31 (.mv (t 5)),
 o 32 (.bin .leq (t 31) (i 7))])
 (.cond (t 32)
 .skip
 (.exit 0)))
 (.seq (.block 1 (.seq (.opd [o 35 (.ld true 2 (t 2)),
 o 36 (.mv (t 5)),
 k 37 (.ca (.func 46) [(t 36)]),
 k 38 (.ca (.func 45) [(t 35), (t 37)]),
 o 6 (.mv (t 38))])
 (.seq (.ops [o 7 (.mv (i 0))])
 (.block 2 (.loop (.seq (.seq (.ops [o 39 (.mv (t 7)),
 o 40 (.mv (t 6)),
 o 41 (.ln (t 40)),
 o 42 (.bin .lss (t 39) (t 41))])
 (.cond (t 42)
 .skip
 (.exit 2)))
 (.seq (.block 3 (.seq (.ops [o 8 (.mv (i 0))])
 (.block 4 (.loop (.seq (.seq (.ops [o 45 (.mv (t 8)),
 o 46 (.mv (t 6)),
 o 47 (.ln (t 46)),
 o 48 (.bin .mul (i 2) (t 47)),
 o 49 (.bin .lss (t 45) (t 48))])
 (.cond (t 49)
 .skip
 (.exit 4)))
 (.seq (.block 5 (.seq (.opq [o 52 (.mv (t 6)),
 o 53 (.mv (t 7)),
 o 54 (.ia 6 (t 52) (t 53)),
 o 55 (.ld true 6 (t 54)),
 o 56 (.mv (t 6)),
 o 57 (.mv (t 8)),
 o 58 (.bin .quo (t 57) (i 2)),
 o 59 (.ia 6 (t 56) (t 58)),
 o 60 (.ld true 6 (t 59)),
 o 61 (.mv (t 8)),
 o 62 (.bin .rem (t 61) (i 2)),
 o 63 (.bin .eql (t 62) (i 0)),
 k 9 (.al 34 [.int .i64 0, .bool false, .int .i64 0, .int .i64 0, .int .i64 0, .int .i64 0]),
 k 10 (.al 34 [.int .i64 0, .bool false, .int .i64 0, .int .i64 0, .int .i64 0, .int .i64 0]),
 kn (.st [59] 6 (t 9) (t 55)),
 kn (.st [] 6 (t 10) (t 60)),
 o 11 (.mv (t 63))])
 (.seq (.ops [o 65 (.mv (t 1)),
 o 66 (.mv (t 5)),
 o 67 (.ld true 6 (t 9)),
 o 68 (.ld true 6 (t 10)),
 o 69 (.mv (t 11)),
 k 70 (.ca (.func 43) [(t 65), (t 66), (t 67), (t 68), (t 69)]),
 o 64 (.mv (t 70)),
 o 71 (.ex (t 64) 0),
 o 72 (.ex (t 64) 1),
 o 73 (.ex (t 64) 2),
 k 12 (.al 34 [.int .i64 0, .bool false, .int .i64 0, .int .i64 0, .int .i64 0, .int .i64 0]),
 k 13 (.al 34 [.int .i64 0, .bool false, .int .i64 0, .int .i64 0, .int .i64 0, .int .i64 0]),
 kn (.st [] 6 (t 12) (t 71)),
 kn (.st [] 6 (t 13) (t 72)),
 o 14 (.mv (t 73))])
 (.seq (.ops [o 15 (.mv (i 1))])
 (.seq (.ops [o 74 (.mv (t 5)),
 k 75 (.ca (.func 46) [(t 74)]),
 o 16 (.mv (t 75))])
 (.seq (.seq (.ops [o 76 (.mv (t 1)),
 o 77 (.bin .eql (t 76) (i 18)),
 o 78 (.mv (t 77)),
 og 79 78 false (.mv (t 1)),
 og 80 78 false (.bin .eql (t 79) (i 19)),
 o 81 (.pick (t 78) (b true) (t 80)),
 o 82 (.mv (t 81)),
 og 83 82 true (.mv (t 16)),
 og 84 82 true (.bin .gtr (t 83) (i 0)),
 o 85 (.pick (t 82) (t 84) (b false)),
 o 86 (.mv (t 85)),
 og 87 86 true (.ld true 6 (t 9)),
 ⟨some 88, some (86, true), .ca (.func 36) [(t 87)]⟩,
 o 89 (.pick (t 86) (t 88) (b false)),
 o 90 (.mv (t 89)),
 og 91 90 true (.ld true 6 (t 10)),
 ⟨some 92, some (90, true), .ca (.func 36) [(t 91)]⟩,
 o 93 (.pick (t 90) (t 92) (b false)),
 o 94 (.mv (t 93)),
 og 95 94 true (.fa 0 (t 9)),
 og 96 94 true (.ld false 1 (t 95)),
 og 97 94 true (.mv (t 16)),
 og 98 94 true (.bin .eql (t 96) (t 97)),
 o 99 (.pick (t 94) (t 98) (b false)),
 o 100 (.mv (t 99)),
 og 101 100 true (.fa 0 (t 10)),
 og 102 100 true (.ld false 1 (t 101)),
 og 103 100 true (.mv (t 16)),
 og 104 100 true (.bin .eql (t 102) (t 103)),
 o 105 (.pick (t 100) (t 104) (b false))])
 (.cond (t 105)
 (.ops [o 15 (.mv (i 0))])
 .skip))
 (.seq (.seq (.ops [o 106 (.mv (t 14)),
 k 107 (.ca (.func 37) [(t 106)]),
 o 108 (.mv (t 15)),
 o 109 (.bin .neq (t 107) (t 108))])
 (.cond (t 109)
 (.seq (.ops [o 4 (.mv (b false))])
 .ret)
 .skip))
 (.seq (.seq (.ops [o 110 (.mv (t 15)),
 o 111 (.bin .neq (t 110) (i 0))])
 (.cond (t 111)
 (.exit 5)
 .skip))
 (.seq (.seq (.ops [o 112 (.ld true 6 (t 12)),
 k 113 (.ca (.func 36) [(t 112)]),
 o 114 (.un .not (t 113)),
 o 115 (.mv (t 114)),
 og 116 115 false (.ld true 6 (t 13)),
 ⟨some 117, some (115, false), .ca (.func 36) [(t 116)]⟩,
 og 118 115 false (.un .not (t 117)),
 o 119 (.pick (t 115) (b true) (t 118)),
 o 120 (.mv (t 119)),
 og 121 120 false (.fa 0 (t 12)),
 og 122 120 false (.ld false 1 (t 121)),
 og 123 120 false (.mv (t 16)),
 og 124 120 false (.bin .neq (t 122) (t 123)),
 o 125 (.pick (t 120) (b true) (t 124)),
 o 126 (.mv (t 125)),
 og 127 126 false (.fa 0 (t 13)),
 og 128 126 false (.ld false 1 (t 127)),
 og 129 126 false (.mv (t 16)),
 og 130 126 false (.bin .neq (t 128) (t 129)),
 o 131 (.pick (t 126) (b true) (t 130)),
 o 132 (.mv (t 131)),
 og 133 132 false (.ld true 6 (t 12)),
 og 134 132 false (.ld true 6 (t 9)),
 og 135 132 false (.mv (t 7)),
 ⟨some 136, some (132, false), .ca (.func 38) [(t 133), (t 134), (t 135)]⟩,
 og 137 132 false (.un .not (t 136)),
 o 138 (.pick (t 132) (b true) (t 137)),
 o 139 (.mv (t 138)),
 og 140 139 false (.ld true 6 (t 13)),
 og 141 139 false (.ld true 6 (t 10)),
 og 142 139 false (.mv (t 8)),
 ⟨some 143, some (139, false), .ca (.func 38) [(t 140), (t 141), (t 142)]⟩,
 og 144 139 false (.un .not (t 143)),
 o 145 (.pick (t 139) (b true) (t 144))])
 (.cond (t 145)
 (.seq (.ops [o 4 (.mv (b false))])
 .ret)
 .skip))
 (.seq (.opd [o 146 (.ld true 6 (t 9)),
 o 147 (.mv (t 7)),
 o 148 (.mv (t 8)),
 o 149 (.bin .add (t 147) (t 148)),
 o 151 (.ld true 6 (t 10)),
 o 152 (.mv (t 8)),
 k 150 (.ca (.func 39) [(t 146), (i 14), (t 149)]),
 k 153 (.ca (.func 39) [(t 151), (i 14), (t 152)]),
 o 17 (.mv (t 150)),
 o 18 (.mv (t 153))])
 (.seq (.seq (.ops [o 19 (.mv (i 0))])
 (.block 6 (.loop (.seq (.seq (.ops [o 154 (.mv (t 19)),
 o 155 (.mv (t 17)),
 o 156 (.ln (t 155)),
 o 157 (.bin .lss (t 154) (t 156))])
 (.cond (t 157)
 .skip
 (.exit 6)))
 (.seq (.block 7 (.seq (.ops [o 20 (.mv (i 0))])
 (.block 8 (.loop (.seq (.seq (.ops [o 160 (.mv (t 20)),
 o 161 (.mv (t 18)),
 o 162 (.ln (t 161)),
 o 163 (.bin .lss (t 160) (t 162))])
 (.cond (t 163)
 .skip
 (.exit 8)))
 (.seq (.block 9 (.seq (.opq [o 167 (.mv (t 1)),
 o 168 (.mv (t 5)),
 o 169 (.mv (t 17)),
 o 170 (.mv (t 19)),
 o 171 (.ia 1 (t 169) (t 170)),
 o 172 (.ld false 1 (t 171)),
 o 173 (.mv (t 18)),
 o 174 (.mv (t 20)),
 o 175 (.ia 1 (t 173) (t 174)),
 o 176 (.ld false 1 (t 175)),
 k 177 (.ca (.func 44) [(t 167), (t 168), (t 172), (t 176)]),
 o 166 (.mv (t 177)),
 o 178 (.ex (t 166) 0),
 o 179 (.ex (t 166) 1),
 o 21 (.mv (t 178)),
 o 22 (.mv (t 179))])
 (.seq (.opq [o 180 (.mv (t 21)),
 o 181 (.bin .eql (t 180) (i 1)),
 o 182 (.mv (t 11)),
 o 183 (.eqb false (t 181) (t 182)),
 o 184 (.mv (t 183)),
 og 185 184 true (.ld true 6 (t 12)),
 og 186 184 true (.mv (t 17)),
 og 187 184 true (.mv (t 19)),
 og 188 184 true (.ia 1 (t 186) (t 187)),
 og 189 184 true (.ld false 1 (t 188)),
 ⟨some 190, some (184, true), .ca (.func 40) [(t 185), (t 189)]⟩,
 og 191 184 true (.un .not (t 190)),
 og 192 184 true (.mv (t 191)),
 og 193 192 false (.ld true 6 (t 13)),
 og 194 192 false (.mv (t 18)),
 og 195 192 false (.mv (t 20)),
 og 196 192 false (.ia 1 (t 194) (t 195)),
 og 197 192 false (.ld false 1 (t 196)),
 ⟨some 198, some (192, false), .ca (.func 40) [(t 193), (t 197)]⟩,
 og 199 192 false (.un .not (t 198)),
 og 200 184 true (.pick (t 192) (b true) (t 199)),
 o 201 (.pick (t 184) (t 200) (b false))])
 (.cond (t 201)
 (.seq (.ops [o 4 (.mv (b false))])
 .ret)
 .skip))))
 (.ops [o 164 (.mv (t 20)),
 o 165 (.bin .add (t 164) (i 1)),
 o 20 (.mv (t 165))])))))))
 (.ops [o 158 (.mv (t 19)),
 o 159 (.bin .add (t 158) (i 1)),
 o 19 (.mv (t 159))]))))))
 (.seq (.ops [o 203 (.ld true 6 (t 9)),
 k 204 (.ca (.func 62) [(t 203)]),
 o 202 (.mv (t 204)),
 o 205 (.ex (t 202) 0),
 o 206 (.ex (t 202) 1),
 o 23 (.mv (t 205)),
 o 24 (.mv (t 206))])
 (.seq (.ops [o 208 (.ld true 6 (t 10)),
 k 209 (.ca (.func 62) [(t 208)]),
 o 207 (.mv (t 209)),
 o 210 (.ex (t 207) 0),
 o 211 (.ex (t 207) 1),
 o 25 (.mv (t 210)),
 o 26 (.mv (t 211))])
 (.seq (.ops [o 212 (.mv (t 24)),
 o 213 (.mv (t 212)),
 og 214 213 true (.mv (t 26)),
 o 215 (.pick (t 213) (t 214) (b false))])
 (.cond (t 215)
 (.seq (.ops [o 217 (.mv (t 1)),
 o 218 (.mv (t 5)),
 o 219 (.mv (t 23)),
 o 220 (.mv (t 25)),
 k 221 (.ca (.func 44) [(t 217), (t 218), (t 219), (t 220)]),
 o 216 (.mv (t 221)),
 o 222 (.ex (t 216) 0),
 o 223 (.ex (t 216) 1),
 o 27 (.mv (t 222)),
 o 28 (.mv (t 223))])
 (.seq (.ops [o 224 (.mv (t 27)),
 o 225 (.bin .eql (t 224) (i 1)),
 o 226 (.mv (t 11)),
 o 227 (.eqb true (t 225) (t 226)),
 o 228 (.mv (t 227)),
 og 229 228 true (.ld true 6 (t 12)),
 ⟨some 230, some (228, true), .ca (.func 41) [(t 229), (i 0)]⟩,
 og 231 228 true (.bin .geq (t 230) (i 0)),
 og 232 228 true (.mv (t 231)),
 og 233 232 false (.ld true 6 (t 13)),
 ⟨some 234, some (232, false), .ca (.func 41) [(t 233), (i 0)]⟩,
 og 235 232 false (.bin .geq (t 234) (i 0)),
 og 236 228 true (.pick (t 232) (b true) (t 235)),
 o 237 (.pick (t 228) (t 236) (b false))])
 (.cond (t 237)
 (.seq (.ops [o 4 (.mv (b false))])
 .ret)
 .skip)))
 .skip)))))))))))))))
 (.ops [o 50 (.mv (t 8)),
 o 51 (.bin .add (t 50) (i 1)),
 o 8 (.mv (t 51))])))))))
 (.ops [o 43 (.mv (t 7)),
 o 44 (.bin .add (t 43) (i 1)),
 o 7 (.mv (t 44))]))))))))
 (.ops [o 33 (.mv (t 5)),
 o 34 (.bin .add (t 33) (i 1)),
 o 5 (.mv (t 34))]))))))
 (.seq (.ops [k 238 (.ca (.func 42) []),
 o 4 (.mv (t 238))])
 .ret))))⟩
theorem e33 : slimF Try.prog Try.f33 [[(0, []), (1, []), (2, []), (3, []), (4, [])], [(0, []), (1, []), (2, []), (3, []), (4, []), (5, []), (6, []), (7, []), (8, []), (9, []), (10, []), (11, []), (12, []), (13, []), (14, [59]), (15, []), (16, [])], [(0, []), (1, []), (2, []), (3, []), (5, []), (6, []), (4, []), (7, []), (8, []), (9, [])], [(0, []), (1, []), (2, []), (3, []), (4, []), (5, []), (6, []), (7, []), (8, []), (9, []), (10, []), (11, []), (12, []), (13, []), (14, []), (15, [])], [(0, []), (1, []), (2, []), (3, []), (4, []), (5, []), (6, []), (7, []), (8, []), (9, []), (10, []), (11, []), (12, []), (13, []), (14, []), (15, []), (16, []), (17, []), (18, []), (19, []), (20, []), (21, [])]] = some c33 := by kernel_rfl
/-- cellar/cellarlaw5.sets -/
def c45 : SF := ⟨97, [.t 4], (.seq (.ops [k 2 (.bx 27 (t 0)),
 o 4 (.mv (.const (.slice none 0 0)))])
 (.seq (.ops [o 5 (.mv (.const (.slice none 0 0)))])
 (.seq (.seq (.ops [o 6 (.mv (i 0))])
 (.block 0 (.loop (.seq (.seq (.ops [o 9 (.mv (t 6)),
 o 10 (.fa 0 (t 2)),
 o 11 (.ld false 1 (t 10)),
 o 12 (.ln (t 11)),
 o 13 (.bin .lss (t 9) (t 12)),
 o 14 (.mv (t 13)),
 og 15 14 true (.mv (t 5)),
 og 16 14 true (.ln (t 15)),
 og 17 14 true (.bin .lss (t 16) (i 4)),
 o 18 (.pick (t 14) (t 17) (b false))])
 (.cond (t 18)
 .skip
 (.exit 0)))
 (.seq (.block 1 (.seq (.ops [o 21 (.fa 0 (t 2)),
 o 22 (.ld false 1 (t 21)),
 o 23 (.mv (t 6)),
 o 24 (.ia 6 (t 22) (t 23)),
 o 25 (.fa 0 (t 24)),
 o 26 (.ld false 1 (t 25)),
 o 27 (.mv (t 1)),
 o 28 (.bin .eql (t 26) (t 27)),
 o 29 (.mv (t 28)),
 og 30 29 false (.mv (t 6)),
 og 31 29 false (.bin .rem (t 30) (i 5)),
 og 32 29 false (.bin .eql (t 31) (i 4)),
 o 33 (.pick (t 29) (b true) (t 32))])
 (.cond (t 33)
 (.ops [o 34 (.mv (t 5)),
 o 35 (.fa 0 (t 2)),
 o 36 (.ld false 1 (t 35)),
 o 37 (.mv (t 6)),
 o 38 (.ia 6 (t 36) (t 37)),
 o 39 (.ld true 6 (t 38)),
 k 40 (.bs 34 1 [.int .i64 0, .bool false, .int .i64 0, .int .i64 0, .int .i64 0, .int .i64 0] [(0, 6, (t 39))]),
 k 41 (.ap 34 6 48 (t 34) (t 40)),
 o 5 (.mv (t 41))])
 .skip)))
 (.ops [o 19 (.mv (t 6)),
 o 20 (.bin .add (t 19) (i 1)),
 o 6 (.mv (t 20))]))))))
 (.seq (.seq (.ops [o 42 (.mv (t 1)),
 o 43 (.bin .eql (t 42) (i 0))])
 (.cond (t 43)
 (.seq (.ops [o 44 (.mv (t 5)),
 k 45 (.ca (.func 81) [(i 8)]),
 k 46 (.bs 34 1 [.int .i64 0, .bool false, .int .i64 0, .int .i64 0, .int .i64 0, .int .i64 0] [(0, 6, (t 45))]),
 k 47 (.ap 34 6 48 (t 44) (t 46)),
 o 4 (.mv (t 47))])
 .ret)
 .skip))
 (.seq (.opq [o 48 (.mv (t 5)),
 o 49 (.mv (t 1)),
 o 51 (.mv (t 1)),
 o 53 (.mv (t 1)),
 o 55 (.mv (t 1)),
 o 56 (.mv (t 1)),
 o 57 (.bin .sub (t 56) (i 1)),
 o 58 (.bin .shl (i 1) (t 57)),
 k 50 (.ca (.func 81) [(t 49)]),
 k 52 (.ca (.func 89) [(t 51)]),
 k 54 (.ca (.func 82) [(t 53), (i 0)]),
 k 59 (.ca (.func 82) [(t 55), (t 58)]),
 k 60 (.bs 34 4 [.int .i64 0, .bool false, .int .i64 0, .int .i64 0, .int .i64 0, .int .i64 0, .int .i64 0, .bool false, .int .i64 0, .int .i64 0, .int .i64 0, .int .i64 0, .int .i64 0, .bool false, .int .i64 0, .int .i64 0, .int .i64 0, .int .i64 0, .int .i64 0, .bool false, .int .i64 0, .int .i64 0, .int .i64 0, .int .i64 0] [(0, 6, (t 50)), (6, 6, (t 52)), (12, 6, (t 54)), (18, 6, (t 59))]),
 k 61 (.ap 34 6 48 (t 48) (t 60)),
 o 5 (.mv (t 61))])
 (.seq (.seq (.ops [o 7 (.mv (i 0))])
 (.block 2 (.loop (.seq (.seq (.ops [o 62 (.mv (t 7)),
 o 63 (.fa 1 (t 2)),
 o 64 (.ld false 1 (t 63)),
 o 65 (.ln (t 64)),
 o 66 (.bin .lss (t 62) (t 65)),
 o 67 (.mv (t 66)),
 og 68 67 true (.mv (t 7)),
 og 69 67 true (.bin .lss (t 68) (i 2)),
 o 70 (.pick (t 67) (t 69) (b false))])
 (.cond (t 70)
 .skip
 (.exit 2)))
 (.seq (.block 3 (.seq (.ops [o 73 (.fa 1 (t 2)),
 o 74 (.ld false 1 (t 73)),
 o 75 (.mv (t 7)),
 o 76 (.ia 1 (t 74) (t 75)),
 o 77 (.ld false 1 (t 76)),
 o 78 (.mv (t 1)),
 k 79 (.ca (.func 57) [(t 77), (t 78)]),
 o 8 (.mv (t 79))])
 (.opq [o 80 (.mv (t 5)),
 o 81 (.mv (t 1)),
 o 82 (.mv (t 8)),
 o 84 (.mv (t 1)),
 o 85 (.mv (t 8)),
 o 86 (.mv (t 8)),
 o 87 (.bin .add (t 86) (i 9)),
 o 88 (.mv (t 1)),
 o 90 (.mv (t 1)),
 o 91 (.bin .shl (i 1) (t 90)),
 o 92 (.bin .sub (t 91) (i 1)),
 k 83 (.ca (.func 82) [(t 81), (t 82)]),
 k 89 (.ca (.func 57) [(t 87), (t 88)]),
 o 93 (.bd [.int .i64 0, .bool false, .int .i64 0, .int .i64 0, .int .i64 0, .int .i64 0] [(0, 1, (t 84)), (2, 1, (t 85)), (3, 1, (t 89)), (4, 1, (t 92))]),
 k 94 (.bs 34 2 [.int .i64 0, .bool false, .int .i64 0, .int .i64 0, .int .i64 0, .int .i64 0, .int .i64 0, .bool false, .int .i64 0, .int .i64 0, .int .i64 0, .int .i64 0] [(0, 6, (t 83)), (6, 6, (t 93))]),
 k 95 (.ap 34 6 48 (t 80) (t 94)),
 o 5 (.mv (t 95))])))
 (.ops [o 71 (.mv (t 7)),
 o 72 (.bin .add (t 71) (i 1)),
 o 7 (.mv (t 72))]))))))
 (.seq (.ops [o 96 (.mv (t 5)),
 o 4 (.mv (t 96))])
 .ret)))))))⟩
theorem e45 : slimF Try.prog Try.f45 [[(0, []), (1, []), (3, []), (5, []), (7, []), (8, []), (9, []), (10, []), (2, []), (4, []), (6, []), (11, []), (12, []), (13, []), (14, [])], [(0, []), (1, []), (2, []), (4, []), (5, []), (6, []), (7, []), (8, []), (10, []), (11, []), (12, []), (3, []), (9, []), (13, []), (14, []), (15, []), (16, [])]] = some c45 := by kernel_rfl
end Go.Proofs.Try.S
/- Contract: the sets of a width that are played. -/
namespace Go.Proofs.Try.K
open Go Go.Ax Go.Proofs.Try.S
set_option maxRecDepth 100000
set_option linter.unusedSimpArgs false
set_option linter.unusedVariables false
set_option maxHeartbeats 2000000
variable (F : Fz) (M : Hp)

theorem own_ne {e : TypeId} {F : Fz} {M : Hp} {l : List V} {g n c r : Nat} {x : Ent} (h : OwnV e F M (.slice (some ⟨g, 0, none⟩) n c) l) (hr : M r = some x) (hx : ¬ x.elem = e) : ¬ r = g := by
  rcases h with ⟨h, _⟩ | ⟨g', cap, h, _, h3, _⟩
  · cases h
  · cases h
    rintro rfl
    rw [hr] at h3; cases h3; exact hx rfl
/-- A row of the call's own, on the way. -/
structure Mine (e : TypeId) (F : Fz) (M0 M : Hp) (u : Value) (l : List V) : Prop where
  own : OwnV e F M u l
  new : ∀ g n c, u = .slice (some ⟨g, 0, none⟩) n c → M0 g = none
theorem Mine.nil (e : TypeId) (F : Fz) (M0 M : Hp) : Mine e F M0 M (.slice none 0 0) [] := ⟨.inl ⟨rfl, rfl⟩, fun g n c h => by cases h⟩
/-- More sets behind such a row; what else there is, is kept. -/
theorem apM_of {P : Program} {s : Bool} {d : Option Nat} {l : List SO} {K : Env → Fz → Hp → Prop} {σ : Env} {F : Fz} {M0 M : Hp} {e : TypeId} {v u : Value} {xs ys : List V}
    (h : Mine e F M0 M v xs) (kp : Keep M0 M) (hold : Old F M) {r : Nat} {x : Ent} (hr : M r = some x) (hx : ¬ x.elem = e) {rb : Nat} {eb : Ent} (hFb : F rb = none) (hMb : M rb = none) (hs : Src F (M.upd rb eb) 6 u ys.length (ys.flatMap V.cs)) (hy : 0 < ys.length) (hb : xs.length + ys.length ≤ 1000000)
    (hk : ∀ v' M', Keep M0 M' → Old F M' → M' r = some x → Mine e F M0 M' v' (xs ++ ys) → opsW P s l K (put σ d v') F M') :
    apK P s d l K σ F (M.upd rb eb) e 6 48 (some v) (some u) := by
  refine apV_of (h.own.new hMb) hs hy hb ?_
  rintro g cap M2 hgo rfl own2
  have gn : ¬ r = g := by
    rcases hgo with h1 | ⟨c, rfl⟩
    · exact (ne_of_none (fresh_of h1).2.2 hr).1
    · exact own_ne h.own hr hx
  have gF : F g = none := by
    rcases own2 with ⟨h, _⟩ | ⟨g', cap', h, hF', _⟩
    · cases h
    · cases h; exact hF'
  have g0 : M0 g = none := by
    rcases hgo with h1 | ⟨c, rfl⟩
    · exact kp.free (fresh_of h1).2.2
    · exact h.new _ _ _ rfl
  refine hk _ _ ((kp.new (kp.free hMb)).new g0) ((hold.upd hFb).upd gF) ?_ ⟨own2, fun g' n c h => by cases h; exact g0⟩
  rw [Hp.upd_ne' gn, Hp.upd_ne' (ne_of_none hMb hr).1]; exact hr
def setsR (F : Fz) (M : Hp) (u : Value) (F' : Fz) (M' : Hp) : Prop :=
  F' = F ∧ ∃ (L : List V) (g cap : Nat), L.length ≤ 100 ∧ L.length ≤ cap ∧ u = .slice (some ⟨g, 0, none⟩) L.length cap ∧ F g = none ∧ M g = none ∧ M' = M.upd g ⟨L.flatMap V.cs, 34, cap * 6⟩
theorem Mine.done {F : Fz} {M0 M : Hp} {u : Value} {l : List V} (h : Mine 34 F M0 M u l) (kp : Keep M0 M) (hne : l ≠ []) (hl : l.length ≤ 100) : endK F M (setsR F M0) u := by
  rcases h.own with ⟨h1, h2⟩ | ⟨g, cap, rfl, h2, h3, h4, h5⟩
  · exact absurd h2 hne
  · exact endK_keep (kp.one h3) ⟨rfl, l, g, cap, hl, h4, rfl, h2, h.new _ _ _ rfl, rfl⟩
structure S0 (F0 : Fz) (M0 : Hp) (r2 : Nat) (ask : List Value) (w : Int) (σ : Env) (F : Fz) (M : Hp) : Prop where
  f : F = F0
  kp : Keep M0 M
  old : Old F0 M
  fr : M r2 = some ⟨ask, 27, 2⟩
  h1 : Ax.look σ 1 = some (.int .i64 w)
  h2 : Ax.look σ 2 = some (.pointer (some ⟨r2, 0, none⟩))
theorem S0.ext {F0 : Fz} {M0 : Hp} {r2 : Nat} {ask : List Value} {w : Int} {σ σ' : Env} {F : Fz} {M : Hp} (s : S0 F0 M0 r2 ask w σ F M) (e1 : Ax.look σ' 1 = Ax.look σ 1) (e2 : Ax.look σ' 2 = Ax.look σ 2) : S0 F0 M0 r2 ask w σ' F M :=
  ⟨s.f, s.kp, s.old, s.fr, e1.trans s.h1, e2.trans s.h2⟩
def cI (F0 : Fz) (M0 : Hp) (r2 : Nat) (ask : List Value) (w : Int) (n : Nat) (σ : Env) (F : Fz) (M : Hp) : Prop :=
  S0 F0 M0 r2 ask w σ F M ∧ ∃ (sl : Value) (l : List V), Ax.look σ 5 = some sl ∧ Mine 34 F0 M0 M sl l ∧ l.length ≤ n
def cI2 (F0 : Fz) (M0 : Hp) (r2 : Nat) (ask : List Value) (w : Int) (n : Nat) (σ : Env) (F : Fz) (M : Hp) : Prop :=
  S0 F0 M0 r2 ask w σ F M ∧ ∃ (sl : Value) (l : List V), Ax.look σ 5 = some sl ∧ Mine 34 F0 M0 M sl l ∧ l.length ≤ n ∧ l ≠ []
def vI (F0 : Fz) (M0 : Hp) (r2 : Nat) (ask : List Value) (w : Int) (slot n c k : Nat) (m : Nat) (σ : Env) (F : Fz) (M : Hp) : Prop :=
  S0 F0 M0 r2 ask w σ F M ∧ ∃ (i : Nat) (sl : Value) (l : List V), i + m = n ∧ Ax.look σ slot = some (.int .i64 i) ∧ Ax.look σ 5 = some sl ∧ Mine 34 F0 M0 M sl l ∧ l.length ≤ c + k * i ∧ l.length ≤ c + 4 ∧ (c = 8 → l ≠ [])
theorem k45 (w : Int) (uV uN : Value) (lv : List V) (ln : List Int) (hw : w = 0 ∨ isW w = true) (hold : Old F M) (hV : RdV F M uV lv) (hN : RdI F M uN ln) :
    CallsA Try.prog 45 [.agg #[uV, uN], .int .i64 w] F M (setsR F M) := by
  refine callsA_of hm Try.func45 e45 (Nat.le_of_ble_eq_true rfl) ?_
  have hV0 := hV
  have hN0 := hN
  obtain ⟨hlv, aV, cV, hcV, rfl, _⟩ := hV
  obtain ⟨hln, aN, cN, rfl, _⟩ := hN
  simp only [c45, go_sem, reduceCtorEq, reduceIte, Nat.reduceEqDiff, Nat.reduceAdd, Nat.reduceLeDiff, Nat.reduceMul, Int.reduceLT, Int.reduceLE, Int.reduceAdd, Int.reduceSub, Int.reduceMul, Int.reduceNeg, Int.reduceToNat, Int.reduceEq]
  intro r2 hF2 hM2
  simp only [go_sem, reduceCtorEq, reduceIte, Nat.reduceEqDiff, Nat.reduceAdd, Nat.reduceLeDiff, Nat.reduceMul, Int.reduceLT, Int.reduceLE, Int.reduceAdd, Int.reduceSub, Int.reduceMul, Int.reduceNeg, Int.reduceToNat, Int.reduceEq]
  refine block_cut (cI F M r2 [.slice aV lv.length cV, .slice aN ln.length cN] w 4) ?_ ?_
  · refine loop_of (vI F M r2 [.slice aV lv.length cV, .slice aN ln.length cN] w 6 lv.length 0 1) lv.length ?_ ?_
    · exact ⟨⟨rfl, (Keep.refl M).new hM2, hold.upd hF2, Hp.upd_same _ _ _, by simp only [go_sem, reduceCtorEq, reduceIte, Nat.reduceEqDiff, Nat.reduceAdd, Nat.reduceLeDiff, Nat.reduceMul, Int.reduceLT, Int.reduceLE, Int.reduceAdd, Int.reduceSub, Int.reduceMul, Int.reduceNeg, Int.reduceToNat, Int.reduceEq], by simp only [go_sem, reduceCtorEq, reduceIte, Nat.reduceEqDiff, Nat.reduceAdd, Nat.reduceLeDiff, Nat.reduceMul, Int.reduceLT, Int.reduceLE, Int.reduceAdd, Int.reduceSub, Int.reduceMul, Int.reduceNeg, Int.reduceToNat, Int.reduceEq]⟩, 0, _, [], by omega, by simp only [go_sem, reduceCtorEq, reduceIte, Nat.reduceEqDiff, Nat.reduceAdd, Nat.reduceLeDiff, Nat.reduceMul, Int.reduceLT, Int.reduceLE, Int.reduceAdd, Int.reduceSub, Int.reduceMul, Int.reduceNeg, Int.reduceToNat, Int.reduceEq] <;> rfl, by simp only [go_sem, reduceCtorEq, reduceIte, Nat.reduceEqDiff, Nat.reduceAdd, Nat.reduceLeDiff, Nat.reduceMul, Int.reduceLT, Int.reduceLE, Int.reduceAdd, Int.reduceSub, Int.reduceMul, Int.reduceNeg, Int.reduceToNat, Int.reduceEq], Mine.nil _ _ _ _, by simp, by simp, by omega⟩
    rintro m σ F' M' ⟨s, i, sl, l, hi, h6, h5, mine, hll, hl4, _⟩
    obtain rfl := s.f
    have br := blk_M (F := F') s.fr
    have hsl : ∃ ad cap, sl = .slice ad l.length cap := by
      rcases mine.own with ⟨h1, h2⟩ | ⟨g, cap, h1, _⟩
      · exact ⟨none, 0, by rw [h1, h2]; rfl⟩
      · exact ⟨_, _, h1⟩
    obtain ⟨ad, cap, rfl⟩ := hsl
    have ei : IntKind.i64.wrap ((i : Int) + 1) = i + 1 := w64 (by omega) (by omega)
    by_cases hil : (i : Int) < lv.length
    rotate_left
    · simp only [go_sem, reduceCtorEq, reduceIte, Nat.reduceEqDiff, Nat.reduceAdd, Nat.reduceLeDiff, Nat.reduceMul, Int.reduceLT, Int.reduceLE, Int.reduceAdd, Int.reduceSub, Int.reduceMul, Int.reduceNeg, Int.reduceToNat, Int.reduceEq, s.h1, s.h2, h5, h6, br, hil]
      exact ⟨s.ext (by simp only [go_sem, reduceCtorEq, reduceIte, Nat.reduceEqDiff, Nat.reduceAdd, Nat.reduceLeDiff, Nat.reduceMul, Int.reduceLT, Int.reduceLE, Int.reduceAdd, Int.reduceSub, Int.reduceMul, Int.reduceNeg, Int.reduceToNat, Int.reduceEq]) (by simp only [go_sem, reduceCtorEq, reduceIte, Nat.reduceEqDiff, Nat.reduceAdd, Nat.reduceLeDiff, Nat.reduceMul, Int.reduceLT, Int.reduceLE, Int.reduceAdd, Int.reduceSub, Int.reduceMul, Int.reduceNeg, Int.reduceToNat, Int.reduceEq]), _, l, by simp only [go_sem, reduceCtorEq, reduceIte, Nat.reduceEqDiff, Nat.reduceAdd, Nat.reduceLeDiff, Nat.reduceMul, Int.reduceLT, Int.reduceLE, Int.reduceAdd, Int.reduceSub, Int.reduceMul, Int.reduceNeg, Int.reduceToNat, Int.reduceEq, h5], mine, by omega⟩
    by_cases hl3 : (l.length : Int) < 4
    rotate_left
    · simp only [go_sem, reduceCtorEq, reduceIte, Nat.reduceEqDiff, Nat.reduceAdd, Nat.reduceLeDiff, Nat.reduceMul, Int.reduceLT, Int.reduceLE, Int.reduceAdd, Int.reduceSub, Int.reduceMul, Int.reduceNeg, Int.reduceToNat, Int.reduceEq, s.h1, s.h2, h5, h6, br, hil, hl3]
      exact ⟨s.ext (by simp only [go_sem, reduceCtorEq, reduceIte, Nat.reduceEqDiff, Nat.reduceAdd, Nat.reduceLeDiff, Nat.reduceMul, Int.reduceLT, Int.reduceLE, Int.reduceAdd, Int.reduceSub, Int.reduceMul, Int.reduceNeg, Int.reduceToNat, Int.reduceEq]) (by simp only [go_sem, reduceCtorEq, reduceIte, Nat.reduceEqDiff, Nat.reduceAdd, Nat.reduceLeDiff, Nat.reduceMul, Int.reduceLT, Int.reduceLE, Int.reduceAdd, Int.reduceSub, Int.reduceMul, Int.reduceNeg, Int.reduceToNat, Int.reduceEq]), _, l, by simp only [go_sem, reduceCtorEq, reduceIte, Nat.reduceEqDiff, Nat.reduceAdd, Nat.reduceLeDiff, Nat.reduceMul, Int.reduceLT, Int.reduceLE, Int.reduceAdd, Int.reduceSub, Int.reduceMul, Int.reduceNeg, Int.reduceToNat, Int.reduceEq, h5], mine, by omega⟩
    have hi0 : (0 : Int) ≤ i := by omega
    have hi' : i < lv.length := by omega
    have hV1 := hV0.keep s.kp s.old
    obtain ⟨_, aV', cV', _, eV, hV1⟩ := hV1
    cases eV
    rcases hV1 with h | ⟨b, o, cs, rfl, hb, hc⟩
    · rw [h] at hi'; simp at hi'
    obtain ⟨d1, d2⟩ := hc i hi'
    generalize lv[i] = va at d2
    have d3 : cs[o + i * 6]? = some (.int .i64 va.w) := by
      have := congrArg (fun t => t[0]?) d2
      simpa [V.cs] using this
    have m1 : (i : Int).tmod 5 = (i : Int) % 5 := Int.tmod_eq_emod_of_nonneg (by omega)
    have n5 : ¬ (5 : Int) = 0 := by decide
    have nxt : ∀ σ' (M2 : Hp) (v' : Value) (l' : List V), Ax.look σ' 1 = Ax.look σ 1 → Ax.look σ' 2 = Ax.look σ 2 → Ax.look σ' 5 = some v' → Ax.look σ' 6 = some (.int .i64 (i + 1)) → Keep M M2 → Old F' M2 → M2 r2 = some ⟨[.slice (some ⟨b, o, none⟩) lv.length cV, .slice aN ln.length cN], 27, 2⟩ → Mine 34 F' M M2 v' l' → l'.length ≤ l.length + 1 →
        ∃ m', m' < m ∧ vI F' M r2 [.slice (some ⟨b, o, none⟩) lv.length cV, .slice aN ln.length cN] w 6 lv.length 0 1 m' σ' F' M2 := by
      intro σ' M2 v' l' e1 e2 e5 e6 k o' f mi hl'
      exact ⟨m - 1, by omega, ⟨rfl, k, o', f, e1.trans s.h1, e2.trans s.h2⟩, i + 1, v', l', by omega, e6, e5, mi, by omega, by omega, by omega⟩
    by_cases hc1 : va.w = w ∨ (i : Int) % 5 = 4
    · have hst : ∀ (K : Env → Fz → Hp → Prop), True := fun _ => trivial
      by_cases hvw : va.w = w
      · simp only [go_sem, reduceCtorEq, reduceIte, Nat.reduceEqDiff, Nat.reduceAdd, Nat.reduceLeDiff, Nat.reduceMul, Int.reduceLT, Int.reduceLE, Int.reduceAdd, Int.reduceSub, Int.reduceMul, Int.reduceNeg, Int.reduceToNat, Int.reduceEq, s.h1, s.h2, h5, h6, br, hil, hl3, hi0, Int.toNat_natCast, Nat.add_zero, hb, d3, d1, d2, hvw, m1, n5, not_false_eq_true]
        intro rb hFb hMb
        simp only [go_sem, reduceCtorEq, reduceIte, Nat.reduceEqDiff, Nat.reduceAdd, Nat.reduceLeDiff, Nat.reduceMul, Int.reduceLT, Int.reduceLE, Int.reduceAdd, Int.reduceSub, Int.reduceMul, Int.reduceNeg, Int.reduceToNat, Int.reduceEq, s.h1, s.h2, h5, h6]
        refine apM_of mine s.kp s.old s.fr (by simp) hFb hMb (ys := [va]) ⟨rfl, .inr ⟨⟨rb, 0, none⟩, 1, rfl, .inr ⟨rb, 0, _, rfl, blk_upd_same, by simp [V.cs]⟩⟩⟩ (by simp) (by simp; omega) ?_
        intro v' M2 k2 o2 f2 m2
        simp only [go_sem, reduceCtorEq, reduceIte, Nat.reduceEqDiff, Nat.reduceAdd, Nat.reduceLeDiff, Nat.reduceMul, Int.reduceLT, Int.reduceLE, Int.reduceAdd, Int.reduceSub, Int.reduceMul, Int.reduceNeg, Int.reduceToNat, Int.reduceEq, s.h1, s.h2, h5, h6, ei]
        exact nxt _ _ _ _ (by simp only [go_sem, reduceCtorEq, reduceIte, Nat.reduceEqDiff, Nat.reduceAdd, Nat.reduceLeDiff, Nat.reduceMul, Int.reduceLT, Int.reduceLE, Int.reduceAdd, Int.reduceSub, Int.reduceMul, Int.reduceNeg, Int.reduceToNat, Int.reduceEq]) (by simp only [go_sem, reduceCtorEq, reduceIte, Nat.reduceEqDiff, Nat.reduceAdd, Nat.reduceLeDiff, Nat.reduceMul, Int.reduceLT, Int.reduceLE, Int.reduceAdd, Int.reduceSub, Int.reduceMul, Int.reduceNeg, Int.reduceToNat, Int.reduceEq]) (by simp only [go_sem, reduceCtorEq, reduceIte, Nat.reduceEqDiff, Nat.reduceAdd, Nat.reduceLeDiff, Nat.reduceMul, Int.reduceLT, Int.reduceLE, Int.reduceAdd, Int.reduceSub, Int.reduceMul, Int.reduceNeg, Int.reduceToNat, Int.reduceEq] <;> rfl) (by simp only [go_sem, reduceCtorEq, reduceIte, Nat.reduceEqDiff, Nat.reduceAdd, Nat.reduceLeDiff, Nat.reduceMul, Int.reduceLT, Int.reduceLE, Int.reduceAdd, Int.reduceSub, Int.reduceMul, Int.reduceNeg, Int.reduceToNat, Int.reduceEq]) k2 o2 f2 m2 (by simp)
      · have h4 : (i : Int) % 5 = 4 := by rcases hc1 with h | h; exact absurd h hvw; exact h
        simp only [go_sem, reduceCtorEq, reduceIte, Nat.reduceEqDiff, Nat.reduceAdd, Nat.reduceLeDiff, Nat.reduceMul, Int.reduceLT, Int.reduceLE, Int.reduceAdd, Int.reduceSub, Int.reduceMul, Int.reduceNeg, Int.reduceToNat, Int.reduceEq, s.h1, s.h2, h5, h6, br, hil, hl3, hi0, Int.toNat_natCast, Nat.add_zero, hb, d3, d1, d2, hvw, m1, n5, h4, not_false_eq_true]
        intro rb hFb hMb
        simp only [go_sem, reduceCtorEq, reduceIte, Nat.reduceEqDiff, Nat.reduceAdd, Nat.reduceLeDiff, Nat.reduceMul, Int.reduceLT, Int.reduceLE, Int.reduceAdd, Int.reduceSub, Int.reduceMul, Int.reduceNeg, Int.reduceToNat, Int.reduceEq, s.h1, s.h2, h5, h6]
        refine apM_of mine s.kp s.old s.fr (by simp) hFb hMb (ys := [va]) ⟨rfl, .inr ⟨⟨rb, 0, none⟩, 1, rfl, .inr ⟨rb, 0, _, rfl, blk_upd_same, by simp [V.cs]⟩⟩⟩ (by simp) (by simp; omega) ?_
        intro v' M2 k2 o2 f2 m2
        simp only [go_sem, reduceCtorEq, reduceIte, Nat.reduceEqDiff, Nat.reduceAdd, Nat.reduceLeDiff, Nat.reduceMul, Int.reduceLT, Int.reduceLE, Int.reduceAdd, Int.reduceSub, Int.reduceMul, Int.reduceNeg, Int.reduceToNat, Int.reduceEq, s.h1, s.h2, h5, h6, ei]
        exact nxt _ _ _ _ (by simp only [go_sem, reduceCtorEq, reduceIte, Nat.reduceEqDiff, Nat.reduceAdd, Nat.reduceLeDiff, Nat.reduceMul, Int.reduceLT, Int.reduceLE, Int.reduceAdd, Int.reduceSub, Int.reduceMul, Int.reduceNeg, Int.reduceToNat, Int.reduceEq]) (by simp only [go_sem, reduceCtorEq, reduceIte, Nat.reduceEqDiff, Nat.reduceAdd, Nat.reduceLeDiff, Nat.reduceMul, Int.reduceLT, Int.reduceLE, Int.reduceAdd, Int.reduceSub, Int.reduceMul, Int.reduceNeg, Int.reduceToNat, Int.reduceEq]) (by simp only [go_sem, reduceCtorEq, reduceIte, Nat.reduceEqDiff, Nat.reduceAdd, Nat.reduceLeDiff, Nat.reduceMul, Int.reduceLT, Int.reduceLE, Int.reduceAdd, Int.reduceSub, Int.reduceMul, Int.reduceNeg, Int.reduceToNat, Int.reduceEq] <;> rfl) (by simp only [go_sem, reduceCtorEq, reduceIte, Nat.reduceEqDiff, Nat.reduceAdd, Nat.reduceLeDiff, Nat.reduceMul, Int.reduceLT, Int.reduceLE, Int.reduceAdd, Int.reduceSub, Int.reduceMul, Int.reduceNeg, Int.reduceToNat, Int.reduceEq]) k2 o2 f2 m2 (by simp)
    · have hvw : ¬ va.w = w := fun h => hc1 (.inl h)
      have h4 : ¬ (i : Int) % 5 = 4 := fun h => hc1 (.inr h)
      simp only [go_sem, reduceCtorEq, reduceIte, Nat.reduceEqDiff, Nat.reduceAdd, Nat.reduceLeDiff, Nat.reduceMul, Int.reduceLT, Int.reduceLE, Int.reduceAdd, Int.reduceSub, Int.reduceMul, Int.reduceNeg, Int.reduceToNat, Int.reduceEq, s.h1, s.h2, h5, h6, br, hil, hl3, hi0, Int.toNat_natCast, Nat.add_zero, hb, d3, d1, d2, hvw, m1, n5, h4, ei, not_false_eq_true]
      exact nxt _ _ _ _ (by simp only [go_sem, reduceCtorEq, reduceIte, Nat.reduceEqDiff, Nat.reduceAdd, Nat.reduceLeDiff, Nat.reduceMul, Int.reduceLT, Int.reduceLE, Int.reduceAdd, Int.reduceSub, Int.reduceMul, Int.reduceNeg, Int.reduceToNat, Int.reduceEq]) (by simp only [go_sem, reduceCtorEq, reduceIte, Nat.reduceEqDiff, Nat.reduceAdd, Nat.reduceLeDiff, Nat.reduceMul, Int.reduceLT, Int.reduceLE, Int.reduceAdd, Int.reduceSub, Int.reduceMul, Int.reduceNeg, Int.reduceToNat, Int.reduceEq]) (by simp only [go_sem, reduceCtorEq, reduceIte, Nat.reduceEqDiff, Nat.reduceAdd, Nat.reduceLeDiff, Nat.reduceMul, Int.reduceLT, Int.reduceLE, Int.reduceAdd, Int.reduceSub, Int.reduceMul, Int.reduceNeg, Int.reduceToNat, Int.reduceEq, h5] <;> rfl) (by simp only [go_sem, reduceCtorEq, reduceIte, Nat.reduceEqDiff, Nat.reduceAdd, Nat.reduceLeDiff, Nat.reduceMul, Int.reduceLT, Int.reduceLE, Int.reduceAdd, Int.reduceSub, Int.reduceMul, Int.reduceNeg, Int.reduceToNat, Int.reduceEq]) s.kp s.old s.fr mine (by omega)
  rintro σ F' M' ⟨s, sl, l, h5, mine, hl4⟩
  obtain rfl := s.f
  rw [then_n]
  have hl6 : l.length ≤ 4 := hl4
  by_cases hw0 : w = 0
  · have e8 := k81 F' M' 8 (by decide) (by decide)
    simp only [go_sem, reduceCtorEq, reduceIte, Nat.reduceEqDiff, Nat.reduceAdd, Nat.reduceLeDiff, Nat.reduceMul, Int.reduceLT, Int.reduceLE, Int.reduceAdd, Int.reduceSub, Int.reduceMul, Int.reduceNeg, Int.reduceToNat, Int.reduceEq, s.h1, s.h2, h5, hw0]
    refine callK_same e8 ?_
    simp only [go_sem, reduceCtorEq, reduceIte, Nat.reduceEqDiff, Nat.reduceAdd, Nat.reduceLeDiff, Nat.reduceMul, Int.reduceLT, Int.reduceLE, Int.reduceAdd, Int.reduceSub, Int.reduceMul, Int.reduceNeg, Int.reduceToNat, Int.reduceEq, s.h1, s.h2, h5]
    intro rb hFb hMb
    simp only [go_sem, reduceCtorEq, reduceIte, Nat.reduceEqDiff, Nat.reduceAdd, Nat.reduceLeDiff, Nat.reduceMul, Int.reduceLT, Int.reduceLE, Int.reduceAdd, Int.reduceSub, Int.reduceMul, Int.reduceNeg, Int.reduceToNat, Int.reduceEq, s.h1, s.h2, h5]
    refine apM_of mine s.kp s.old s.fr (by simp) hFb hMb (ys := [V.whole 8]) ⟨rfl, .inr ⟨⟨rb, 0, none⟩, 1, rfl, .inr ⟨rb, 0, _, rfl, blk_upd_same, by simp [V.cs]⟩⟩⟩ (by simp) (by simp; omega) ?_
    intro v' M2 k2 o2 f2 m2
    simp only [go_sem, reduceCtorEq, reduceIte, Nat.reduceEqDiff, Nat.reduceAdd, Nat.reduceLeDiff, Nat.reduceMul, Int.reduceLT, Int.reduceLE, Int.reduceAdd, Int.reduceSub, Int.reduceMul, Int.reduceNeg, Int.reduceToNat, Int.reduceEq, s.h1, s.h2, h5]
    exact m2.done k2 (by simp) (by simp; omega)
  have isw : isW w = true := by rcases hw with h | h; exact absurd h hw0; exact h
  have lw := isW_le isw
  have hp := pow_w isw
  have w1 : IntKind.i64.wrap (w - 1) = w - 1 := w64 (by omega) (by omega)
  have c0 : ¬ w - 1 < 0 := by omega
  have c1 : ¬ w < 0 := by omega
  have e1 : shlv .i64 1 (w - 1) = halfV w := shl1 (by omega) (by omega)
  simp only [go_sem, reduceCtorEq, reduceIte, Nat.reduceEqDiff, Nat.reduceAdd, Nat.reduceLeDiff, Nat.reduceMul, Int.reduceLT, Int.reduceLE, Int.reduceAdd, Int.reduceSub, Int.reduceMul, Int.reduceNeg, Int.reduceToNat, Int.reduceEq, s.h1, s.h2, h5, hw0, w1, c0, e1, not_false_eq_true]
  refine callK_same (k81 _ _ w lw.1 lw.2) ?_
  simp only [go_sem, reduceCtorEq, reduceIte, Nat.reduceEqDiff, Nat.reduceAdd, Nat.reduceLeDiff, Nat.reduceMul, Int.reduceLT, Int.reduceLE, Int.reduceAdd, Int.reduceSub, Int.reduceMul, Int.reduceNeg, Int.reduceToNat, Int.reduceEq, s.h1, s.h2, h5]
  refine callK_same (k89 _ _ w) ?_
  simp only [go_sem, reduceCtorEq, reduceIte, Nat.reduceEqDiff, Nat.reduceAdd, Nat.reduceLeDiff, Nat.reduceMul, Int.reduceLT, Int.reduceLE, Int.reduceAdd, Int.reduceSub, Int.reduceMul, Int.reduceNeg, Int.reduceToNat, Int.reduceEq, s.h1, s.h2, h5]
  refine callK_same (k82 _ _ w 0) ?_
  simp only [go_sem, reduceCtorEq, reduceIte, Nat.reduceEqDiff, Nat.reduceAdd, Nat.reduceLeDiff, Nat.reduceMul, Int.reduceLT, Int.reduceLE, Int.reduceAdd, Int.reduceSub, Int.reduceMul, Int.reduceNeg, Int.reduceToNat, Int.reduceEq, s.h1, s.h2, h5]
  refine callK_same (k82 _ _ w _) ?_
  simp only [go_sem, reduceCtorEq, reduceIte, Nat.reduceEqDiff, Nat.reduceAdd, Nat.reduceLeDiff, Nat.reduceMul, Int.reduceLT, Int.reduceLE, Int.reduceAdd, Int.reduceSub, Int.reduceMul, Int.reduceNeg, Int.reduceToNat, Int.reduceEq, s.h1, s.h2, h5]
  simp only [go_sem, reduceCtorEq, reduceIte, Nat.reduceEqDiff, Nat.reduceAdd, Nat.reduceLeDiff, Nat.reduceMul, Int.reduceLT, Int.reduceLE, Int.reduceAdd, Int.reduceSub, Int.reduceMul, Int.reduceNeg, Int.reduceToNat, Int.reduceEq, List.append_assoc, V.drop_app, V.take_app]
  intro rb hFb hMb
  simp only [go_sem, reduceCtorEq, reduceIte, Nat.reduceEqDiff, Nat.reduceAdd, Nat.reduceLeDiff, Nat.reduceMul, Int.reduceLT, Int.reduceLE, Int.reduceAdd, Int.reduceSub, Int.reduceMul, Int.reduceNeg, Int.reduceToNat, Int.reduceEq, s.h1, s.h2, h5]
  refine apM_of mine s.kp s.old s.fr (by simp) hFb hMb (ys := [V.whole w, V.nothing w, V.just w 0, V.just w (halfV w)]) ⟨rfl, .inr ⟨⟨rb, 0, none⟩, 4, rfl, .inr ⟨rb, 0, _, rfl, blk_upd_same, by simp [V.cs]⟩⟩⟩ (by simp) (by simp; omega) ?_
  intro v' M2 k2 o2 f2 m2
  have hl8 : (l ++ [V.whole w, V.nothing w, V.just w 0, V.just w (halfV w)]).length ≤ 8 := by simp; omega
  have hne : l ++ [V.whole w, V.nothing w, V.just w 0, V.just w (halfV w)] ≠ [] := by simp
  generalize l ++ [V.whole w, V.nothing w, V.just w 0, V.just w (halfV w)] = l2 at *
  simp only [go_sem, reduceCtorEq, reduceIte, Nat.reduceEqDiff, Nat.reduceAdd, Nat.reduceLeDiff, Nat.reduceMul, Int.reduceLT, Int.reduceLE, Int.reduceAdd, Int.reduceSub, Int.reduceMul, Int.reduceNeg, Int.reduceToNat, Int.reduceEq, s.h1, s.h2, h5]
  refine block_cut (cI2 F' M r2 [.slice aV lv.length cV, .slice aN ln.length cN] w 12) ?_ ?_
  · refine loop_of (vI F' M r2 [.slice aV lv.length cV, .slice aN ln.length cN] w 7 2 8 2) 2 ?_ ?_
    · exact ⟨⟨rfl, k2, o2, f2, by simp only [go_sem, reduceCtorEq, reduceIte, Nat.reduceEqDiff, Nat.reduceAdd, Nat.reduceLeDiff, Nat.reduceMul, Int.reduceLT, Int.reduceLE, Int.reduceAdd, Int.reduceSub, Int.reduceMul, Int.reduceNeg, Int.reduceToNat, Int.reduceEq, s.h1], by simp only [go_sem, reduceCtorEq, reduceIte, Nat.reduceEqDiff, Nat.reduceAdd, Nat.reduceLeDiff, Nat.reduceMul, Int.reduceLT, Int.reduceLE, Int.reduceAdd, Int.reduceSub, Int.reduceMul, Int.reduceNeg, Int.reduceToNat, Int.reduceEq, s.h2]⟩, 0, _, l2, by omega, by simp only [go_sem, reduceCtorEq, reduceIte, Nat.reduceEqDiff, Nat.reduceAdd, Nat.reduceLeDiff, Nat.reduceMul, Int.reduceLT, Int.reduceLE, Int.reduceAdd, Int.reduceSub, Int.reduceMul, Int.reduceNeg, Int.reduceToNat, Int.reduceEq] <;> rfl, by simp only [go_sem, reduceCtorEq, reduceIte, Nat.reduceEqDiff, Nat.reduceAdd, Nat.reduceLeDiff, Nat.reduceMul, Int.reduceLT, Int.reduceLE, Int.reduceAdd, Int.reduceSub, Int.reduceMul, Int.reduceNeg, Int.reduceToNat, Int.reduceEq], m2, by omega, by omega, fun _ => hne⟩
    clear s h5 mine hl4 hl6 hl8 hne m2 f2 o2 k2 sl l
    rintro m σ F'' M'' ⟨s, i, sl, l, hi, h7, h5, mine, hll, hl4, hne⟩
    obtain rfl := s.f
    have br := blk_M (F := F'') s.fr
    have ei : IntKind.i64.wrap ((i : Int) + 1) = i + 1 := w64 (by omega) (by omega)
    have out : ∀ σ', Ax.look σ' 1 = Ax.look σ 1 → Ax.look σ' 2 = Ax.look σ 2 → Ax.look σ' 5 = Ax.look σ 5 → cI2 F'' M r2 [.slice aV lv.length cV, .slice aN ln.length cN] w 12 σ' F'' M'' := fun σ' q1 q2 q5 => ⟨s.ext q1 q2, sl, l, q5.trans h5, mine, by omega, hne rfl⟩
    by_cases hil : (i : Int) < ln.length
    rotate_left
    · simp only [go_sem, reduceCtorEq, reduceIte, Nat.reduceEqDiff, Nat.reduceAdd, Nat.reduceLeDiff, Nat.reduceMul, Int.reduceLT, Int.reduceLE, Int.reduceAdd, Int.reduceSub, Int.reduceMul, Int.reduceNeg, Int.reduceToNat, Int.reduceEq, s.h1, s.h2, h5, h7, br, hil]
      exact out _ (by simp only [go_sem, reduceCtorEq, reduceIte, Nat.reduceEqDiff, Nat.reduceAdd, Nat.reduceLeDiff, Nat.reduceMul, Int.reduceLT, Int.reduceLE, Int.reduceAdd, Int.reduceSub, Int.reduceMul, Int.reduceNeg, Int.reduceToNat, Int.reduceEq]) (by simp only [go_sem, reduceCtorEq, reduceIte, Nat.reduceEqDiff, Nat.reduceAdd, Nat.reduceLeDiff, Nat.reduceMul, Int.reduceLT, Int.reduceLE, Int.reduceAdd, Int.reduceSub, Int.reduceMul, Int.reduceNeg, Int.reduceToNat, Int.reduceEq]) (by simp only [go_sem, reduceCtorEq, reduceIte, Nat.reduceEqDiff, Nat.reduceAdd, Nat.reduceLeDiff, Nat.reduceMul, Int.reduceLT, Int.reduceLE, Int.reduceAdd, Int.reduceSub, Int.reduceMul, Int.reduceNeg, Int.reduceToNat, Int.reduceEq])
    by_cases hi2 : (i : Int) < 2
    rotate_left
    · simp only [go_sem, reduceCtorEq, reduceIte, Nat.reduceEqDiff, Nat.reduceAdd, Nat.reduceLeDiff, Nat.reduceMul, Int.reduceLT, Int.reduceLE, Int.reduceAdd, Int.reduceSub, Int.reduceMul, Int.reduceNeg, Int.reduceToNat, Int.reduceEq, s.h1, s.h2, h5, h7, br, hil, hi2]
      exact out _ (by simp only [go_sem, reduceCtorEq, reduceIte, Nat.reduceEqDiff, Nat.reduceAdd, Nat.reduceLeDiff, Nat.reduceMul, Int.reduceLT, Int.reduceLE, Int.reduceAdd, Int.reduceSub, Int.reduceMul, Int.reduceNeg, Int.reduceToNat, Int.reduceEq]) (by simp only [go_sem, reduceCtorEq, reduceIte, Nat.reduceEqDiff, Nat.reduceAdd, Nat.reduceLeDiff, Nat.reduceMul, Int.reduceLT, Int.reduceLE, Int.reduceAdd, Int.reduceSub, Int.reduceMul, Int.reduceNeg, Int.reduceToNat, Int.reduceEq]) (by simp only [go_sem, reduceCtorEq, reduceIte, Nat.reduceEqDiff, Nat.reduceAdd, Nat.reduceLeDiff, Nat.reduceMul, Int.reduceLT, Int.reduceLE, Int.reduceAdd, Int.reduceSub, Int.reduceMul, Int.reduceNeg, Int.reduceToNat, Int.reduceEq])
    have hi0 : (0 : Int) ≤ i := by omega
    have hi' : i < ln.length := by omega
    have hN1 := hN0.keep s.kp s.old
    obtain ⟨_, aN', cN', eN, hN1⟩ := hN1
    cases eN
    rcases hN1 with h | ⟨b, o, cs, rfl, hb, hc⟩
    · rw [h] at hi'; simp at hi'
    have d1 := hc i hi'
    simp only [intV] at d1
    generalize ln[i] = x at d1
    simp only [go_sem, reduceCtorEq, reduceIte, Nat.reduceEqDiff, Nat.reduceAdd, Nat.reduceLeDiff, Nat.reduceMul, Int.reduceLT, Int.reduceLE, Int.reduceAdd, Int.reduceSub, Int.reduceMul, Int.reduceNeg, Int.reduceToNat, Int.reduceEq, s.h1, s.h2, h5, h7, br, hil, hi2, hi0, Int.toNat_natCast, Nat.mul_one, hb, d1]
    refine callK_same (k57 _ _ _ w lw.1 lw.2) ?_
    simp only [go_sem, reduceCtorEq, reduceIte, Nat.reduceEqDiff, Nat.reduceAdd, Nat.reduceLeDiff, Nat.reduceMul, Int.reduceLT, Int.reduceLE, Int.reduceAdd, Int.reduceSub, Int.reduceMul, Int.reduceNeg, Int.reduceToNat, Int.reduceEq, s.h1, s.h2, h5, h7, c1, shl1 lw.1 lw.2, most_wrap lw.1 lw.2, not_false_eq_true]
    refine callK_same (k82 _ _ w _) ?_
    simp only [go_sem, reduceCtorEq, reduceIte, Nat.reduceEqDiff, Nat.reduceAdd, Nat.reduceLeDiff, Nat.reduceMul, Int.reduceLT, Int.reduceLE, Int.reduceAdd, Int.reduceSub, Int.reduceMul, Int.reduceNeg, Int.reduceToNat, Int.reduceEq, s.h1, s.h2, h5, h7]
    refine callK_same (k57 _ _ _ w lw.1 lw.2) ?_
    simp only [go_sem, reduceCtorEq, reduceIte, Nat.reduceEqDiff, Nat.reduceAdd, Nat.reduceLeDiff, Nat.reduceMul, Int.reduceLT, Int.reduceLE, Int.reduceAdd, Int.reduceSub, Int.reduceMul, Int.reduceNeg, Int.reduceToNat, Int.reduceEq, s.h1, s.h2, h5, h7, c1, shl1 lw.1 lw.2, most_wrap lw.1 lw.2, not_false_eq_true]
    intro rb hFb hMb
    simp only [go_sem, reduceCtorEq, reduceIte, Nat.reduceEqDiff, Nat.reduceAdd, Nat.reduceLeDiff, Nat.reduceMul, Int.reduceLT, Int.reduceLE, Int.reduceAdd, Int.reduceSub, Int.reduceMul, Int.reduceNeg, Int.reduceToNat, Int.reduceEq, s.h1, s.h2, h5, h7]
    refine apM_of mine s.kp s.old s.fr (by simp) hFb hMb (ys := [V.just w (x % 2 ^ w.toNat), V.mk w false (x % 2 ^ w.toNat) (IntKind.i64.wrap (x % 2 ^ w.toNat + 9) % 2 ^ w.toNat) (mostV w) 0]) ⟨rfl, .inr ⟨⟨rb, 0, none⟩, 2, rfl, .inr ⟨rb, 0, _, rfl, blk_upd_same, by simp [V.cs]⟩⟩⟩ (by simp) (by simp; omega) ?_
    intro v' M2 k2 o2 f2 m2
    simp only [go_sem, reduceCtorEq, reduceIte, Nat.reduceEqDiff, Nat.reduceAdd, Nat.reduceLeDiff, Nat.reduceMul, Int.reduceLT, Int.reduceLE, Int.reduceAdd, Int.reduceSub, Int.reduceMul, Int.reduceNeg, Int.reduceToNat, Int.reduceEq, s.h1, s.h2, h5, h7, ei]
    exact ⟨m - 1, by omega, ⟨rfl, k2, o2, f2, by simp only [go_sem, reduceCtorEq, reduceIte, Nat.reduceEqDiff, Nat.reduceAdd, Nat.reduceLeDiff, Nat.reduceMul, Int.reduceLT, Int.reduceLE, Int.reduceAdd, Int.reduceSub, Int.reduceMul, Int.reduceNeg, Int.reduceToNat, Int.reduceEq, s.h1], by simp only [go_sem, reduceCtorEq, reduceIte, Nat.reduceEqDiff, Nat.reduceAdd, Nat.reduceLeDiff, Nat.reduceMul, Int.reduceLT, Int.reduceLE, Int.reduceAdd, Int.reduceSub, Int.reduceMul, Int.reduceNeg, Int.reduceToNat, Int.reduceEq, s.h2]⟩, i + 1, v', _, by omega, by simp only [go_sem, reduceCtorEq, reduceIte, Nat.reduceEqDiff, Nat.reduceAdd, Nat.reduceLeDiff, Nat.reduceMul, Int.reduceLT, Int.reduceLE, Int.reduceAdd, Int.reduceSub, Int.reduceMul, Int.reduceNeg, Int.reduceToNat, Int.reduceEq]; rfl, by simp only [go_sem, reduceCtorEq, reduceIte, Nat.reduceEqDiff, Nat.reduceAdd, Nat.reduceLeDiff, Nat.reduceMul, Int.reduceLT, Int.reduceLE, Int.reduceAdd, Int.reduceSub, Int.reduceMul, Int.reduceNeg, Int.reduceToNat, Int.reduceEq] <;> rfl, m2, by simp; omega, by simp; omega, fun _ => by simp⟩
  rintro σ F'' M'' ⟨s, sl, l, h5, mine, hl4, hne⟩
  obtain rfl := s.f
  rw [then_n]
  simp only [go_sem, reduceCtorEq, reduceIte, Nat.reduceEqDiff, Nat.reduceAdd, Nat.reduceLeDiff, Nat.reduceMul, Int.reduceLT, Int.reduceLE, Int.reduceAdd, Int.reduceSub, Int.reduceMul, Int.reduceNeg, Int.reduceToNat, Int.reduceEq, s.h1, s.h2, h5]
  exact mine.done s.kp hne (by omega)
end Go.Proofs.Try.K

/- Contract: a question of two, played. -/
namespace Go.Proofs.Try.K
open Go Go.Ax Go.Proofs.Try.S
set_option maxRecDepth 100000
set_option linter.unusedSimpArgs false
set_option linter.unusedVariables false
set_option maxHeartbeats 4000000
variable (F : Fz) (M : Hp)

structure T0 (F0 : Fz) (M0 : Hp) (r2 : Nat) (ask : List Value) (op : Int) (σ : Env) (F : Fz) (M : Hp) : Prop where
  f : F = F0
  kp : Keep M0 M
  old : Old F0 M
  fr : M r2 = some ⟨ask, 27, 2⟩
  h1 : Ax.look σ 1 = some (.int .i64 op)
  h2 : Ax.look σ 2 = some (.pointer (some ⟨r2, 0, none⟩))
theorem T0.ext {F0 : Fz} {M0 : Hp} {r2 : Nat} {ask : List Value} {op : Int} {σ σ' : Env} {F : Fz} {M : Hp} (s : T0 F0 M0 r2 ask op σ F M) (e1 : Ax.look σ' 1 = Ax.look σ 1) (e2 : Ax.look σ' 2 = Ax.look σ 2) : T0 F0 M0 r2 ask op σ' F M :=
  ⟨s.f, s.kp, s.old, s.fr, e1.trans s.h1, e2.trans s.h2⟩
def tkI (F0 : Fz) (M0 : Hp) (r2 : Nat) (ask : List Value) (op : Int) (m : Nat) (σ : Env) (F : Fz) (M : Hp) : Prop :=
  T0 F0 M0 r2 ask op σ F M ∧ ∃ k : Nat, k + m = 8 ∧ Ax.look σ 5 = some (.int .i64 k)
/-- In a kind's rounds: its row of sets. -/
structure T1 (F0 : Fz) (M0 : Hp) (r2 : Nat) (ask : List Value) (op : Int) (k : Nat) (sl : Value) (L : List V) (σ : Env) (F : Fz) (M : Hp) : Prop extends T0 F0 M0 r2 ask op σ F M where
  h5 : Ax.look σ 5 = some (.int .i64 k)
  h6 : Ax.look σ 6 = some sl
  rd : RdV F0 M sl L
def tiI (F0 : Fz) (M0 : Hp) (r2 : Nat) (ask : List Value) (op : Int) (k : Nat) (sl : Value) (L : List V) (m : Nat) (σ : Env) (F : Fz) (M : Hp) : Prop :=
  T1 F0 M0 r2 ask op k sl L σ F M ∧ ∃ i : Nat, i + m = L.length ∧ Ax.look σ 7 = some (.int .i64 i)
def tjI (F0 : Fz) (M0 : Hp) (r2 : Nat) (ask : List Value) (op : Int) (k : Nat) (sl : Value) (L : List V) (i : Nat) (m : Nat) (σ : Env) (F : Fz) (M : Hp) : Prop :=
  T1 F0 M0 r2 ask op k sl L σ F M ∧ Ax.look σ 7 = some (.int .i64 i) ∧ ∃ j : Nat, j + m = 2 * L.length ∧ Ax.look σ 8 = some (.int .i64 j)
def tjB (F0 : Fz) (M0 : Hp) (r2 : Nat) (ask : List Value) (op : Int) (k : Nat) (sl : Value) (L : List V) (i j : Nat) (σ : Env) (F : Fz) (M : Hp) : Prop :=
  T1 F0 M0 r2 ask op k sl L σ F M ∧ Ax.look σ 7 = some (.int .i64 i) ∧ Ax.look σ 8 = some (.int .i64 j)
def J0 (F0 : Fz) (M0 : Hp) (r2 : Nat) (ask : List Value) (op : Int) (k : Nat) (sl : Value) (L : List V) (i j : Nat) (σ : Env) (F : Fz) (M : Hp) : Prop :=
  tjB F0 M0 r2 ask op k sl L i j σ F M ∧ ∃ (r9 r10 : Nat) (a b : V) (yes : Bool), Ax.look σ 9 = some (.pointer (some ⟨r9, 0, none⟩)) ∧ Ax.look σ 10 = some (.pointer (some ⟨r10, 0, none⟩)) ∧ Ax.look σ 11 = some (.bool yes) ∧
  M r9 = some ⟨a.cs, 34, 6⟩ ∧ M r10 = some ⟨b.cs, 34, 6⟩
/-- In a round. -/
structure T2 (F0 : Fz) (M0 : Hp) (r2 : Nat) (ask : List Value) (op : Int) (k : Nat) (sl : Value) (L : List V) (i j r9 r10 r12 r13 : Nat) (a b' x y : V) (yes : Bool) (σ : Env) (F : Fz) (M : Hp) : Prop extends T1 F0 M0 r2 ask op k sl L σ F M where
  h7 : Ax.look σ 7 = some (.int .i64 i)
  h8 : Ax.look σ 8 = some (.int .i64 j)
  h9 : Ax.look σ 9 = some (.pointer (some ⟨r9, 0, none⟩))
  h10 : Ax.look σ 10 = some (.pointer (some ⟨r10, 0, none⟩))
  h11 : Ax.look σ 11 = some (.bool yes)
  h12 : Ax.look σ 12 = some (.pointer (some ⟨r12, 0, none⟩))
  h13 : Ax.look σ 13 = some (.pointer (some ⟨r13, 0, none⟩))
  f9 : M r9 = some ⟨a.cs, 34, 6⟩
  f10 : M r10 = some ⟨b'.cs, 34, 6⟩
  f12 : M r12 = some ⟨x.cs, 34, 6⟩
  f13 : M r13 = some ⟨y.cs, 34, 6⟩
section
variable {F0 : Fz} {M0 : Hp} {r2 : Nat} {ask : List Value} {op : Int} {k : Nat} {sl : Value} {L : List V} {i j r9 r10 r12 r13 : Nat} {a b' x y : V} {yes : Bool} {σ σ' : Env} {F : Fz} {M M' : Hp}
theorem T2.ext (s : T2 F0 M0 r2 ask op k sl L i j r9 r10 r12 r13 a b' x y yes σ F M) (e1 : Ax.look σ' 1 = Ax.look σ 1) (e2 : Ax.look σ' 2 = Ax.look σ 2) (e5 : Ax.look σ' 5 = Ax.look σ 5) (e6 : Ax.look σ' 6 = Ax.look σ 6)
    (e7 : Ax.look σ' 7 = Ax.look σ 7) (e8 : Ax.look σ' 8 = Ax.look σ 8) (e9 : Ax.look σ' 9 = Ax.look σ 9) (e10 : Ax.look σ' 10 = Ax.look σ 10) (e11 : Ax.look σ' 11 = Ax.look σ 11) (e12 : Ax.look σ' 12 = Ax.look σ 12) (e13 : Ax.look σ' 13 = Ax.look σ 13) :
    T2 F0 M0 r2 ask op k sl L i j r9 r10 r12 r13 a b' x y yes σ' F M :=
  ⟨⟨s.toT0.ext e1 e2, e5.trans s.h5, e6.trans s.h6, s.rd⟩, e7.trans s.h7, e8.trans s.h8, e9.trans s.h9, e10.trans s.h10, e11.trans s.h11, e12.trans s.h12, e13.trans s.h13, s.f9, s.f10, s.f12, s.f13⟩
theorem T2.grow (s : T2 F0 M0 r2 ask op k sl L i j r9 r10 r12 r13 a b' x y yes σ F M) (k' : Keep M M') (o : Old F0 M') : T2 F0 M0 r2 ask op k sl L i j r9 r10 r12 r13 a b' x y yes σ F M' :=
  ⟨⟨⟨s.f, s.kp.trans k', o, k' _ _ s.fr, s.h1, s.h2⟩, s.h5, s.h6, s.rd.keep k' o⟩, s.h7, s.h8, s.h9, s.h10, s.h11, s.h12, s.h13, k' _ _ s.f9, k' _ _ s.f10, k' _ _ s.f12, k' _ _ s.f13⟩
end
/-- With some members of both. -/
structure T3 (F0 : Fz) (M0 : Hp) (r2 : Nat) (ask : List Value) (op : Int) (k : Nat) (sl : Value) (L : List V) (i j r9 r10 r12 r13 : Nat) (a b' x y : V) (yes : Bool) (su sv : Value) (lu lw : List Int) (σ : Env) (F : Fz) (M : Hp) : Prop extends T2 F0 M0 r2 ask op k sl L i j r9 r10 r12 r13 a b' x y yes σ F M where
  h17 : Ax.look σ 17 = some su
  h18 : Ax.look σ 18 = some sv
  ru : RdI F0 M su lu
  rv : RdI F0 M sv lw
section
variable {F0 : Fz} {M0 : Hp} {r2 : Nat} {ask : List Value} {op : Int} {k : Nat} {sl : Value} {L : List V} {i j r9 r10 r12 r13 : Nat} {a b' x y : V} {yes : Bool} {su sv : Value} {lu lw : List Int} {σ σ' : Env} {F : Fz} {M M' : Hp}
theorem T3.ext (s : T3 F0 M0 r2 ask op k sl L i j r9 r10 r12 r13 a b' x y yes su sv lu lw σ F M) (e1 : Ax.look σ' 1 = Ax.look σ 1) (e2 : Ax.look σ' 2 = Ax.look σ 2) (e5 : Ax.look σ' 5 = Ax.look σ 5) (e6 : Ax.look σ' 6 = Ax.look σ 6)
    (e7 : Ax.look σ' 7 = Ax.look σ 7) (e8 : Ax.look σ' 8 = Ax.look σ 8) (e9 : Ax.look σ' 9 = Ax.look σ 9) (e10 : Ax.look σ' 10 = Ax.look σ 10) (e11 : Ax.look σ' 11 = Ax.look σ 11) (e12 : Ax.look σ' 12 = Ax.look σ 12) (e13 : Ax.look σ' 13 = Ax.look σ 13) (e17 : Ax.look σ' 17 = Ax.look σ 17) (e18 : Ax.look σ' 18 = Ax.look σ 18) :
    T3 F0 M0 r2 ask op k sl L i j r9 r10 r12 r13 a b' x y yes su sv lu lw σ' F M :=
  ⟨s.toT2.ext e1 e2 e5 e6 e7 e8 e9 e10 e11 e12 e13, e17.trans s.h17, e18.trans s.h18, s.ru, s.rv⟩
end
def uI (F0 : Fz) (M0 : Hp) (r2 : Nat) (ask : List Value) (op : Int) (k : Nat) (sl : Value) (L : List V) (i j r9 r10 r12 r13 : Nat) (a b' x y : V) (yes : Bool) (su sv : Value) (lu lw : List Int) (m : Nat) (σ : Env) (F : Fz) (M : Hp) : Prop :=
  T3 F0 M0 r2 ask op k sl L i j r9 r10 r12 r13 a b' x y yes su sv lu lw σ F M ∧ ∃ s : Nat, s + m = lu.length ∧ Ax.look σ 19 = some (.int .i64 s)
def wI (F0 : Fz) (M0 : Hp) (r2 : Nat) (ask : List Value) (op : Int) (k : Nat) (sl : Value) (L : List V) (i j r9 r10 r12 r13 : Nat) (a b' x y : V) (yes : Bool) (su sv : Value) (lu lw : List Int) (s : Nat) (m : Nat) (σ : Env) (F : Fz) (M : Hp) : Prop :=
  T3 F0 M0 r2 ask op k sl L i j r9 r10 r12 r13 a b' x y yes su sv lu lw σ F M ∧ Ax.look σ 19 = some (.int .i64 s) ∧ ∃ t : Nat, t + m = lw.length ∧ Ax.look σ 20 = some (.int .i64 t)
theorem some_row {v : V} {F : Fz} {M : Hp} {u : Value} {F' : Fz} {M' : Hp} (h : someR v F M u F' M') (hold : Old F M) : F' = F ∧ Le F M F M' ∧ Keep M M' ∧ Old F M' ∧ ∃ l : List Int, l.length ≤ 1000 ∧ (∀ y ∈ l, 0 ≤ y ∧ y ≤ mostV v.w ∧ v.has y = true) ∧ RdI F M' u l := by
  obtain ⟨hF, l, hl, hm, hu⟩ := h
  refine ⟨hF, ?_⟩
  rcases hu with ⟨rfl, rfl, rfl⟩ | ⟨g, cap, hFg, hMg, rfl, rfl⟩
  · exact ⟨Le.refl _ _, Keep.refl _, hold, [], by simp, by simp, by simp, none, 0, rfl, .inl rfl⟩
  · exact ⟨Le.upd hFg hMg, (Keep.refl _).new hMg, hold.upd hFg, l, hl, hm, by omega, _, cap, rfl, .inr ⟨g, 0, _, rfl, blk_upd_same, fun i hi => by simp [hi]⟩⟩
/-- The answer and what it should be. -/
def t14 (op : Int) (k : Nat) (a b x y : V) (yes : Bool) (σ : Env) : Prop :=
  (askB op k a b = true ∧ Ax.look σ 14 = some (.int .i64 0) ∧ TwoR op k a b yes x y) ∨ (askB op k a b = false ∧ Ax.look σ 14 = some (.int .i64 1))
def J1 (F0 : Fz) (M0 : Hp) (r2 : Nat) (ask : List Value) (op : Int) (k : Nat) (sl : Value) (L : List V) (i j : Nat) (σ : Env) (F : Fz) (M : Hp) : Prop :=
  ∃ (r9 r10 r12 r13 : Nat) (a b x y : V) (yes : Bool), T2 F0 M0 r2 ask op k sl L i j r9 r10 r12 r13 a b x y yes σ F M ∧ t14 op k a b x y yes σ
def J2a (F0 : Fz) (M0 : Hp) (r2 : Nat) (ask : List Value) (op : Int) (k : Nat) (sl : Value) (L : List V) (i j r9 r10 r12 r13 : Nat) (a b x y : V) (yes : Bool) (σ : Env) (F : Fz) (M : Hp) : Prop :=
  T2 F0 M0 r2 ask op k sl L i j r9 r10 r12 r13 a b x y yes σ F M ∧ t14 op k a b x y yes σ ∧ Ax.look σ 15 = some (.int .i64 1)
def J2 (F0 : Fz) (M0 : Hp) (r2 : Nat) (ask : List Value) (op : Int) (k : Nat) (sl : Value) (L : List V) (i j r9 r10 r12 r13 : Nat) (a b x y : V) (yes : Bool) (σ : Env) (F : Fz) (M : Hp) : Prop :=
  T2 F0 M0 r2 ask op k sl L i j r9 r10 r12 r13 a b x y yes σ F M ∧ t14 op k a b x y yes σ ∧ Ax.look σ 15 = some (.int .i64 1) ∧ Ax.look σ 16 = some (.int .i64 (wK k))
def J3 (F0 : Fz) (M0 : Hp) (r2 : Nat) (ask : List Value) (op : Int) (k : Nat) (sl : Value) (L : List V) (i j r9 r10 r12 r13 : Nat) (a b x y : V) (yes : Bool) (σ : Env) (F : Fz) (M : Hp) : Prop :=
  T2 F0 M0 r2 ask op k sl L i j r9 r10 r12 r13 a b x y yes σ F M ∧ t14 op k a b x y yes σ ∧ Ax.look σ 15 = some (.int .i64 (if askB op k a b then 0 else 1)) ∧ Ax.look σ 16 = some (.int .i64 (wK k))
theorem t14.ext {op : Int} {k : Nat} {a b x y : V} {yes : Bool} {σ σ' : Env} (h : t14 op k a b x y yes σ) (e : Ax.look σ' 14 = Ax.look σ 14) : t14 op k a b x y yes σ' := by
  rcases h with ⟨h1, h2, h3⟩ | ⟨h1, h2⟩
  · exact .inl ⟨h1, e.trans h2, h3⟩
  · exact .inr ⟨h1, e.trans h2⟩
theorem askB_iff {op k : Int} {a b : V} : askB op k a b = true ↔ (op = 18 ∨ op = 19) ∧ isK k = true ∧ a.ok = true ∧ b.ok = true ∧ a.w = ofW k ∧ b.w = ofW k := by
  simp only [askB, fitB, Bool.and_eq_true, Bool.or_eq_true, decide_eq_true_eq]
  constructor
  · rintro ⟨⟨h1, ⟨h2, h3⟩, h4⟩, ⟨_, h5⟩, h6⟩; exact ⟨h1, h2, h3, h5, h4, h6⟩
  · rintro ⟨h1, h2, h3, h4, h5, h6⟩; exact ⟨⟨h1, ⟨h2, h3⟩, h5⟩, ⟨h2, h4⟩, h6⟩
theorem k33 (op : Int) (uV uN : Value) (lv : List V) (ln : List Int) (hold : Old F M) (hV : RdV F M uV lv) (hN : RdI F M uN ln) :
    CallsA Try.prog 33 [.agg #[uV, uN], .int .i64 op] F M (Same F M (.bool true)) := by
  refine callsA_of hm Try.func33 e33 (Nat.le_of_ble_eq_true rfl) ?_
  have hV0 := hV
  have hN0 := hN
  obtain ⟨hlv, aV, cV, hcV, rfl, _⟩ := hV
  obtain ⟨hln, aN, cN, rfl, _⟩ := hN
  simp only [c33, go_sem, reduceCtorEq, reduceIte, Nat.reduceEqDiff, Nat.reduceAdd, Nat.reduceLeDiff, Nat.reduceMul, Int.reduceLT, Int.reduceLE, Int.reduceAdd, Int.reduceSub, Int.reduceMul, Int.reduceNeg, Int.reduceToNat, Int.reduceEq]
  intro r2 hF2 hM2
  simp only [go_sem, reduceCtorEq, reduceIte, Nat.reduceEqDiff, Nat.reduceAdd, Nat.reduceLeDiff, Nat.reduceMul, Int.reduceLT, Int.reduceLE, Int.reduceAdd, Int.reduceSub, Int.reduceMul, Int.reduceNeg, Int.reduceToNat, Int.reduceEq]
  refine callK_same (k34 _ _ aV aN lv.length ln.length cV cN) ?_
  cases hh : (decide (100 < (lv.length : Int)) || decide (100 < (ln.length : Int)))
  rotate_left
  · simp only [go_sem, reduceCtorEq, reduceIte, Nat.reduceEqDiff, Nat.reduceAdd, Nat.reduceLeDiff, Nat.reduceMul, Int.reduceLT, Int.reduceLE, Int.reduceAdd, Int.reduceSub, Int.reduceMul, Int.reduceNeg, Int.reduceToNat, Int.reduceEq]
    exact endK_drop hM2 (endK_same ⟨rfl, rfl, rfl⟩)
  simp only [go_sem, reduceCtorEq, reduceIte, Nat.reduceEqDiff, Nat.reduceAdd, Nat.reduceLeDiff, Nat.reduceMul, Int.reduceLT, Int.reduceLE, Int.reduceAdd, Int.reduceSub, Int.reduceMul, Int.reduceNeg, Int.reduceToNat, Int.reduceEq]
  refine loop_of (tkI F M r2 [.slice aV lv.length cV, .slice aN ln.length cN] op) 8 ?_ ?_
  · exact ⟨⟨rfl, (Keep.refl M).new hM2, hold.upd hF2, Hp.upd_same _ _ _, by simp only [go_sem, reduceCtorEq, reduceIte, Nat.reduceEqDiff, Nat.reduceAdd, Nat.reduceLeDiff, Nat.reduceMul, Int.reduceLT, Int.reduceLE, Int.reduceAdd, Int.reduceSub, Int.reduceMul, Int.reduceNeg, Int.reduceToNat, Int.reduceEq], by simp only [go_sem, reduceCtorEq, reduceIte, Nat.reduceEqDiff, Nat.reduceAdd, Nat.reduceLeDiff, Nat.reduceMul, Int.reduceLT, Int.reduceLE, Int.reduceAdd, Int.reduceSub, Int.reduceMul, Int.reduceNeg, Int.reduceToNat, Int.reduceEq]⟩, 0, by omega, by simp only [go_sem, reduceCtorEq, reduceIte, Nat.reduceEqDiff, Nat.reduceAdd, Nat.reduceLeDiff, Nat.reduceMul, Int.reduceLT, Int.reduceLE, Int.reduceAdd, Int.reduceSub, Int.reduceMul, Int.reduceNeg, Int.reduceToNat, Int.reduceEq] <;> rfl⟩
  rintro mk σ F' M' ⟨s, k, hk, h5⟩
  obtain rfl := s.f
  by_cases hk7 : (k : Int) ≤ 7
  rotate_left
  · simp only [go_sem, reduceCtorEq, reduceIte, Nat.reduceEqDiff, Nat.reduceAdd, Nat.reduceLeDiff, Nat.reduceMul, Int.reduceLT, Int.reduceLE, Int.reduceAdd, Int.reduceSub, Int.reduceMul, Int.reduceNeg, Int.reduceToNat, Int.reduceEq, s.h1, s.h2, h5, hk7]
    refine callK_same (k42 _ _) ?_
    simp only [go_sem, reduceCtorEq, reduceIte, Nat.reduceEqDiff, Nat.reduceAdd, Nat.reduceLeDiff, Nat.reduceMul, Int.reduceLT, Int.reduceLE, Int.reduceAdd, Int.reduceSub, Int.reduceMul, Int.reduceNeg, Int.reduceToNat, Int.reduceEq]
    exact endK_keep s.kp ⟨rfl, rfl, rfl⟩
  have ek : IntKind.i64.wrap ((k : Int) + 1) = k + 1 := w64 (by omega) (by omega)
  have br := blk_M (F := F') s.fr
  have hwk : wK k = 0 ∨ isW (wK k) = true := by
    unfold wK; split
    · exact .inr (ofW_isW k)
    · exact .inl rfl
  simp only [go_sem, reduceCtorEq, reduceIte, Nat.reduceEqDiff, Nat.reduceAdd, Nat.reduceLeDiff, Nat.reduceMul, Int.reduceLT, Int.reduceLE, Int.reduceAdd, Int.reduceSub, Int.reduceMul, Int.reduceNeg, Int.reduceToNat, Int.reduceEq, s.h1, s.h2, h5, hk7, br]
  refine callK_same (k46 _ _ k) ?_
  simp only [go_sem, reduceCtorEq, reduceIte, Nat.reduceEqDiff, Nat.reduceAdd, Nat.reduceLeDiff, Nat.reduceMul, Int.reduceLT, Int.reduceLE, Int.reduceAdd, Int.reduceSub, Int.reduceMul, Int.reduceNeg, Int.reduceToNat, Int.reduceEq, s.h1, s.h2, h5]
  refine callK_of (k45 _ _ (wK k) _ _ lv ln hwk s.old (hV0.keep s.kp s.old) (hN0.keep s.kp s.old)) ?_
  rintro u G M2 ⟨hG, L, g, cap, hL, hLc, rfl, hFg, hMg, hM2'⟩
  rw [hG, hM2']
  refine ⟨fun _ => Le.upd hFg hMg, ?_⟩
  have gg := ne_of_none hMg s.fr
  have kp2 := s.kp.new (s.kp.free hMg) (e := ⟨L.flatMap V.cs, 34, cap * 6⟩)
  have old2 := s.old.upd (e := ⟨L.flatMap V.cs, 34, cap * 6⟩) hFg
  have fr2 : (M'.upd g ⟨L.flatMap V.cs, 34, cap * 6⟩) r2 = some ⟨[.slice aV lv.length cV, .slice aN ln.length cN], 27, 2⟩ := by rw [Hp.upd_ne' gg.1]; exact s.fr
  have rd2 : RdV F' (M'.upd g ⟨L.flatMap V.cs, 34, cap * 6⟩) (.slice (some ⟨g, 0, none⟩) L.length cap) L := rdV_flat (by omega) hLc blk_upd_same
  simp only [go_sem, reduceCtorEq, reduceIte, Nat.reduceEqDiff, Nat.reduceAdd, Nat.reduceLeDiff, Nat.reduceMul, Int.reduceLT, Int.reduceLE, Int.reduceAdd, Int.reduceSub, Int.reduceMul, Int.reduceNeg, Int.reduceToNat, Int.reduceEq, s.h1, s.h2, h5]
  refine loop_of (tiI F' M r2 [.slice aV lv.length cV, .slice aN ln.length cN] op k (.slice (some ⟨g, 0, none⟩) L.length cap) L) L.length ?_ ?_
  · exact ⟨⟨⟨rfl, kp2, old2, fr2, by simp only [go_sem, reduceCtorEq, reduceIte, Nat.reduceEqDiff, Nat.reduceAdd, Nat.reduceLeDiff, Nat.reduceMul, Int.reduceLT, Int.reduceLE, Int.reduceAdd, Int.reduceSub, Int.reduceMul, Int.reduceNeg, Int.reduceToNat, Int.reduceEq, s.h1], by simp only [go_sem, reduceCtorEq, reduceIte, Nat.reduceEqDiff, Nat.reduceAdd, Nat.reduceLeDiff, Nat.reduceMul, Int.reduceLT, Int.reduceLE, Int.reduceAdd, Int.reduceSub, Int.reduceMul, Int.reduceNeg, Int.reduceToNat, Int.reduceEq, s.h2]⟩, by simp only [go_sem, reduceCtorEq, reduceIte, Nat.reduceEqDiff, Nat.reduceAdd, Nat.reduceLeDiff, Nat.reduceMul, Int.reduceLT, Int.reduceLE, Int.reduceAdd, Int.reduceSub, Int.reduceMul, Int.reduceNeg, Int.reduceToNat, Int.reduceEq, h5], by simp only [go_sem, reduceCtorEq, reduceIte, Nat.reduceEqDiff, Nat.reduceAdd, Nat.reduceLeDiff, Nat.reduceMul, Int.reduceLT, Int.reduceLE, Int.reduceAdd, Int.reduceSub, Int.reduceMul, Int.reduceNeg, Int.reduceToNat, Int.reduceEq], rd2⟩, 0, by omega, by simp only [go_sem, reduceCtorEq, reduceIte, Nat.reduceEqDiff, Nat.reduceAdd, Nat.reduceLeDiff, Nat.reduceMul, Int.reduceLT, Int.reduceLE, Int.reduceAdd, Int.reduceSub, Int.reduceMul, Int.reduceNeg, Int.reduceToNat, Int.reduceEq] <;> rfl⟩
  generalize hsl : Value.slice (some ⟨g, 0, none⟩) L.length cap = sl at *
  clear kp2 old2 fr2 rd2 gg s br h5 hM2' hG hMg hFg
  rintro mi σ F'' M'' ⟨s, i, hi, h7⟩
  obtain rfl := s.f
  by_cases hil : (i : Int) < L.length
  rotate_left
  · simp only [go_sem, reduceCtorEq, reduceIte, Nat.reduceEqDiff, Nat.reduceAdd, Nat.reduceLeDiff, Nat.reduceMul, Int.reduceLT, Int.reduceLE, Int.reduceAdd, Int.reduceSub, Int.reduceMul, Int.reduceNeg, Int.reduceToNat, Int.reduceEq, s.h1, s.h2, s.h5, s.h6, ← hsl, h7, hil, ek]
    exact ⟨mk - 1, by omega, s.toT0.ext (by simp only [go_sem, reduceCtorEq, reduceIte, Nat.reduceEqDiff, Nat.reduceAdd, Nat.reduceLeDiff, Nat.reduceMul, Int.reduceLT, Int.reduceLE, Int.reduceAdd, Int.reduceSub, Int.reduceMul, Int.reduceNeg, Int.reduceToNat, Int.reduceEq]) (by simp only [go_sem, reduceCtorEq, reduceIte, Nat.reduceEqDiff, Nat.reduceAdd, Nat.reduceLeDiff, Nat.reduceMul, Int.reduceLT, Int.reduceLE, Int.reduceAdd, Int.reduceSub, Int.reduceMul, Int.reduceNeg, Int.reduceToNat, Int.reduceEq]), k + 1, by omega, by simp only [go_sem, reduceCtorEq, reduceIte, Nat.reduceEqDiff, Nat.reduceAdd, Nat.reduceLeDiff, Nat.reduceMul, Int.reduceLT, Int.reduceLE, Int.reduceAdd, Int.reduceSub, Int.reduceMul, Int.reduceNeg, Int.reduceToNat, Int.reduceEq]; rfl⟩
  have ei : IntKind.i64.wrap ((i : Int) + 1) = i + 1 := w64 (by omega) (by omega)
  have h6 := s.h6
  rw [← hsl] at h6
  simp only [go_sem, reduceCtorEq, reduceIte, Nat.reduceEqDiff, Nat.reduceAdd, Nat.reduceLeDiff, Nat.reduceMul, Int.reduceLT, Int.reduceLE, Int.reduceAdd, Int.reduceSub, Int.reduceMul, Int.reduceNeg, Int.reduceToNat, Int.reduceEq, s.h1, s.h2, s.h5, h6, h7, hil]
  refine loop_of (tjI F'' M r2 [.slice aV lv.length cV, .slice aN ln.length cN] op k sl L i) (2 * L.length) ?_ ?_
  · exact ⟨⟨s.toT0.ext (by simp only [go_sem, reduceCtorEq, reduceIte, Nat.reduceEqDiff, Nat.reduceAdd, Nat.reduceLeDiff, Nat.reduceMul, Int.reduceLT, Int.reduceLE, Int.reduceAdd, Int.reduceSub, Int.reduceMul, Int.reduceNeg, Int.reduceToNat, Int.reduceEq]) (by simp only [go_sem, reduceCtorEq, reduceIte, Nat.reduceEqDiff, Nat.reduceAdd, Nat.reduceLeDiff, Nat.reduceMul, Int.reduceLT, Int.reduceLE, Int.reduceAdd, Int.reduceSub, Int.reduceMul, Int.reduceNeg, Int.reduceToNat, Int.reduceEq]), by simp only [go_sem, reduceCtorEq, reduceIte, Nat.reduceEqDiff, Nat.reduceAdd, Nat.reduceLeDiff, Nat.reduceMul, Int.reduceLT, Int.reduceLE, Int.reduceAdd, Int.reduceSub, Int.reduceMul, Int.reduceNeg, Int.reduceToNat, Int.reduceEq, s.h5], by simp only [go_sem, reduceCtorEq, reduceIte, Nat.reduceEqDiff, Nat.reduceAdd, Nat.reduceLeDiff, Nat.reduceMul, Int.reduceLT, Int.reduceLE, Int.reduceAdd, Int.reduceSub, Int.reduceMul, Int.reduceNeg, Int.reduceToNat, Int.reduceEq, s.h6], s.rd⟩, by simp only [go_sem, reduceCtorEq, reduceIte, Nat.reduceEqDiff, Nat.reduceAdd, Nat.reduceLeDiff, Nat.reduceMul, Int.reduceLT, Int.reduceLE, Int.reduceAdd, Int.reduceSub, Int.reduceMul, Int.reduceNeg, Int.reduceToNat, Int.reduceEq, h7], 0, by omega, by simp only [go_sem, reduceCtorEq, reduceIte, Nat.reduceEqDiff, Nat.reduceAdd, Nat.reduceLeDiff, Nat.reduceMul, Int.reduceLT, Int.reduceLE, Int.reduceAdd, Int.reduceSub, Int.reduceMul, Int.reduceNeg, Int.reduceToNat, Int.reduceEq] <;> rfl⟩
  clear s h6 h7
  rintro mj σ F3 M3 ⟨s, h7, j, hj, h8⟩
  obtain rfl := s.f
  have h6 := s.h6
  rw [← hsl] at h6
  have e2 : IntKind.i64.wrap (2 * (L.length : Int)) = 2 * L.length := w64 (by omega) (by omega)
  by_cases hjl : (j : Int) < 2 * L.length
  rotate_left
  · simp only [go_sem, reduceCtorEq, reduceIte, Nat.reduceEqDiff, Nat.reduceAdd, Nat.reduceLeDiff, Nat.reduceMul, Int.reduceLT, Int.reduceLE, Int.reduceAdd, Int.reduceSub, Int.reduceMul, Int.reduceNeg, Int.reduceToNat, Int.reduceEq, s.h1, s.h2, s.h5, h6, h7, h8, e2, hjl, ei]
    exact ⟨mi - 1, by omega, ⟨s.toT0.ext (by simp only [go_sem, reduceCtorEq, reduceIte, Nat.reduceEqDiff, Nat.reduceAdd, Nat.reduceLeDiff, Nat.reduceMul, Int.reduceLT, Int.reduceLE, Int.reduceAdd, Int.reduceSub, Int.reduceMul, Int.reduceNeg, Int.reduceToNat, Int.reduceEq]) (by simp only [go_sem, reduceCtorEq, reduceIte, Nat.reduceEqDiff, Nat.reduceAdd, Nat.reduceLeDiff, Nat.reduceMul, Int.reduceLT, Int.reduceLE, Int.reduceAdd, Int.reduceSub, Int.reduceMul, Int.reduceNeg, Int.reduceToNat, Int.reduceEq]), by simp only [go_sem, reduceCtorEq, reduceIte, Nat.reduceEqDiff, Nat.reduceAdd, Nat.reduceLeDiff, Nat.reduceMul, Int.reduceLT, Int.reduceLE, Int.reduceAdd, Int.reduceSub, Int.reduceMul, Int.reduceNeg, Int.reduceToNat, Int.reduceEq, s.h5], by simp only [go_sem, reduceCtorEq, reduceIte, Nat.reduceEqDiff, Nat.reduceAdd, Nat.reduceLeDiff, Nat.reduceMul, Int.reduceLT, Int.reduceLE, Int.reduceAdd, Int.reduceSub, Int.reduceMul, Int.reduceNeg, Int.reduceToNat, Int.reduceEq, s.h6], s.rd⟩, i + 1, by omega, by simp only [go_sem, reduceCtorEq, reduceIte, Nat.reduceEqDiff, Nat.reduceAdd, Nat.reduceLeDiff, Nat.reduceMul, Int.reduceLT, Int.reduceLE, Int.reduceAdd, Int.reduceSub, Int.reduceMul, Int.reduceNeg, Int.reduceToNat, Int.reduceEq]; rfl⟩
  have ej : IntKind.i64.wrap ((j : Int) + 1) = j + 1 := w64 (by omega) (by omega)
  refine cut (tjB F3 M r2 [.slice aV lv.length cV, .slice aN ln.length cN] op k sl L i j) ?_ ?_
  · simp only [go_sem, reduceCtorEq, reduceIte, Nat.reduceEqDiff, Nat.reduceAdd, Nat.reduceLeDiff, Nat.reduceMul, Int.reduceLT, Int.reduceLE, Int.reduceAdd, Int.reduceSub, Int.reduceMul, Int.reduceNeg, Int.reduceToNat, Int.reduceEq, s.h1, s.h2, s.h5, h6, h7, h8, e2, hjl]
    exact ⟨⟨s.toT0.ext (by simp only [go_sem, reduceCtorEq, reduceIte, Nat.reduceEqDiff, Nat.reduceAdd, Nat.reduceLeDiff, Nat.reduceMul, Int.reduceLT, Int.reduceLE, Int.reduceAdd, Int.reduceSub, Int.reduceMul, Int.reduceNeg, Int.reduceToNat, Int.reduceEq]) (by simp only [go_sem, reduceCtorEq, reduceIte, Nat.reduceEqDiff, Nat.reduceAdd, Nat.reduceLeDiff, Nat.reduceMul, Int.reduceLT, Int.reduceLE, Int.reduceAdd, Int.reduceSub, Int.reduceMul, Int.reduceNeg, Int.reduceToNat, Int.reduceEq]), by simp only [go_sem, reduceCtorEq, reduceIte, Nat.reduceEqDiff, Nat.reduceAdd, Nat.reduceLeDiff, Nat.reduceMul, Int.reduceLT, Int.reduceLE, Int.reduceAdd, Int.reduceSub, Int.reduceMul, Int.reduceNeg, Int.reduceToNat, Int.reduceEq, s.h5], by simp only [go_sem, reduceCtorEq, reduceIte, Nat.reduceEqDiff, Nat.reduceAdd, Nat.reduceLeDiff, Nat.reduceMul, Int.reduceLT, Int.reduceLE, Int.reduceAdd, Int.reduceSub, Int.reduceMul, Int.reduceNeg, Int.reduceToNat, Int.reduceEq, s.h6], s.rd⟩, by simp only [go_sem, reduceCtorEq, reduceIte, Nat.reduceEqDiff, Nat.reduceAdd, Nat.reduceLeDiff, Nat.reduceMul, Int.reduceLT, Int.reduceLE, Int.reduceAdd, Int.reduceSub, Int.reduceMul, Int.reduceNeg, Int.reduceToNat, Int.reduceEq, h7], by simp only [go_sem, reduceCtorEq, reduceIte, Nat.reduceEqDiff, Nat.reduceAdd, Nat.reduceLeDiff, Nat.reduceMul, Int.reduceLT, Int.reduceLE, Int.reduceAdd, Int.reduceSub, Int.reduceMul, Int.reduceNeg, Int.reduceToNat, Int.reduceEq, h8]⟩
  clear s h6 h7 h8
  rintro σ F4 M4 ⟨s, h7, h8⟩
  obtain rfl := s.f
  refine cut (tjB F4 M r2 [.slice aV lv.length cV, .slice aN ln.length cN] op k sl L i j) ?_ ?_
  rotate_left
  · rintro σ F5 M5 ⟨s, h7, h8⟩
    obtain rfl := s.f
    simp only [go_sem, reduceCtorEq, reduceIte, Nat.reduceEqDiff, Nat.reduceAdd, Nat.reduceLeDiff, Nat.reduceMul, Int.reduceLT, Int.reduceLE, Int.reduceAdd, Int.reduceSub, Int.reduceMul, Int.reduceNeg, Int.reduceToNat, Int.reduceEq, s.h1, s.h2, s.h5, s.h6, h7, h8, ej]
    exact ⟨mj - 1, by omega, ⟨s.toT0.ext (by simp only [go_sem, reduceCtorEq, reduceIte, Nat.reduceEqDiff, Nat.reduceAdd, Nat.reduceLeDiff, Nat.reduceMul, Int.reduceLT, Int.reduceLE, Int.reduceAdd, Int.reduceSub, Int.reduceMul, Int.reduceNeg, Int.reduceToNat, Int.reduceEq]) (by simp only [go_sem, reduceCtorEq, reduceIte, Nat.reduceEqDiff, Nat.reduceAdd, Nat.reduceLeDiff, Nat.reduceMul, Int.reduceLT, Int.reduceLE, Int.reduceAdd, Int.reduceSub, Int.reduceMul, Int.reduceNeg, Int.reduceToNat, Int.reduceEq]), by simp only [go_sem, reduceCtorEq, reduceIte, Nat.reduceEqDiff, Nat.reduceAdd, Nat.reduceLeDiff, Nat.reduceMul, Int.reduceLT, Int.reduceLE, Int.reduceAdd, Int.reduceSub, Int.reduceMul, Int.reduceNeg, Int.reduceToNat, Int.reduceEq, s.h5], by simp only [go_sem, reduceCtorEq, reduceIte, Nat.reduceEqDiff, Nat.reduceAdd, Nat.reduceLeDiff, Nat.reduceMul, Int.reduceLT, Int.reduceLE, Int.reduceAdd, Int.reduceSub, Int.reduceMul, Int.reduceNeg, Int.reduceToNat, Int.reduceEq, s.h6], s.rd⟩, by simp only [go_sem, reduceCtorEq, reduceIte, Nat.reduceEqDiff, Nat.reduceAdd, Nat.reduceLeDiff, Nat.reduceMul, Int.reduceLT, Int.reduceLE, Int.reduceAdd, Int.reduceSub, Int.reduceMul, Int.reduceNeg, Int.reduceToNat, Int.reduceEq, h7], j + 1, by omega, by simp only [go_sem, reduceCtorEq, reduceIte, Nat.reduceEqDiff, Nat.reduceAdd, Nat.reduceLeDiff, Nat.reduceMul, Int.reduceLT, Int.reduceLE, Int.reduceAdd, Int.reduceSub, Int.reduceMul, Int.reduceNeg, Int.reduceToNat, Int.reduceEq]; rfl⟩
  rw [W_block]
  refine cut (J0 F4 M r2 [.slice aV lv.length cV, .slice aN ln.length cN] op k sl L i j) ?_ ?_
  · have h6 := s.h6
    rw [← hsl] at h6
    obtain ⟨_, ad', cap', _, esl, hread⟩ := s.rd
    rw [← hsl] at esl
    cases esl
    rcases hread with h | ⟨b, o, cs, eb, hb, hc⟩
    · rw [h] at hil; simp at hil; omega
    cases eb
    have hi0 : (0 : Int) ≤ i := by omega
    have hi' : i < L.length := by omega
    have hj2 : j / 2 < L.length := by omega
    have q1 : (j : Int).tdiv 2 = ((j / 2 : Nat) : Int) := by rw [Int.tdiv_eq_ediv_of_nonneg (by omega)]; rfl
    have q2 : IntKind.i64.wrap ((j / 2 : Nat) : Int) = ((j / 2 : Nat) : Int) := w64 (by omega) (by omega)
    have q3 : (0 : Int) ≤ ((j / 2 : Nat) : Int) := by omega
    have q4 : ((j / 2 : Nat) : Int) < L.length := by omega
    have n2 : ¬ (2 : Int) = 0 := by decide
    obtain ⟨d1, d2⟩ := hc i hi'
    obtain ⟨d3, d4⟩ := hc (j / 2) hj2
    simp only [Nat.zero_add] at d1 d2 d3 d4
    generalize L[i] = va at d2
    generalize L[j / 2] = vb at d4
    generalize j / 2 = jh at *
    simp only [go_sem, reduceCtorEq, reduceIte, Nat.reduceEqDiff, Nat.reduceAdd, Nat.reduceLeDiff, Nat.reduceMul, Int.reduceLT, Int.reduceLE, Int.reduceAdd, Int.reduceSub, Int.reduceMul, Int.reduceNeg, Int.reduceToNat, Int.reduceEq, s.h1, s.h2, s.h5, h6, h7, h8, hil, hi0, Int.toNat_natCast, hb, d1, d2, q1, q2, q3, q4, d3, d4, n2, not_false_eq_true]
    intro r9 hF9 hM9
    have b9 := blk_ne hb hF9 hM9
    simp only [go_sem, reduceCtorEq, reduceIte, Nat.reduceEqDiff, Nat.reduceAdd, Nat.reduceLeDiff, Nat.reduceMul, Int.reduceLT, Int.reduceLE, Int.reduceAdd, Int.reduceSub, Int.reduceMul, Int.reduceNeg, Int.reduceToNat, Int.reduceEq, s.h1, s.h2, s.h5, h6, h7, h8, b9]
    intro r10 hF10 hM10
    have g10 := fresh_of hM10
    have b10 := blk_ne hb hF10 g10.2.2
    simp only [go_sem, reduceCtorEq, reduceIte, Nat.reduceEqDiff, Nat.reduceAdd, Nat.reduceLeDiff, Nat.reduceMul, Int.reduceLT, Int.reduceLE, Int.reduceAdd, Int.reduceSub, Int.reduceMul, Int.reduceNeg, Int.reduceToNat, Int.reduceEq, s.h1, s.h2, s.h5, h6, h7, h8, b9, b10, g10, not_false_eq_true]
    have g9 := ne_of_none hM9 s.fr
    have g102 := ne_of_none g10.2.2 s.fr
    refine ⟨⟨⟨⟨rfl, (s.kp.new (s.kp.free hM9)).new (s.kp.free g10.2.2), (s.old.upd hF9).upd hF10, ?_, by simp only [go_sem, reduceCtorEq, reduceIte, Nat.reduceEqDiff, Nat.reduceAdd, Nat.reduceLeDiff, Nat.reduceMul, Int.reduceLT, Int.reduceLE, Int.reduceAdd, Int.reduceSub, Int.reduceMul, Int.reduceNeg, Int.reduceToNat, Int.reduceEq, s.h1], by simp only [go_sem, reduceCtorEq, reduceIte, Nat.reduceEqDiff, Nat.reduceAdd, Nat.reduceLeDiff, Nat.reduceMul, Int.reduceLT, Int.reduceLE, Int.reduceAdd, Int.reduceSub, Int.reduceMul, Int.reduceNeg, Int.reduceToNat, Int.reduceEq, s.h2]⟩, by simp only [go_sem, reduceCtorEq, reduceIte, Nat.reduceEqDiff, Nat.reduceAdd, Nat.reduceLeDiff, Nat.reduceMul, Int.reduceLT, Int.reduceLE, Int.reduceAdd, Int.reduceSub, Int.reduceMul, Int.reduceNeg, Int.reduceToNat, Int.reduceEq, s.h5], by simp only [go_sem, reduceCtorEq, reduceIte, Nat.reduceEqDiff, Nat.reduceAdd, Nat.reduceLeDiff, Nat.reduceMul, Int.reduceLT, Int.reduceLE, Int.reduceAdd, Int.reduceSub, Int.reduceMul, Int.reduceNeg, Int.reduceToNat, Int.reduceEq, s.h6], ?_⟩, by simp only [go_sem, reduceCtorEq, reduceIte, Nat.reduceEqDiff, Nat.reduceAdd, Nat.reduceLeDiff, Nat.reduceMul, Int.reduceLT, Int.reduceLE, Int.reduceAdd, Int.reduceSub, Int.reduceMul, Int.reduceNeg, Int.reduceToNat, Int.reduceEq, h7], by simp only [go_sem, reduceCtorEq, reduceIte, Nat.reduceEqDiff, Nat.reduceAdd, Nat.reduceLeDiff, Nat.reduceMul, Int.reduceLT, Int.reduceLE, Int.reduceAdd, Int.reduceSub, Int.reduceMul, Int.reduceNeg, Int.reduceToNat, Int.reduceEq, h8]⟩, r9, r10, va, vb, _, by simp only [go_sem, reduceCtorEq, reduceIte, Nat.reduceEqDiff, Nat.reduceAdd, Nat.reduceLeDiff, Nat.reduceMul, Int.reduceLT, Int.reduceLE, Int.reduceAdd, Int.reduceSub, Int.reduceMul, Int.reduceNeg, Int.reduceToNat, Int.reduceEq], by simp only [go_sem, reduceCtorEq, reduceIte, Nat.reduceEqDiff, Nat.reduceAdd, Nat.reduceLeDiff, Nat.reduceMul, Int.reduceLT, Int.reduceLE, Int.reduceAdd, Int.reduceSub, Int.reduceMul, Int.reduceNeg, Int.reduceToNat, Int.reduceEq], by simp only [go_sem, reduceCtorEq, reduceIte, Nat.reduceEqDiff, Nat.reduceAdd, Nat.reduceLeDiff, Nat.reduceMul, Int.reduceLT, Int.reduceLE, Int.reduceAdd, Int.reduceSub, Int.reduceMul, Int.reduceNeg, Int.reduceToNat, Int.reduceEq] <;> rfl, ?_, Hp.upd_same _ _ _⟩
    · rw [Hp.upd_ne' g102.1, Hp.upd_ne' g9.1]; exact s.fr
    · exact s.rd.keep (((Keep.refl _).new hM9).new g10.2.2) ((s.old.upd hF9).upd hF10)
    · rw [Hp.upd_ne' g10.2.1]; exact Hp.upd_same _ _ _
  clear s h7 h8
  rintro σ F5 M5 ⟨⟨s, h7, h8⟩, r9, r10, a, b, yes, h9, h10, h11, f9, f10⟩
  obtain rfl := s.f
  refine cut (J1 F5 M r2 [.slice aV lv.length cV, .slice aN ln.length cN] op k sl L i j) ?_ ?_
  · have b9 := blk_M (F := F5) f9
    have b10 := blk_M (F := F5) f10
    simp only [go_sem, reduceCtorEq, reduceIte, Nat.reduceEqDiff, Nat.reduceAdd, Nat.reduceLeDiff, Nat.reduceMul, Int.reduceLT, Int.reduceLE, Int.reduceAdd, Int.reduceSub, Int.reduceMul, Int.reduceNeg, Int.reduceToNat, Int.reduceEq, s.h1, s.h2, s.h5, h7, h8, h9, h10, h11, b9, b10]
    refine callK_of (k43 _ _ op k a b yes) ?_
    rintro u G M6 ⟨hG, hM6, ht⟩
    rw [hG, hM6]
    clear hG hM6
    refine ⟨fun _ => Le.refl _ _, ?_⟩
    have mk2 : ∀ σ' (r12 r13 : Nat) (x y : V), F5 r12 = none → M5 r12 = none → F5 r13 = none → (M5.upd r12 ⟨x.cs, 34, 6⟩) r13 = none → Ax.look σ' 1 = Ax.look σ 1 → Ax.look σ' 2 = Ax.look σ 2 → Ax.look σ' 5 = Ax.look σ 5 → Ax.look σ' 6 = Ax.look σ 6 → Ax.look σ' 7 = Ax.look σ 7 → Ax.look σ' 8 = Ax.look σ 8 → Ax.look σ' 9 = Ax.look σ 9 → Ax.look σ' 10 = Ax.look σ 10 → Ax.look σ' 11 = Ax.look σ 11 →
        Ax.look σ' 12 = some (.pointer (some ⟨r12, 0, none⟩)) → Ax.look σ' 13 = some (.pointer (some ⟨r13, 0, none⟩)) →
        T2 F5 M r2 [.slice aV lv.length cV, .slice aN ln.length cN] op k sl L i j r9 r10 r12 r13 a b x y yes σ' F5 ((M5.upd r12 ⟨x.cs, 34, 6⟩).upd r13 ⟨y.cs, 34, 6⟩) := by
      intro σ' r12 r13 x y hF12 hM12 hF13 hM13 e1 e2 e5 e6 e7 e8 e9 e10 e11 e12 e13
      have g13 := fresh_of hM13
      have kk := ((Keep.refl M5).new hM12 (e := ⟨x.cs, 34, 6⟩)).new g13.2.2 (e := ⟨y.cs, 34, 6⟩)
      have oo := (s.old.upd hF12 (e := ⟨x.cs, 34, 6⟩)).upd hF13 (e := ⟨y.cs, 34, 6⟩)
      exact ⟨⟨⟨rfl, s.kp.trans kk, oo, kk _ _ s.fr, e1.trans s.h1, e2.trans s.h2⟩, e5.trans s.h5, e6.trans s.h6, s.rd.keep kk oo⟩, e7.trans h7, e8.trans h8, e9.trans h9, e10.trans h10, e11.trans h11, e12, e13, kk _ _ f9, kk _ _ f10, by rw [Hp.upd_ne' g13.2.1]; exact Hp.upd_same _ _ _, Hp.upd_same _ _ _⟩
    rcases ht with ⟨hask, x, y, rfl, p⟩ | ⟨hask, rfl⟩
    · simp only [go_sem, reduceCtorEq, reduceIte, Nat.reduceEqDiff, Nat.reduceAdd, Nat.reduceLeDiff, Nat.reduceMul, Int.reduceLT, Int.reduceLE, Int.reduceAdd, Int.reduceSub, Int.reduceMul, Int.reduceNeg, Int.reduceToNat, Int.reduceEq, s.h1, s.h2, s.h5, h7, h8, h9, h10, h11, b9, b10]
      intro r12 hF12 hM12
      simp only [go_sem, reduceCtorEq, reduceIte, Nat.reduceEqDiff, Nat.reduceAdd, Nat.reduceLeDiff, Nat.reduceMul, Int.reduceLT, Int.reduceLE, Int.reduceAdd, Int.reduceSub, Int.reduceMul, Int.reduceNeg, Int.reduceToNat, Int.reduceEq, s.h1, s.h2, s.h5, h7, h8, h9, h10, h11, b9, b10]
      intro r13 hF13 hM13
      have g13 := fresh_of hM13
      simp only [go_sem, reduceCtorEq, reduceIte, Nat.reduceEqDiff, Nat.reduceAdd, Nat.reduceLeDiff, Nat.reduceMul, Int.reduceLT, Int.reduceLE, Int.reduceAdd, Int.reduceSub, Int.reduceMul, Int.reduceNeg, Int.reduceToNat, Int.reduceEq, s.h1, s.h2, s.h5, h7, h8, h9, h10, h11, b9, b10, g13]
      exact ⟨r9, r10, r12, r13, a, b, x, y, yes, mk2 _ r12 r13 x y hF12 hM12 hF13 (by rw [upd_none]; exact ⟨g13.1, g13.2.2⟩) (by simp only [go_sem, reduceCtorEq, reduceIte, Nat.reduceEqDiff, Nat.reduceAdd, Nat.reduceLeDiff, Nat.reduceMul, Int.reduceLT, Int.reduceLE, Int.reduceAdd, Int.reduceSub, Int.reduceMul, Int.reduceNeg, Int.reduceToNat, Int.reduceEq]) (by simp only [go_sem, reduceCtorEq, reduceIte, Nat.reduceEqDiff, Nat.reduceAdd, Nat.reduceLeDiff, Nat.reduceMul, Int.reduceLT, Int.reduceLE, Int.reduceAdd, Int.reduceSub, Int.reduceMul, Int.reduceNeg, Int.reduceToNat, Int.reduceEq]) (by simp only [go_sem, reduceCtorEq, reduceIte, Nat.reduceEqDiff, Nat.reduceAdd, Nat.reduceLeDiff, Nat.reduceMul, Int.reduceLT, Int.reduceLE, Int.reduceAdd, Int.reduceSub, Int.reduceMul, Int.reduceNeg, Int.reduceToNat, Int.reduceEq]) (by simp only [go_sem, reduceCtorEq, reduceIte, Nat.reduceEqDiff, Nat.reduceAdd, Nat.reduceLeDiff, Nat.reduceMul, Int.reduceLT, Int.reduceLE, Int.reduceAdd, Int.reduceSub, Int.reduceMul, Int.reduceNeg, Int.reduceToNat, Int.reduceEq]) (by simp only [go_sem, reduceCtorEq, reduceIte, Nat.reduceEqDiff, Nat.reduceAdd, Nat.reduceLeDiff, Nat.reduceMul, Int.reduceLT, Int.reduceLE, Int.reduceAdd, Int.reduceSub, Int.reduceMul, Int.reduceNeg, Int.reduceToNat, Int.reduceEq]) (by simp only [go_sem, reduceCtorEq, reduceIte, Nat.reduceEqDiff, Nat.reduceAdd, Nat.reduceLeDiff, Nat.reduceMul, Int.reduceLT, Int.reduceLE, Int.reduceAdd, Int.reduceSub, Int.reduceMul, Int.reduceNeg, Int.reduceToNat, Int.reduceEq]) (by simp only [go_sem, reduceCtorEq, reduceIte, Nat.reduceEqDiff, Nat.reduceAdd, Nat.reduceLeDiff, Nat.reduceMul, Int.reduceLT, Int.reduceLE, Int.reduceAdd, Int.reduceSub, Int.reduceMul, Int.reduceNeg, Int.reduceToNat, Int.reduceEq]) (by simp only [go_sem, reduceCtorEq, reduceIte, Nat.reduceEqDiff, Nat.reduceAdd, Nat.reduceLeDiff, Nat.reduceMul, Int.reduceLT, Int.reduceLE, Int.reduceAdd, Int.reduceSub, Int.reduceMul, Int.reduceNeg, Int.reduceToNat, Int.reduceEq]) (by simp only [go_sem, reduceCtorEq, reduceIte, Nat.reduceEqDiff, Nat.reduceAdd, Nat.reduceLeDiff, Nat.reduceMul, Int.reduceLT, Int.reduceLE, Int.reduceAdd, Int.reduceSub, Int.reduceMul, Int.reduceNeg, Int.reduceToNat, Int.reduceEq]) (by simp only [go_sem, reduceCtorEq, reduceIte, Nat.reduceEqDiff, Nat.reduceAdd, Nat.reduceLeDiff, Nat.reduceMul, Int.reduceLT, Int.reduceLE, Int.reduceAdd, Int.reduceSub, Int.reduceMul, Int.reduceNeg, Int.reduceToNat, Int.reduceEq]) (by simp only [go_sem, reduceCtorEq, reduceIte, Nat.reduceEqDiff, Nat.reduceAdd, Nat.reduceLeDiff, Nat.reduceMul, Int.reduceLT, Int.reduceLE, Int.reduceAdd, Int.reduceSub, Int.reduceMul, Int.reduceNeg, Int.reduceToNat, Int.reduceEq]), .inl ⟨hask, by simp only [go_sem, reduceCtorEq, reduceIte, Nat.reduceEqDiff, Nat.reduceAdd, Nat.reduceLeDiff, Nat.reduceMul, Int.reduceLT, Int.reduceLE, Int.reduceAdd, Int.reduceSub, Int.reduceMul, Int.reduceNeg, Int.reduceToNat, Int.reduceEq], p⟩⟩
    · simp only [go_sem, reduceCtorEq, reduceIte, Nat.reduceEqDiff, Nat.reduceAdd, Nat.reduceLeDiff, Nat.reduceMul, Int.reduceLT, Int.reduceLE, Int.reduceAdd, Int.reduceSub, Int.reduceMul, Int.reduceNeg, Int.reduceToNat, Int.reduceEq, s.h1, s.h2, s.h5, h7, h8, h9, h10, h11, b9, b10]
      intro r12 hF12 hM12
      simp only [go_sem, reduceCtorEq, reduceIte, Nat.reduceEqDiff, Nat.reduceAdd, Nat.reduceLeDiff, Nat.reduceMul, Int.reduceLT, Int.reduceLE, Int.reduceAdd, Int.reduceSub, Int.reduceMul, Int.reduceNeg, Int.reduceToNat, Int.reduceEq, s.h1, s.h2, s.h5, h7, h8, h9, h10, h11, b9, b10]
      intro r13 hF13 hM13
      have g13 := fresh_of hM13
      simp only [go_sem, reduceCtorEq, reduceIte, Nat.reduceEqDiff, Nat.reduceAdd, Nat.reduceLeDiff, Nat.reduceMul, Int.reduceLT, Int.reduceLE, Int.reduceAdd, Int.reduceSub, Int.reduceMul, Int.reduceNeg, Int.reduceToNat, Int.reduceEq, s.h1, s.h2, s.h5, h7, h8, h9, h10, h11, b9, b10, g13]
      exact ⟨r9, r10, r12, r13, a, b, V.zero, V.zero, yes, mk2 _ r12 r13 V.zero V.zero hF12 hM12 hF13 (by rw [upd_none]; exact ⟨g13.1, g13.2.2⟩) (by simp only [go_sem, reduceCtorEq, reduceIte, Nat.reduceEqDiff, Nat.reduceAdd, Nat.reduceLeDiff, Nat.reduceMul, Int.reduceLT, Int.reduceLE, Int.reduceAdd, Int.reduceSub, Int.reduceMul, Int.reduceNeg, Int.reduceToNat, Int.reduceEq]) (by simp only [go_sem, reduceCtorEq, reduceIte, Nat.reduceEqDiff, Nat.reduceAdd, Nat.reduceLeDiff, Nat.reduceMul, Int.reduceLT, Int.reduceLE, Int.reduceAdd, Int.reduceSub, Int.reduceMul, Int.reduceNeg, Int.reduceToNat, Int.reduceEq]) (by simp only [go_sem, reduceCtorEq, reduceIte, Nat.reduceEqDiff, Nat.reduceAdd, Nat.reduceLeDiff, Nat.reduceMul, Int.reduceLT, Int.reduceLE, Int.reduceAdd, Int.reduceSub, Int.reduceMul, Int.reduceNeg, Int.reduceToNat, Int.reduceEq]) (by simp only [go_sem, reduceCtorEq, reduceIte, Nat.reduceEqDiff, Nat.reduceAdd, Nat.reduceLeDiff, Nat.reduceMul, Int.reduceLT, Int.reduceLE, Int.reduceAdd, Int.reduceSub, Int.reduceMul, Int.reduceNeg, Int.reduceToNat, Int.reduceEq]) (by simp only [go_sem, reduceCtorEq, reduceIte, Nat.reduceEqDiff, Nat.reduceAdd, Nat.reduceLeDiff, Nat.reduceMul, Int.reduceLT, Int.reduceLE, Int.reduceAdd, Int.reduceSub, Int.reduceMul, Int.reduceNeg, Int.reduceToNat, Int.reduceEq]) (by simp only [go_sem, reduceCtorEq, reduceIte, Nat.reduceEqDiff, Nat.reduceAdd, Nat.reduceLeDiff, Nat.reduceMul, Int.reduceLT, Int.reduceLE, Int.reduceAdd, Int.reduceSub, Int.reduceMul, Int.reduceNeg, Int.reduceToNat, Int.reduceEq]) (by simp only [go_sem, reduceCtorEq, reduceIte, Nat.reduceEqDiff, Nat.reduceAdd, Nat.reduceLeDiff, Nat.reduceMul, Int.reduceLT, Int.reduceLE, Int.reduceAdd, Int.reduceSub, Int.reduceMul, Int.reduceNeg, Int.reduceToNat, Int.reduceEq]) (by simp only [go_sem, reduceCtorEq, reduceIte, Nat.reduceEqDiff, Nat.reduceAdd, Nat.reduceLeDiff, Nat.reduceMul, Int.reduceLT, Int.reduceLE, Int.reduceAdd, Int.reduceSub, Int.reduceMul, Int.reduceNeg, Int.reduceToNat, Int.reduceEq]) (by simp only [go_sem, reduceCtorEq, reduceIte, Nat.reduceEqDiff, Nat.reduceAdd, Nat.reduceLeDiff, Nat.reduceMul, Int.reduceLT, Int.reduceLE, Int.reduceAdd, Int.reduceSub, Int.reduceMul, Int.reduceNeg, Int.reduceToNat, Int.reduceEq]) (by simp only [go_sem, reduceCtorEq, reduceIte, Nat.reduceEqDiff, Nat.reduceAdd, Nat.reduceLeDiff, Nat.reduceMul, Int.reduceLT, Int.reduceLE, Int.reduceAdd, Int.reduceSub, Int.reduceMul, Int.reduceNeg, Int.reduceToNat, Int.reduceEq]) (by simp only [go_sem, reduceCtorEq, reduceIte, Nat.reduceEqDiff, Nat.reduceAdd, Nat.reduceLeDiff, Nat.reduceMul, Int.reduceLT, Int.reduceLE, Int.reduceAdd, Int.reduceSub, Int.reduceMul, Int.reduceNeg, Int.reduceToNat, Int.reduceEq]), .inr ⟨hask, by simp only [go_sem, reduceCtorEq, reduceIte, Nat.reduceEqDiff, Nat.reduceAdd, Nat.reduceLeDiff, Nat.reduceMul, Int.reduceLT, Int.reduceLE, Int.reduceAdd, Int.reduceSub, Int.reduceMul, Int.reduceNeg, Int.reduceToNat, Int.reduceEq]⟩⟩
  clear s h7 h8 h9 h10 h11 f9 f10
  clear r9 r10 a b yes
  rintro σ F6 M6 ⟨r9, r10, r12, r13, a, b, x, y, yes, s, h14⟩
  obtain rfl := s.f
  refine cut (J2a F6 M r2 [.slice aV lv.length cV, .slice aN ln.length cN] op k sl L i j r9 r10 r12 r13 a b x y yes) ?_ ?_
  · simp only [go_sem, reduceCtorEq, reduceIte, Nat.reduceEqDiff, Nat.reduceAdd, Nat.reduceLeDiff, Nat.reduceMul, Int.reduceLT, Int.reduceLE, Int.reduceAdd, Int.reduceSub, Int.reduceMul, Int.reduceNeg, Int.reduceToNat, Int.reduceEq]
    exact ⟨s.ext (by simp only [go_sem, reduceCtorEq, reduceIte, Nat.reduceEqDiff, Nat.reduceAdd, Nat.reduceLeDiff, Nat.reduceMul, Int.reduceLT, Int.reduceLE, Int.reduceAdd, Int.reduceSub, Int.reduceMul, Int.reduceNeg, Int.reduceToNat, Int.reduceEq]) (by simp only [go_sem, reduceCtorEq, reduceIte, Nat.reduceEqDiff, Nat.reduceAdd, Nat.reduceLeDiff, Nat.reduceMul, Int.reduceLT, Int.reduceLE, Int.reduceAdd, Int.reduceSub, Int.reduceMul, Int.reduceNeg, Int.reduceToNat, Int.reduceEq]) (by simp only [go_sem, reduceCtorEq, reduceIte, Nat.reduceEqDiff, Nat.reduceAdd, Nat.reduceLeDiff, Nat.reduceMul, Int.reduceLT, Int.reduceLE, Int.reduceAdd, Int.reduceSub, Int.reduceMul, Int.reduceNeg, Int.reduceToNat, Int.reduceEq]) (by simp only [go_sem, reduceCtorEq, reduceIte, Nat.reduceEqDiff, Nat.reduceAdd, Nat.reduceLeDiff, Nat.reduceMul, Int.reduceLT, Int.reduceLE, Int.reduceAdd, Int.reduceSub, Int.reduceMul, Int.reduceNeg, Int.reduceToNat, Int.reduceEq]) (by simp only [go_sem, reduceCtorEq, reduceIte, Nat.reduceEqDiff, Nat.reduceAdd, Nat.reduceLeDiff, Nat.reduceMul, Int.reduceLT, Int.reduceLE, Int.reduceAdd, Int.reduceSub, Int.reduceMul, Int.reduceNeg, Int.reduceToNat, Int.reduceEq]) (by simp only [go_sem, reduceCtorEq, reduceIte, Nat.reduceEqDiff, Nat.reduceAdd, Nat.reduceLeDiff, Nat.reduceMul, Int.reduceLT, Int.reduceLE, Int.reduceAdd, Int.reduceSub, Int.reduceMul, Int.reduceNeg, Int.reduceToNat, Int.reduceEq]) (by simp only [go_sem, reduceCtorEq, reduceIte, Nat.reduceEqDiff, Nat.reduceAdd, Nat.reduceLeDiff, Nat.reduceMul, Int.reduceLT, Int.reduceLE, Int.reduceAdd, Int.reduceSub, Int.reduceMul, Int.reduceNeg, Int.reduceToNat, Int.reduceEq]) (by simp only [go_sem, reduceCtorEq, reduceIte, Nat.reduceEqDiff, Nat.reduceAdd, Nat.reduceLeDiff, Nat.reduceMul, Int.reduceLT, Int.reduceLE, Int.reduceAdd, Int.reduceSub, Int.reduceMul, Int.reduceNeg, Int.reduceToNat, Int.reduceEq]) (by simp only [go_sem, reduceCtorEq, reduceIte, Nat.reduceEqDiff, Nat.reduceAdd, Nat.reduceLeDiff, Nat.reduceMul, Int.reduceLT, Int.reduceLE, Int.reduceAdd, Int.reduceSub, Int.reduceMul, Int.reduceNeg, Int.reduceToNat, Int.reduceEq]) (by simp only [go_sem, reduceCtorEq, reduceIte, Nat.reduceEqDiff, Nat.reduceAdd, Nat.reduceLeDiff, Nat.reduceMul, Int.reduceLT, Int.reduceLE, Int.reduceAdd, Int.reduceSub, Int.reduceMul, Int.reduceNeg, Int.reduceToNat, Int.reduceEq]) (by simp only [go_sem, reduceCtorEq, reduceIte, Nat.reduceEqDiff, Nat.reduceAdd, Nat.reduceLeDiff, Nat.reduceMul, Int.reduceLT, Int.reduceLE, Int.reduceAdd, Int.reduceSub, Int.reduceMul, Int.reduceNeg, Int.reduceToNat, Int.reduceEq]), h14.ext (by simp only [go_sem, reduceCtorEq, reduceIte, Nat.reduceEqDiff, Nat.reduceAdd, Nat.reduceLeDiff, Nat.reduceMul, Int.reduceLT, Int.reduceLE, Int.reduceAdd, Int.reduceSub, Int.reduceMul, Int.reduceNeg, Int.reduceToNat, Int.reduceEq]), by simp only [go_sem, reduceCtorEq, reduceIte, Nat.reduceEqDiff, Nat.reduceAdd, Nat.reduceLeDiff, Nat.reduceMul, Int.reduceLT, Int.reduceLE, Int.reduceAdd, Int.reduceSub, Int.reduceMul, Int.reduceNeg, Int.reduceToNat, Int.reduceEq]⟩
  clear s h14
  rintro σ F7 M7 ⟨s, h14, h15⟩
  obtain rfl := s.f
  refine cut (J2 F7 M r2 [.slice aV lv.length cV, .slice aN ln.length cN] op k sl L i j r9 r10 r12 r13 a b x y yes) ?_ ?_
  · simp only [go_sem, reduceCtorEq, reduceIte, Nat.reduceEqDiff, Nat.reduceAdd, Nat.reduceLeDiff, Nat.reduceMul, Int.reduceLT, Int.reduceLE, Int.reduceAdd, Int.reduceSub, Int.reduceMul, Int.reduceNeg, Int.reduceToNat, Int.reduceEq, s.h1, s.h2, s.h5, s.h7, s.h8, s.h9, s.h10, s.h11, s.h12, s.h13]
    refine callK_same (k46 _ _ k) ?_
    simp only [go_sem, reduceCtorEq, reduceIte, Nat.reduceEqDiff, Nat.reduceAdd, Nat.reduceLeDiff, Nat.reduceMul, Int.reduceLT, Int.reduceLE, Int.reduceAdd, Int.reduceSub, Int.reduceMul, Int.reduceNeg, Int.reduceToNat, Int.reduceEq, s.h1, s.h2, s.h5, s.h7, s.h8, s.h9, s.h10, s.h11, s.h12, s.h13]
    exact ⟨s.ext (by simp only [go_sem, reduceCtorEq, reduceIte, Nat.reduceEqDiff, Nat.reduceAdd, Nat.reduceLeDiff, Nat.reduceMul, Int.reduceLT, Int.reduceLE, Int.reduceAdd, Int.reduceSub, Int.reduceMul, Int.reduceNeg, Int.reduceToNat, Int.reduceEq]) (by simp only [go_sem, reduceCtorEq, reduceIte, Nat.reduceEqDiff, Nat.reduceAdd, Nat.reduceLeDiff, Nat.reduceMul, Int.reduceLT, Int.reduceLE, Int.reduceAdd, Int.reduceSub, Int.reduceMul, Int.reduceNeg, Int.reduceToNat, Int.reduceEq]) (by simp only [go_sem, reduceCtorEq, reduceIte, Nat.reduceEqDiff, Nat.reduceAdd, Nat.reduceLeDiff, Nat.reduceMul, Int.reduceLT, Int.reduceLE, Int.reduceAdd, Int.reduceSub, Int.reduceMul, Int.reduceNeg, Int.reduceToNat, Int.reduceEq]) (by simp only [go_sem, reduceCtorEq, reduceIte, Nat.reduceEqDiff, Nat.reduceAdd, Nat.reduceLeDiff, Nat.reduceMul, Int.reduceLT, Int.reduceLE, Int.reduceAdd, Int.reduceSub, Int.reduceMul, Int.reduceNeg, Int.reduceToNat, Int.reduceEq]) (by simp only [go_sem, reduceCtorEq, reduceIte, Nat.reduceEqDiff, Nat.reduceAdd, Nat.reduceLeDiff, Nat.reduceMul, Int.reduceLT, Int.reduceLE, Int.reduceAdd, Int.reduceSub, Int.reduceMul, Int.reduceNeg, Int.reduceToNat, Int.reduceEq]) (by simp only [go_sem, reduceCtorEq, reduceIte, Nat.reduceEqDiff, Nat.reduceAdd, Nat.reduceLeDiff, Nat.reduceMul, Int.reduceLT, Int.reduceLE, Int.reduceAdd, Int.reduceSub, Int.reduceMul, Int.reduceNeg, Int.reduceToNat, Int.reduceEq]) (by simp only [go_sem, reduceCtorEq, reduceIte, Nat.reduceEqDiff, Nat.reduceAdd, Nat.reduceLeDiff, Nat.reduceMul, Int.reduceLT, Int.reduceLE, Int.reduceAdd, Int.reduceSub, Int.reduceMul, Int.reduceNeg, Int.reduceToNat, Int.reduceEq]) (by simp only [go_sem, reduceCtorEq, reduceIte, Nat.reduceEqDiff, Nat.reduceAdd, Nat.reduceLeDiff, Nat.reduceMul, Int.reduceLT, Int.reduceLE, Int.reduceAdd, Int.reduceSub, Int.reduceMul, Int.reduceNeg, Int.reduceToNat, Int.reduceEq]) (by simp only [go_sem, reduceCtorEq, reduceIte, Nat.reduceEqDiff, Nat.reduceAdd, Nat.reduceLeDiff, Nat.reduceMul, Int.reduceLT, Int.reduceLE, Int.reduceAdd, Int.reduceSub, Int.reduceMul, Int.reduceNeg, Int.reduceToNat, Int.reduceEq]) (by simp only [go_sem, reduceCtorEq, reduceIte, Nat.reduceEqDiff, Nat.reduceAdd, Nat.reduceLeDiff, Nat.reduceMul, Int.reduceLT, Int.reduceLE, Int.reduceAdd, Int.reduceSub, Int.reduceMul, Int.reduceNeg, Int.reduceToNat, Int.reduceEq]) (by simp only [go_sem, reduceCtorEq, reduceIte, Nat.reduceEqDiff, Nat.reduceAdd, Nat.reduceLeDiff, Nat.reduceMul, Int.reduceLT, Int.reduceLE, Int.reduceAdd, Int.reduceSub, Int.reduceMul, Int.reduceNeg, Int.reduceToNat, Int.reduceEq]), h14.ext (by simp only [go_sem, reduceCtorEq, reduceIte, Nat.reduceEqDiff, Nat.reduceAdd, Nat.reduceLeDiff, Nat.reduceMul, Int.reduceLT, Int.reduceLE, Int.reduceAdd, Int.reduceSub, Int.reduceMul, Int.reduceNeg, Int.reduceToNat, Int.reduceEq]), by simp only [go_sem, reduceCtorEq, reduceIte, Nat.reduceEqDiff, Nat.reduceAdd, Nat.reduceLeDiff, Nat.reduceMul, Int.reduceLT, Int.reduceLE, Int.reduceAdd, Int.reduceSub, Int.reduceMul, Int.reduceNeg, Int.reduceToNat, Int.reduceEq, h15], by simp only [go_sem, reduceCtorEq, reduceIte, Nat.reduceEqDiff, Nat.reduceAdd, Nat.reduceLeDiff, Nat.reduceMul, Int.reduceLT, Int.reduceLE, Int.reduceAdd, Int.reduceSub, Int.reduceMul, Int.reduceNeg, Int.reduceToNat, Int.reduceEq]⟩
  clear s h14 h15
  rintro σ F8 M8 ⟨s, h14, h15, h16⟩
  obtain rfl := s.f
  have b9 := blk_M (F := F8) s.f9
  have b10 := blk_M (F := F8) s.f10
  refine cut (J3 F8 M r2 [.slice aV lv.length cV, .slice aN ln.length cN] op k sl L i j r9 r10 r12 r13 a b x y yes) ?_ ?_
  · have fin0 : ∀ σ', Ax.look σ' 1 = Ax.look σ 1 → Ax.look σ' 2 = Ax.look σ 2 → Ax.look σ' 5 = Ax.look σ 5 → Ax.look σ' 6 = Ax.look σ 6 → Ax.look σ' 7 = Ax.look σ 7 → Ax.look σ' 8 = Ax.look σ 8 → Ax.look σ' 9 = Ax.look σ 9 → Ax.look σ' 10 = Ax.look σ 10 → Ax.look σ' 11 = Ax.look σ 11 → Ax.look σ' 12 = Ax.look σ 12 → Ax.look σ' 13 = Ax.look σ 13 → Ax.look σ' 14 = Ax.look σ 14 → Ax.look σ' 16 = Ax.look σ 16 →
        ∀ n : Int, Ax.look σ' 15 = some (.int .i64 n) → (askB op k a b = true ∧ n = 0 ∨ ¬ askB op k a b = true ∧ n = 1) → J3 F8 M r2 [.slice aV lv.length cV, .slice aN ln.length cN] op k sl L i j r9 r10 r12 r13 a b x y yes σ' F8 M8 := by
      intro σ' e1 e2 e5 e6 e7 e8 e9 e10 e11 e12 e13 e14 e16 n e15 hn
      refine ⟨s.ext e1 e2 e5 e6 e7 e8 e9 e10 e11 e12 e13, h14.ext e14, ?_, e16.trans h16⟩
      rcases hn with ⟨q, rfl⟩ | ⟨q, rfl⟩
      · rw [e15, if_pos q]
      · rw [e15, if_neg q]
    have no : ¬ ((op = 18 ∨ op = 19) ∧ isK k = true ∧ a.ok = true ∧ b.ok = true ∧ a.w = ofW k ∧ b.w = ofW k) → ¬ askB op k a b = true := fun h q => h (askB_iff.1 q)
    by_cases hop : op = 18 ∨ op = 19
    rotate_left
    · have n1 : ¬ op = 18 := fun h => hop (.inl h)
      have n2 : ¬ op = 19 := fun h => hop (.inr h)
      simp only [go_sem, reduceCtorEq, reduceIte, Nat.reduceEqDiff, Nat.reduceAdd, Nat.reduceLeDiff, Nat.reduceMul, Int.reduceLT, Int.reduceLE, Int.reduceAdd, Int.reduceSub, Int.reduceMul, Int.reduceNeg, Int.reduceToNat, Int.reduceEq, s.h1, s.h2, s.h5, s.h7, s.h8, s.h9, s.h10, s.h11, s.h12, s.h13, h15, h16, n1, n2]
      exact fin0 _ (by simp only [go_sem, reduceCtorEq, reduceIte, Nat.reduceEqDiff, Nat.reduceAdd, Nat.reduceLeDiff, Nat.reduceMul, Int.reduceLT, Int.reduceLE, Int.reduceAdd, Int.reduceSub, Int.reduceMul, Int.reduceNeg, Int.reduceToNat, Int.reduceEq]) (by simp only [go_sem, reduceCtorEq, reduceIte, Nat.reduceEqDiff, Nat.reduceAdd, Nat.reduceLeDiff, Nat.reduceMul, Int.reduceLT, Int.reduceLE, Int.reduceAdd, Int.reduceSub, Int.reduceMul, Int.reduceNeg, Int.reduceToNat, Int.reduceEq]) (by simp only [go_sem, reduceCtorEq, reduceIte, Nat.reduceEqDiff, Nat.reduceAdd, Nat.reduceLeDiff, Nat.reduceMul, Int.reduceLT, Int.reduceLE, Int.reduceAdd, Int.reduceSub, Int.reduceMul, Int.reduceNeg, Int.reduceToNat, Int.reduceEq]) (by simp only [go_sem, reduceCtorEq, reduceIte, Nat.reduceEqDiff, Nat.reduceAdd, Nat.reduceLeDiff, Nat.reduceMul, Int.reduceLT, Int.reduceLE, Int.reduceAdd, Int.reduceSub, Int.reduceMul, Int.reduceNeg, Int.reduceToNat, Int.reduceEq]) (by simp only [go_sem, reduceCtorEq, reduceIte, Nat.reduceEqDiff, Nat.reduceAdd, Nat.reduceLeDiff, Nat.reduceMul, Int.reduceLT, Int.reduceLE, Int.reduceAdd, Int.reduceSub, Int.reduceMul, Int.reduceNeg, Int.reduceToNat, Int.reduceEq]) (by simp only [go_sem, reduceCtorEq, reduceIte, Nat.reduceEqDiff, Nat.reduceAdd, Nat.reduceLeDiff, Nat.reduceMul, Int.reduceLT, Int.reduceLE, Int.reduceAdd, Int.reduceSub, Int.reduceMul, Int.reduceNeg, Int.reduceToNat, Int.reduceEq]) (by simp only [go_sem, reduceCtorEq, reduceIte, Nat.reduceEqDiff, Nat.reduceAdd, Nat.reduceLeDiff, Nat.reduceMul, Int.reduceLT, Int.reduceLE, Int.reduceAdd, Int.reduceSub, Int.reduceMul, Int.reduceNeg, Int.reduceToNat, Int.reduceEq]) (by simp only [go_sem, reduceCtorEq, reduceIte, Nat.reduceEqDiff, Nat.reduceAdd, Nat.reduceLeDiff, Nat.reduceMul, Int.reduceLT, Int.reduceLE, Int.reduceAdd, Int.reduceSub, Int.reduceMul, Int.reduceNeg, Int.reduceToNat, Int.reduceEq]) (by simp only [go_sem, reduceCtorEq, reduceIte, Nat.reduceEqDiff, Nat.reduceAdd, Nat.reduceLeDiff, Nat.reduceMul, Int.reduceLT, Int.reduceLE, Int.reduceAdd, Int.reduceSub, Int.reduceMul, Int.reduceNeg, Int.reduceToNat, Int.reduceEq]) (by simp only [go_sem, reduceCtorEq, reduceIte, Nat.reduceEqDiff, Nat.reduceAdd, Nat.reduceLeDiff, Nat.reduceMul, Int.reduceLT, Int.reduceLE, Int.reduceAdd, Int.reduceSub, Int.reduceMul, Int.reduceNeg, Int.reduceToNat, Int.reduceEq]) (by simp only [go_sem, reduceCtorEq, reduceIte, Nat.reduceEqDiff, Nat.reduceAdd, Nat.reduceLeDiff, Nat.reduceMul, Int.reduceLT, Int.reduceLE, Int.reduceAdd, Int.reduceSub, Int.reduceMul, Int.reduceNeg, Int.reduceToNat, Int.reduceEq]) (by simp only [go_sem, reduceCtorEq, reduceIte, Nat.reduceEqDiff, Nat.reduceAdd, Nat.reduceLeDiff, Nat.reduceMul, Int.reduceLT, Int.reduceLE, Int.reduceAdd, Int.reduceSub, Int.reduceMul, Int.reduceNeg, Int.reduceToNat, Int.reduceEq]) (by simp only [go_sem, reduceCtorEq, reduceIte, Nat.reduceEqDiff, Nat.reduceAdd, Nat.reduceLeDiff, Nat.reduceMul, Int.reduceLT, Int.reduceLE, Int.reduceAdd, Int.reduceSub, Int.reduceMul, Int.reduceNeg, Int.reduceToNat, Int.reduceEq]) 1 (by simp only [go_sem, reduceCtorEq, reduceIte, Nat.reduceEqDiff, Nat.reduceAdd, Nat.reduceLeDiff, Nat.reduceMul, Int.reduceLT, Int.reduceLE, Int.reduceAdd, Int.reduceSub, Int.reduceMul, Int.reduceNeg, Int.reduceToNat, Int.reduceEq, h15]) (.inr ⟨no (fun h => hop h.1), rfl⟩)
    rcases hop with rfl | rfl
    · skip
      by_cases hk1 : isK k = true
      rotate_left
      · have e0 : wK k = 0 := by simp [wK, hk1]
        have e1 : ¬ (0 : Int) < wK k := by omega
        simp only [go_sem, reduceCtorEq, reduceIte, Nat.reduceEqDiff, Nat.reduceAdd, Nat.reduceLeDiff, Nat.reduceMul, Int.reduceLT, Int.reduceLE, Int.reduceAdd, Int.reduceSub, Int.reduceMul, Int.reduceNeg, Int.reduceToNat, Int.reduceEq, s.h1, s.h2, s.h5, s.h7, s.h8, s.h9, s.h10, s.h11, s.h12, s.h13, h15, h16, e0]
        exact fin0 _ (by simp only [go_sem, reduceCtorEq, reduceIte, Nat.reduceEqDiff, Nat.reduceAdd, Nat.reduceLeDiff, Nat.reduceMul, Int.reduceLT, Int.reduceLE, Int.reduceAdd, Int.reduceSub, Int.reduceMul, Int.reduceNeg, Int.reduceToNat, Int.reduceEq]) (by simp only [go_sem, reduceCtorEq, reduceIte, Nat.reduceEqDiff, Nat.reduceAdd, Nat.reduceLeDiff, Nat.reduceMul, Int.reduceLT, Int.reduceLE, Int.reduceAdd, Int.reduceSub, Int.reduceMul, Int.reduceNeg, Int.reduceToNat, Int.reduceEq]) (by simp only [go_sem, reduceCtorEq, reduceIte, Nat.reduceEqDiff, Nat.reduceAdd, Nat.reduceLeDiff, Nat.reduceMul, Int.reduceLT, Int.reduceLE, Int.reduceAdd, Int.reduceSub, Int.reduceMul, Int.reduceNeg, Int.reduceToNat, Int.reduceEq]) (by simp only [go_sem, reduceCtorEq, reduceIte, Nat.reduceEqDiff, Nat.reduceAdd, Nat.reduceLeDiff, Nat.reduceMul, Int.reduceLT, Int.reduceLE, Int.reduceAdd, Int.reduceSub, Int.reduceMul, Int.reduceNeg, Int.reduceToNat, Int.reduceEq]) (by simp only [go_sem, reduceCtorEq, reduceIte, Nat.reduceEqDiff, Nat.reduceAdd, Nat.reduceLeDiff, Nat.reduceMul, Int.reduceLT, Int.reduceLE, Int.reduceAdd, Int.reduceSub, Int.reduceMul, Int.reduceNeg, Int.reduceToNat, Int.reduceEq]) (by simp only [go_sem, reduceCtorEq, reduceIte, Nat.reduceEqDiff, Nat.reduceAdd, Nat.reduceLeDiff, Nat.reduceMul, Int.reduceLT, Int.reduceLE, Int.reduceAdd, Int.reduceSub, Int.reduceMul, Int.reduceNeg, Int.reduceToNat, Int.reduceEq]) (by simp only [go_sem, reduceCtorEq, reduceIte, Nat.reduceEqDiff, Nat.reduceAdd, Nat.reduceLeDiff, Nat.reduceMul, Int.reduceLT, Int.reduceLE, Int.reduceAdd, Int.reduceSub, Int.reduceMul, Int.reduceNeg, Int.reduceToNat, Int.reduceEq]) (by simp only [go_sem, reduceCtorEq, reduceIte, Nat.reduceEqDiff, Nat.reduceAdd, Nat.reduceLeDiff, Nat.reduceMul, Int.reduceLT, Int.reduceLE, Int.reduceAdd, Int.reduceSub, Int.reduceMul, Int.reduceNeg, Int.reduceToNat, Int.reduceEq]) (by simp only [go_sem, reduceCtorEq, reduceIte, Nat.reduceEqDiff, Nat.reduceAdd, Nat.reduceLeDiff, Nat.reduceMul, Int.reduceLT, Int.reduceLE, Int.reduceAdd, Int.reduceSub, Int.reduceMul, Int.reduceNeg, Int.reduceToNat, Int.reduceEq]) (by simp only [go_sem, reduceCtorEq, reduceIte, Nat.reduceEqDiff, Nat.reduceAdd, Nat.reduceLeDiff, Nat.reduceMul, Int.reduceLT, Int.reduceLE, Int.reduceAdd, Int.reduceSub, Int.reduceMul, Int.reduceNeg, Int.reduceToNat, Int.reduceEq]) (by simp only [go_sem, reduceCtorEq, reduceIte, Nat.reduceEqDiff, Nat.reduceAdd, Nat.reduceLeDiff, Nat.reduceMul, Int.reduceLT, Int.reduceLE, Int.reduceAdd, Int.reduceSub, Int.reduceMul, Int.reduceNeg, Int.reduceToNat, Int.reduceEq]) (by simp only [go_sem, reduceCtorEq, reduceIte, Nat.reduceEqDiff, Nat.reduceAdd, Nat.reduceLeDiff, Nat.reduceMul, Int.reduceLT, Int.reduceLE, Int.reduceAdd, Int.reduceSub, Int.reduceMul, Int.reduceNeg, Int.reduceToNat, Int.reduceEq]) (by simp only [go_sem, reduceCtorEq, reduceIte, Nat.reduceEqDiff, Nat.reduceAdd, Nat.reduceLeDiff, Nat.reduceMul, Int.reduceLT, Int.reduceLE, Int.reduceAdd, Int.reduceSub, Int.reduceMul, Int.reduceNeg, Int.reduceToNat, Int.reduceEq]) 1 (by simp only [go_sem, reduceCtorEq, reduceIte, Nat.reduceEqDiff, Nat.reduceAdd, Nat.reduceLeDiff, Nat.reduceMul, Int.reduceLT, Int.reduceLE, Int.reduceAdd, Int.reduceSub, Int.reduceMul, Int.reduceNeg, Int.reduceToNat, Int.reduceEq, h15]) (.inr ⟨no (fun h => hk1 h.2.1), rfl⟩)
      have e0 : wK k = ofW k := wK_of hk1
      have hpw := pow_w (ofW_isW k)
      have e1 : (0 : Int) < ofW k := by omega
      simp only [go_sem, reduceCtorEq, reduceIte, Nat.reduceEqDiff, Nat.reduceAdd, Nat.reduceLeDiff, Nat.reduceMul, Int.reduceLT, Int.reduceLE, Int.reduceAdd, Int.reduceSub, Int.reduceMul, Int.reduceNeg, Int.reduceToNat, Int.reduceEq, s.h1, s.h2, s.h5, s.h7, s.h8, s.h9, s.h10, s.h11, s.h12, s.h13, h15, h16, e0, e1, b9, b10]
      refine callK_same (k36 _ _ a) ?_
      cases ha : a.ok
      · simp only [go_sem, reduceCtorEq, reduceIte, Nat.reduceEqDiff, Nat.reduceAdd, Nat.reduceLeDiff, Nat.reduceMul, Int.reduceLT, Int.reduceLE, Int.reduceAdd, Int.reduceSub, Int.reduceMul, Int.reduceNeg, Int.reduceToNat, Int.reduceEq, s.h1, s.h2, s.h5, s.h7, s.h8, s.h9, s.h10, s.h11, s.h12, s.h13, h15, h16, b9, b10]
        exact fin0 _ (by simp only [go_sem, reduceCtorEq, reduceIte, Nat.reduceEqDiff, Nat.reduceAdd, Nat.reduceLeDiff, Nat.reduceMul, Int.reduceLT, Int.reduceLE, Int.reduceAdd, Int.reduceSub, Int.reduceMul, Int.reduceNeg, Int.reduceToNat, Int.reduceEq]) (by simp only [go_sem, reduceCtorEq, reduceIte, Nat.reduceEqDiff, Nat.reduceAdd, Nat.reduceLeDiff, Nat.reduceMul, Int.reduceLT, Int.reduceLE, Int.reduceAdd, Int.reduceSub, Int.reduceMul, Int.reduceNeg, Int.reduceToNat, Int.reduceEq]) (by simp only [go_sem, reduceCtorEq, reduceIte, Nat.reduceEqDiff, Nat.reduceAdd, Nat.reduceLeDiff, Nat.reduceMul, Int.reduceLT, Int.reduceLE, Int.reduceAdd, Int.reduceSub, Int.reduceMul, Int.reduceNeg, Int.reduceToNat, Int.reduceEq]) (by simp only [go_sem, reduceCtorEq, reduceIte, Nat.reduceEqDiff, Nat.reduceAdd, Nat.reduceLeDiff, Nat.reduceMul, Int.reduceLT, Int.reduceLE, Int.reduceAdd, Int.reduceSub, Int.reduceMul, Int.reduceNeg, Int.reduceToNat, Int.reduceEq]) (by simp only [go_sem, reduceCtorEq, reduceIte, Nat.reduceEqDiff, Nat.reduceAdd, Nat.reduceLeDiff, Nat.reduceMul, Int.reduceLT, Int.reduceLE, Int.reduceAdd, Int.reduceSub, Int.reduceMul, Int.reduceNeg, Int.reduceToNat, Int.reduceEq]) (by simp only [go_sem, reduceCtorEq, reduceIte, Nat.reduceEqDiff, Nat.reduceAdd, Nat.reduceLeDiff, Nat.reduceMul, Int.reduceLT, Int.reduceLE, Int.reduceAdd, Int.reduceSub, Int.reduceMul, Int.reduceNeg, Int.reduceToNat, Int.reduceEq]) (by simp only [go_sem, reduceCtorEq, reduceIte, Nat.reduceEqDiff, Nat.reduceAdd, Nat.reduceLeDiff, Nat.reduceMul, Int.reduceLT, Int.reduceLE, Int.reduceAdd, Int.reduceSub, Int.reduceMul, Int.reduceNeg, Int.reduceToNat, Int.reduceEq]) (by simp only [go_sem, reduceCtorEq, reduceIte, Nat.reduceEqDiff, Nat.reduceAdd, Nat.reduceLeDiff, Nat.reduceMul, Int.reduceLT, Int.reduceLE, Int.reduceAdd, Int.reduceSub, Int.reduceMul, Int.reduceNeg, Int.reduceToNat, Int.reduceEq]) (by simp only [go_sem, reduceCtorEq, reduceIte, Nat.reduceEqDiff, Nat.reduceAdd, Nat.reduceLeDiff, Nat.reduceMul, Int.reduceLT, Int.reduceLE, Int.reduceAdd, Int.reduceSub, Int.reduceMul, Int.reduceNeg, Int.reduceToNat, Int.reduceEq]) (by simp only [go_sem, reduceCtorEq, reduceIte, Nat.reduceEqDiff, Nat.reduceAdd, Nat.reduceLeDiff, Nat.reduceMul, Int.reduceLT, Int.reduceLE, Int.reduceAdd, Int.reduceSub, Int.reduceMul, Int.reduceNeg, Int.reduceToNat, Int.reduceEq]) (by simp only [go_sem, reduceCtorEq, reduceIte, Nat.reduceEqDiff, Nat.reduceAdd, Nat.reduceLeDiff, Nat.reduceMul, Int.reduceLT, Int.reduceLE, Int.reduceAdd, Int.reduceSub, Int.reduceMul, Int.reduceNeg, Int.reduceToNat, Int.reduceEq]) (by simp only [go_sem, reduceCtorEq, reduceIte, Nat.reduceEqDiff, Nat.reduceAdd, Nat.reduceLeDiff, Nat.reduceMul, Int.reduceLT, Int.reduceLE, Int.reduceAdd, Int.reduceSub, Int.reduceMul, Int.reduceNeg, Int.reduceToNat, Int.reduceEq]) (by simp only [go_sem, reduceCtorEq, reduceIte, Nat.reduceEqDiff, Nat.reduceAdd, Nat.reduceLeDiff, Nat.reduceMul, Int.reduceLT, Int.reduceLE, Int.reduceAdd, Int.reduceSub, Int.reduceMul, Int.reduceNeg, Int.reduceToNat, Int.reduceEq]) 1 (by simp only [go_sem, reduceCtorEq, reduceIte, Nat.reduceEqDiff, Nat.reduceAdd, Nat.reduceLeDiff, Nat.reduceMul, Int.reduceLT, Int.reduceLE, Int.reduceAdd, Int.reduceSub, Int.reduceMul, Int.reduceNeg, Int.reduceToNat, Int.reduceEq, h15]) (.inr ⟨no (fun h => by rw [ha] at h; cases h.2.2.1), rfl⟩)
      simp only [go_sem, reduceCtorEq, reduceIte, Nat.reduceEqDiff, Nat.reduceAdd, Nat.reduceLeDiff, Nat.reduceMul, Int.reduceLT, Int.reduceLE, Int.reduceAdd, Int.reduceSub, Int.reduceMul, Int.reduceNeg, Int.reduceToNat, Int.reduceEq, s.h1, s.h2, s.h5, s.h7, s.h8, s.h9, s.h10, s.h11, s.h12, s.h13, h15, h16, e0, b9, b10]
      refine callK_same (k36 _ _ b) ?_
      cases hb : b.ok
      · simp only [go_sem, reduceCtorEq, reduceIte, Nat.reduceEqDiff, Nat.reduceAdd, Nat.reduceLeDiff, Nat.reduceMul, Int.reduceLT, Int.reduceLE, Int.reduceAdd, Int.reduceSub, Int.reduceMul, Int.reduceNeg, Int.reduceToNat, Int.reduceEq, s.h1, s.h2, s.h5, s.h7, s.h8, s.h9, s.h10, s.h11, s.h12, s.h13, h15, h16, b9, b10]
        exact fin0 _ (by simp only [go_sem, reduceCtorEq, reduceIte, Nat.reduceEqDiff, Nat.reduceAdd, Nat.reduceLeDiff, Nat.reduceMul, Int.reduceLT, Int.reduceLE, Int.reduceAdd, Int.reduceSub, Int.reduceMul, Int.reduceNeg, Int.reduceToNat, Int.reduceEq]) (by simp only [go_sem, reduceCtorEq, reduceIte, Nat.reduceEqDiff, Nat.reduceAdd, Nat.reduceLeDiff, Nat.reduceMul, Int.reduceLT, Int.reduceLE, Int.reduceAdd, Int.reduceSub, Int.reduceMul, Int.reduceNeg, Int.reduceToNat, Int.reduceEq]) (by simp only [go_sem, reduceCtorEq, reduceIte, Nat.reduceEqDiff, Nat.reduceAdd, Nat.reduceLeDiff, Nat.reduceMul, Int.reduceLT, Int.reduceLE, Int.reduceAdd, Int.reduceSub, Int.reduceMul, Int.reduceNeg, Int.reduceToNat, Int.reduceEq]) (by simp only [go_sem, reduceCtorEq, reduceIte, Nat.reduceEqDiff, Nat.reduceAdd, Nat.reduceLeDiff, Nat.reduceMul, Int.reduceLT, Int.reduceLE, Int.reduceAdd, Int.reduceSub, Int.reduceMul, Int.reduceNeg, Int.reduceToNat, Int.reduceEq]) (by simp only [go_sem, reduceCtorEq, reduceIte, Nat.reduceEqDiff, Nat.reduceAdd, Nat.reduceLeDiff, Nat.reduceMul, Int.reduceLT, Int.reduceLE, Int.reduceAdd, Int.reduceSub, Int.reduceMul, Int.reduceNeg, Int.reduceToNat, Int.reduceEq]) (by simp only [go_sem, reduceCtorEq, reduceIte, Nat.reduceEqDiff, Nat.reduceAdd, Nat.reduceLeDiff, Nat.reduceMul, Int.reduceLT, Int.reduceLE, Int.reduceAdd, Int.reduceSub, Int.reduceMul, Int.reduceNeg, Int.reduceToNat, Int.reduceEq]) (by simp only [go_sem, reduceCtorEq, reduceIte, Nat.reduceEqDiff, Nat.reduceAdd, Nat.reduceLeDiff, Nat.reduceMul, Int.reduceLT, Int.reduceLE, Int.reduceAdd, Int.reduceSub, Int.reduceMul, Int.reduceNeg, Int.reduceToNat, Int.reduceEq]) (by simp only [go_sem, reduceCtorEq, reduceIte, Nat.reduceEqDiff, Nat.reduceAdd, Nat.reduceLeDiff, Nat.reduceMul, Int.reduceLT, Int.reduceLE, Int.reduceAdd, Int.reduceSub, Int.reduceMul, Int.reduceNeg, Int.reduceToNat, Int.reduceEq]) (by simp only [go_sem, reduceCtorEq, reduceIte, Nat.reduceEqDiff, Nat.reduceAdd, Nat.reduceLeDiff, Nat.reduceMul, Int.reduceLT, Int.reduceLE, Int.reduceAdd, Int.reduceSub, Int.reduceMul, Int.reduceNeg, Int.reduceToNat, Int.reduceEq]) (by simp only [go_sem, reduceCtorEq, reduceIte, Nat.reduceEqDiff, Nat.reduceAdd, Nat.reduceLeDiff, Nat.reduceMul, Int.reduceLT, Int.reduceLE, Int.reduceAdd, Int.reduceSub, Int.reduceMul, Int.reduceNeg, Int.reduceToNat, Int.reduceEq]) (by simp only [go_sem, reduceCtorEq, reduceIte, Nat.reduceEqDiff, Nat.reduceAdd, Nat.reduceLeDiff, Nat.reduceMul, Int.reduceLT, Int.reduceLE, Int.reduceAdd, Int.reduceSub, Int.reduceMul, Int.reduceNeg, Int.reduceToNat, Int.reduceEq]) (by simp only [go_sem, reduceCtorEq, reduceIte, Nat.reduceEqDiff, Nat.reduceAdd, Nat.reduceLeDiff, Nat.reduceMul, Int.reduceLT, Int.reduceLE, Int.reduceAdd, Int.reduceSub, Int.reduceMul, Int.reduceNeg, Int.reduceToNat, Int.reduceEq]) (by simp only [go_sem, reduceCtorEq, reduceIte, Nat.reduceEqDiff, Nat.reduceAdd, Nat.reduceLeDiff, Nat.reduceMul, Int.reduceLT, Int.reduceLE, Int.reduceAdd, Int.reduceSub, Int.reduceMul, Int.reduceNeg, Int.reduceToNat, Int.reduceEq]) 1 (by simp only [go_sem, reduceCtorEq, reduceIte, Nat.reduceEqDiff, Nat.reduceAdd, Nat.reduceLeDiff, Nat.reduceMul, Int.reduceLT, Int.reduceLE, Int.reduceAdd, Int.reduceSub, Int.reduceMul, Int.reduceNeg, Int.reduceToNat, Int.reduceEq, h15]) (.inr ⟨no (fun h => by rw [hb] at h; cases h.2.2.2.1), rfl⟩)
      by_cases wa : a.w = ofW k
      rotate_left
      · simp only [go_sem, reduceCtorEq, reduceIte, Nat.reduceEqDiff, Nat.reduceAdd, Nat.reduceLeDiff, Nat.reduceMul, Int.reduceLT, Int.reduceLE, Int.reduceAdd, Int.reduceSub, Int.reduceMul, Int.reduceNeg, Int.reduceToNat, Int.reduceEq, s.h1, s.h2, s.h5, s.h7, s.h8, s.h9, s.h10, s.h11, s.h12, s.h13, h15, h16, e0, b9, b10, wa]
        exact fin0 _ (by simp only [go_sem, reduceCtorEq, reduceIte, Nat.reduceEqDiff, Nat.reduceAdd, Nat.reduceLeDiff, Nat.reduceMul, Int.reduceLT, Int.reduceLE, Int.reduceAdd, Int.reduceSub, Int.reduceMul, Int.reduceNeg, Int.reduceToNat, Int.reduceEq]) (by simp only [go_sem, reduceCtorEq, reduceIte, Nat.reduceEqDiff, Nat.reduceAdd, Nat.reduceLeDiff, Nat.reduceMul, Int.reduceLT, Int.reduceLE, Int.reduceAdd, Int.reduceSub, Int.reduceMul, Int.reduceNeg, Int.reduceToNat, Int.reduceEq]) (by simp only [go_sem, reduceCtorEq, reduceIte, Nat.reduceEqDiff, Nat.reduceAdd, Nat.reduceLeDiff, Nat.reduceMul, Int.reduceLT, Int.reduceLE, Int.reduceAdd, Int.reduceSub, Int.reduceMul, Int.reduceNeg, Int.reduceToNat, Int.reduceEq]) (by simp only [go_sem, reduceCtorEq, reduceIte, Nat.reduceEqDiff, Nat.reduceAdd, Nat.reduceLeDiff, Nat.reduceMul, Int.reduceLT, Int.reduceLE, Int.reduceAdd, Int.reduceSub, Int.reduceMul, Int.reduceNeg, Int.reduceToNat, Int.reduceEq]) (by simp only [go_sem, reduceCtorEq, reduceIte, Nat.reduceEqDiff, Nat.reduceAdd, Nat.reduceLeDiff, Nat.reduceMul, Int.reduceLT, Int.reduceLE, Int.reduceAdd, Int.reduceSub, Int.reduceMul, Int.reduceNeg, Int.reduceToNat, Int.reduceEq]) (by simp only [go_sem, reduceCtorEq, reduceIte, Nat.reduceEqDiff, Nat.reduceAdd, Nat.reduceLeDiff, Nat.reduceMul, Int.reduceLT, Int.reduceLE, Int.reduceAdd, Int.reduceSub, Int.reduceMul, Int.reduceNeg, Int.reduceToNat, Int.reduceEq]) (by simp only [go_sem, reduceCtorEq, reduceIte, Nat.reduceEqDiff, Nat.reduceAdd, Nat.reduceLeDiff, Nat.reduceMul, Int.reduceLT, Int.reduceLE, Int.reduceAdd, Int.reduceSub, Int.reduceMul, Int.reduceNeg, Int.reduceToNat, Int.reduceEq]) (by simp only [go_sem, reduceCtorEq, reduceIte, Nat.reduceEqDiff, Nat.reduceAdd, Nat.reduceLeDiff, Nat.reduceMul, Int.reduceLT, Int.reduceLE, Int.reduceAdd, Int.reduceSub, Int.reduceMul, Int.reduceNeg, Int.reduceToNat, Int.reduceEq]) (by simp only [go_sem, reduceCtorEq, reduceIte, Nat.reduceEqDiff, Nat.reduceAdd, Nat.reduceLeDiff, Nat.reduceMul, Int.reduceLT, Int.reduceLE, Int.reduceAdd, Int.reduceSub, Int.reduceMul, Int.reduceNeg, Int.reduceToNat, Int.reduceEq]) (by simp only [go_sem, reduceCtorEq, reduceIte, Nat.reduceEqDiff, Nat.reduceAdd, Nat.reduceLeDiff, Nat.reduceMul, Int.reduceLT, Int.reduceLE, Int.reduceAdd, Int.reduceSub, Int.reduceMul, Int.reduceNeg, Int.reduceToNat, Int.reduceEq]) (by simp only [go_sem, reduceCtorEq, reduceIte, Nat.reduceEqDiff, Nat.reduceAdd, Nat.reduceLeDiff, Nat.reduceMul, Int.reduceLT, Int.reduceLE, Int.reduceAdd, Int.reduceSub, Int.reduceMul, Int.reduceNeg, Int.reduceToNat, Int.reduceEq]) (by simp only [go_sem, reduceCtorEq, reduceIte, Nat.reduceEqDiff, Nat.reduceAdd, Nat.reduceLeDiff, Nat.reduceMul, Int.reduceLT, Int.reduceLE, Int.reduceAdd, Int.reduceSub, Int.reduceMul, Int.reduceNeg, Int.reduceToNat, Int.reduceEq]) (by simp only [go_sem, reduceCtorEq, reduceIte, Nat.reduceEqDiff, Nat.reduceAdd, Nat.reduceLeDiff, Nat.reduceMul, Int.reduceLT, Int.reduceLE, Int.reduceAdd, Int.reduceSub, Int.reduceMul, Int.reduceNeg, Int.reduceToNat, Int.reduceEq]) 1 (by simp only [go_sem, reduceCtorEq, reduceIte, Nat.reduceEqDiff, Nat.reduceAdd, Nat.reduceLeDiff, Nat.reduceMul, Int.reduceLT, Int.reduceLE, Int.reduceAdd, Int.reduceSub, Int.reduceMul, Int.reduceNeg, Int.reduceToNat, Int.reduceEq, h15]) (.inr ⟨no (fun h => wa h.2.2.2.2.1), rfl⟩)
      by_cases wb : b.w = ofW k
      rotate_left
      · simp only [go_sem, reduceCtorEq, reduceIte, Nat.reduceEqDiff, Nat.reduceAdd, Nat.reduceLeDiff, Nat.reduceMul, Int.reduceLT, Int.reduceLE, Int.reduceAdd, Int.reduceSub, Int.reduceMul, Int.reduceNeg, Int.reduceToNat, Int.reduceEq, s.h1, s.h2, s.h5, s.h7, s.h8, s.h9, s.h10, s.h11, s.h12, s.h13, h15, h16, e0, b9, b10, wa, wb]
        exact fin0 _ (by simp only [go_sem, reduceCtorEq, reduceIte, Nat.reduceEqDiff, Nat.reduceAdd, Nat.reduceLeDiff, Nat.reduceMul, Int.reduceLT, Int.reduceLE, Int.reduceAdd, Int.reduceSub, Int.reduceMul, Int.reduceNeg, Int.reduceToNat, Int.reduceEq]) (by simp only [go_sem, reduceCtorEq, reduceIte, Nat.reduceEqDiff, Nat.reduceAdd, Nat.reduceLeDiff, Nat.reduceMul, Int.reduceLT, Int.reduceLE, Int.reduceAdd, Int.reduceSub, Int.reduceMul, Int.reduceNeg, Int.reduceToNat, Int.reduceEq]) (by simp only [go_sem, reduceCtorEq, reduceIte, Nat.reduceEqDiff, Nat.reduceAdd, Nat.reduceLeDiff, Nat.reduceMul, Int.reduceLT, Int.reduceLE, Int.reduceAdd, Int.reduceSub, Int.reduceMul, Int.reduceNeg, Int.reduceToNat, Int.reduceEq]) (by simp only [go_sem, reduceCtorEq, reduceIte, Nat.reduceEqDiff, Nat.reduceAdd, Nat.reduceLeDiff, Nat.reduceMul, Int.reduceLT, Int.reduceLE, Int.reduceAdd, Int.reduceSub, Int.reduceMul, Int.reduceNeg, Int.reduceToNat, Int.reduceEq]) (by simp only [go_sem, reduceCtorEq, reduceIte, Nat.reduceEqDiff, Nat.reduceAdd, Nat.reduceLeDiff, Nat.reduceMul, Int.reduceLT, Int.reduceLE, Int.reduceAdd, Int.reduceSub, Int.reduceMul, Int.reduceNeg, Int.reduceToNat, Int.reduceEq]) (by simp only [go_sem, reduceCtorEq, reduceIte, Nat.reduceEqDiff, Nat.reduceAdd, Nat.reduceLeDiff, Nat.reduceMul, Int.reduceLT, Int.reduceLE, Int.reduceAdd, Int.reduceSub, Int.reduceMul, Int.reduceNeg, Int.reduceToNat, Int.reduceEq]) (by simp only [go_sem, reduceCtorEq, reduceIte, Nat.reduceEqDiff, Nat.reduceAdd, Nat.reduceLeDiff, Nat.reduceMul, Int.reduceLT, Int.reduceLE, Int.reduceAdd, Int.reduceSub, Int.reduceMul, Int.reduceNeg, Int.reduceToNat, Int.reduceEq]) (by simp only [go_sem, reduceCtorEq, reduceIte, Nat.reduceEqDiff, Nat.reduceAdd, Nat.reduceLeDiff, Nat.reduceMul, Int.reduceLT, Int.reduceLE, Int.reduceAdd, Int.reduceSub, Int.reduceMul, Int.reduceNeg, Int.reduceToNat, Int.reduceEq]) (by simp only [go_sem, reduceCtorEq, reduceIte, Nat.reduceEqDiff, Nat.reduceAdd, Nat.reduceLeDiff, Nat.reduceMul, Int.reduceLT, Int.reduceLE, Int.reduceAdd, Int.reduceSub, Int.reduceMul, Int.reduceNeg, Int.reduceToNat, Int.reduceEq]) (by simp only [go_sem, reduceCtorEq, reduceIte, Nat.reduceEqDiff, Nat.reduceAdd, Nat.reduceLeDiff, Nat.reduceMul, Int.reduceLT, Int.reduceLE, Int.reduceAdd, Int.reduceSub, Int.reduceMul, Int.reduceNeg, Int.reduceToNat, Int.reduceEq]) (by simp only [go_sem, reduceCtorEq, reduceIte, Nat.reduceEqDiff, Nat.reduceAdd, Nat.reduceLeDiff, Nat.reduceMul, Int.reduceLT, Int.reduceLE, Int.reduceAdd, Int.reduceSub, Int.reduceMul, Int.reduceNeg, Int.reduceToNat, Int.reduceEq]) (by simp only [go_sem, reduceCtorEq, reduceIte, Nat.reduceEqDiff, Nat.reduceAdd, Nat.reduceLeDiff, Nat.reduceMul, Int.reduceLT, Int.reduceLE, Int.reduceAdd, Int.reduceSub, Int.reduceMul, Int.reduceNeg, Int.reduceToNat, Int.reduceEq]) (by simp only [go_sem, reduceCtorEq, reduceIte, Nat.reduceEqDiff, Nat.reduceAdd, Nat.reduceLeDiff, Nat.reduceMul, Int.reduceLT, Int.reduceLE, Int.reduceAdd, Int.reduceSub, Int.reduceMul, Int.reduceNeg, Int.reduceToNat, Int.reduceEq]) 1 (by simp only [go_sem, reduceCtorEq, reduceIte, Nat.reduceEqDiff, Nat.reduceAdd, Nat.reduceLeDiff, Nat.reduceMul, Int.reduceLT, Int.reduceLE, Int.reduceAdd, Int.reduceSub, Int.reduceMul, Int.reduceNeg, Int.reduceToNat, Int.reduceEq, h15]) (.inr ⟨no (fun h => wb h.2.2.2.2.2), rfl⟩)
      simp only [go_sem, reduceCtorEq, reduceIte, Nat.reduceEqDiff, Nat.reduceAdd, Nat.reduceLeDiff, Nat.reduceMul, Int.reduceLT, Int.reduceLE, Int.reduceAdd, Int.reduceSub, Int.reduceMul, Int.reduceNeg, Int.reduceToNat, Int.reduceEq, s.h1, s.h2, s.h5, s.h7, s.h8, s.h9, s.h10, s.h11, s.h12, s.h13, h15, h16, e0, b9, b10, wa, wb]
      exact fin0 _ (by simp only [go_sem, reduceCtorEq, reduceIte, Nat.reduceEqDiff, Nat.reduceAdd, Nat.reduceLeDiff, Nat.reduceMul, Int.reduceLT, Int.reduceLE, Int.reduceAdd, Int.reduceSub, Int.reduceMul, Int.reduceNeg, Int.reduceToNat, Int.reduceEq]) (by simp only [go_sem, reduceCtorEq, reduceIte, Nat.reduceEqDiff, Nat.reduceAdd, Nat.reduceLeDiff, Nat.reduceMul, Int.reduceLT, Int.reduceLE, Int.reduceAdd, Int.reduceSub, Int.reduceMul, Int.reduceNeg, Int.reduceToNat, Int.reduceEq]) (by simp only [go_sem, reduceCtorEq, reduceIte, Nat.reduceEqDiff, Nat.reduceAdd, Nat.reduceLeDiff, Nat.reduceMul, Int.reduceLT, Int.reduceLE, Int.reduceAdd, Int.reduceSub, Int.reduceMul, Int.reduceNeg, Int.reduceToNat, Int.reduceEq]) (by simp only [go_sem, reduceCtorEq, reduceIte, Nat.reduceEqDiff, Nat.reduceAdd, Nat.reduceLeDiff, Nat.reduceMul, Int.reduceLT, Int.reduceLE, Int.reduceAdd, Int.reduceSub, Int.reduceMul, Int.reduceNeg, Int.reduceToNat, Int.reduceEq]) (by simp only [go_sem, reduceCtorEq, reduceIte, Nat.reduceEqDiff, Nat.reduceAdd, Nat.reduceLeDiff, Nat.reduceMul, Int.reduceLT, Int.reduceLE, Int.reduceAdd, Int.reduceSub, Int.reduceMul, Int.reduceNeg, Int.reduceToNat, Int.reduceEq]) (by simp only [go_sem, reduceCtorEq, reduceIte, Nat.reduceEqDiff, Nat.reduceAdd, Nat.reduceLeDiff, Nat.reduceMul, Int.reduceLT, Int.reduceLE, Int.reduceAdd, Int.reduceSub, Int.reduceMul, Int.reduceNeg, Int.reduceToNat, Int.reduceEq]) (by simp only [go_sem, reduceCtorEq, reduceIte, Nat.reduceEqDiff, Nat.reduceAdd, Nat.reduceLeDiff, Nat.reduceMul, Int.reduceLT, Int.reduceLE, Int.reduceAdd, Int.reduceSub, Int.reduceMul, Int.reduceNeg, Int.reduceToNat, Int.reduceEq]) (by simp only [go_sem, reduceCtorEq, reduceIte, Nat.reduceEqDiff, Nat.reduceAdd, Nat.reduceLeDiff, Nat.reduceMul, Int.reduceLT, Int.reduceLE, Int.reduceAdd, Int.reduceSub, Int.reduceMul, Int.reduceNeg, Int.reduceToNat, Int.reduceEq]) (by simp only [go_sem, reduceCtorEq, reduceIte, Nat.reduceEqDiff, Nat.reduceAdd, Nat.reduceLeDiff, Nat.reduceMul, Int.reduceLT, Int.reduceLE, Int.reduceAdd, Int.reduceSub, Int.reduceMul, Int.reduceNeg, Int.reduceToNat, Int.reduceEq]) (by simp only [go_sem, reduceCtorEq, reduceIte, Nat.reduceEqDiff, Nat.reduceAdd, Nat.reduceLeDiff, Nat.reduceMul, Int.reduceLT, Int.reduceLE, Int.reduceAdd, Int.reduceSub, Int.reduceMul, Int.reduceNeg, Int.reduceToNat, Int.reduceEq]) (by simp only [go_sem, reduceCtorEq, reduceIte, Nat.reduceEqDiff, Nat.reduceAdd, Nat.reduceLeDiff, Nat.reduceMul, Int.reduceLT, Int.reduceLE, Int.reduceAdd, Int.reduceSub, Int.reduceMul, Int.reduceNeg, Int.reduceToNat, Int.reduceEq]) (by simp only [go_sem, reduceCtorEq, reduceIte, Nat.reduceEqDiff, Nat.reduceAdd, Nat.reduceLeDiff, Nat.reduceMul, Int.reduceLT, Int.reduceLE, Int.reduceAdd, Int.reduceSub, Int.reduceMul, Int.reduceNeg, Int.reduceToNat, Int.reduceEq]) (by simp only [go_sem, reduceCtorEq, reduceIte, Nat.reduceEqDiff, Nat.reduceAdd, Nat.reduceLeDiff, Nat.reduceMul, Int.reduceLT, Int.reduceLE, Int.reduceAdd, Int.reduceSub, Int.reduceMul, Int.reduceNeg, Int.reduceToNat, Int.reduceEq]) 0 (by simp only [go_sem, reduceCtorEq, reduceIte, Nat.reduceEqDiff, Nat.reduceAdd, Nat.reduceLeDiff, Nat.reduceMul, Int.reduceLT, Int.reduceLE, Int.reduceAdd, Int.reduceSub, Int.reduceMul, Int.reduceNeg, Int.reduceToNat, Int.reduceEq]) (.inl ⟨askB_iff.2 ⟨by decide, hk1, ha, hb, wa, wb⟩, rfl⟩)
    · skip
      by_cases hk1 : isK k = true
      rotate_left
      · have e0 : wK k = 0 := by simp [wK, hk1]
        have e1 : ¬ (0 : Int) < wK k := by omega
        simp only [go_sem, reduceCtorEq, reduceIte, Nat.reduceEqDiff, Nat.reduceAdd, Nat.reduceLeDiff, Nat.reduceMul, Int.reduceLT, Int.reduceLE, Int.reduceAdd, Int.reduceSub, Int.reduceMul, Int.reduceNeg, Int.reduceToNat, Int.reduceEq, s.h1, s.h2, s.h5, s.h7, s.h8, s.h9, s.h10, s.h11, s.h12, s.h13, h15, h16, e0]
        exact fin0 _ (by simp only [go_sem, reduceCtorEq, reduceIte, Nat.reduceEqDiff, Nat.reduceAdd, Nat.reduceLeDiff, Nat.reduceMul, Int.reduceLT, Int.reduceLE, Int.reduceAdd, Int.reduceSub, Int.reduceMul, Int.reduceNeg, Int.reduceToNat, Int.reduceEq]) (by simp only [go_sem, reduceCtorEq, reduceIte, Nat.reduceEqDiff, Nat.reduceAdd, Nat.reduceLeDiff, Nat.reduceMul, Int.reduceLT, Int.reduceLE, Int.reduceAdd, Int.reduceSub, Int.reduceMul, Int.reduceNeg, Int.reduceToNat, Int.reduceEq]) (by simp only [go_sem, reduceCtorEq, reduceIte, Nat.reduceEqDiff, Nat.reduceAdd, Nat.reduceLeDiff, Nat.reduceMul, Int.reduceLT, Int.reduceLE, Int.reduceAdd, Int.reduceSub, Int.reduceMul, Int.reduceNeg, Int.reduceToNat, Int.reduceEq]) (by simp only [go_sem, reduceCtorEq, reduceIte, Nat.reduceEqDiff, Nat.reduceAdd, Nat.reduceLeDiff, Nat.reduceMul, Int.reduceLT, Int.reduceLE, Int.reduceAdd, Int.reduceSub, Int.reduceMul, Int.reduceNeg, Int.reduceToNat, Int.reduceEq]) (by simp only [go_sem, reduceCtorEq, reduceIte, Nat.reduceEqDiff, Nat.reduceAdd, Nat.reduceLeDiff, Nat.reduceMul, Int.reduceLT, Int.reduceLE, Int.reduceAdd, Int.reduceSub, Int.reduceMul, Int.reduceNeg, Int.reduceToNat, Int.reduceEq]) (by simp only [go_sem, reduceCtorEq, reduceIte, Nat.reduceEqDiff, Nat.reduceAdd, Nat.reduceLeDiff, Nat.reduceMul, Int.reduceLT, Int.reduceLE, Int.reduceAdd, Int.reduceSub, Int.reduceMul, Int.reduceNeg, Int.reduceToNat, Int.reduceEq]) (by simp only [go_sem, reduceCtorEq, reduceIte, Nat.reduceEqDiff, Nat.reduceAdd, Nat.reduceLeDiff, Nat.reduceMul, Int.reduceLT, Int.reduceLE, Int.reduceAdd, Int.reduceSub, Int.reduceMul, Int.reduceNeg, Int.reduceToNat, Int.reduceEq]) (by simp only [go_sem, reduceCtorEq, reduceIte, Nat.reduceEqDiff, Nat.reduceAdd, Nat.reduceLeDiff, Nat.reduceMul, Int.reduceLT, Int.reduceLE, Int.reduceAdd, Int.reduceSub, Int.reduceMul, Int.reduceNeg, Int.reduceToNat, Int.reduceEq]) (by simp only [go_sem, reduceCtorEq, reduceIte, Nat.reduceEqDiff, Nat.reduceAdd, Nat.reduceLeDiff, Nat.reduceMul, Int.reduceLT, Int.reduceLE, Int.reduceAdd, Int.reduceSub, Int.reduceMul, Int.reduceNeg, Int.reduceToNat, Int.reduceEq]) (by simp only [go_sem, reduceCtorEq, reduceIte, Nat.reduceEqDiff, Nat.reduceAdd, Nat.reduceLeDiff, Nat.reduceMul, Int.reduceLT, Int.reduceLE, Int.reduceAdd, Int.reduceSub, Int.reduceMul, Int.reduceNeg, Int.reduceToNat, Int.reduceEq]) (by simp only [go_sem, reduceCtorEq, reduceIte, Nat.reduceEqDiff, Nat.reduceAdd, Nat.reduceLeDiff, Nat.reduceMul, Int.reduceLT, Int.reduceLE, Int.reduceAdd, Int.reduceSub, Int.reduceMul, Int.reduceNeg, Int.reduceToNat, Int.reduceEq]) (by simp only [go_sem, reduceCtorEq, reduceIte, Nat.reduceEqDiff, Nat.reduceAdd, Nat.reduceLeDiff, Nat.reduceMul, Int.reduceLT, Int.reduceLE, Int.reduceAdd, Int.reduceSub, Int.reduceMul, Int.reduceNeg, Int.reduceToNat, Int.reduceEq]) (by simp only [go_sem, reduceCtorEq, reduceIte, Nat.reduceEqDiff, Nat.reduceAdd, Nat.reduceLeDiff, Nat.reduceMul, Int.reduceLT, Int.reduceLE, Int.reduceAdd, Int.reduceSub, Int.reduceMul, Int.reduceNeg, Int.reduceToNat, Int.reduceEq]) 1 (by simp only [go_sem, reduceCtorEq, reduceIte, Nat.reduceEqDiff, Nat.reduceAdd, Nat.reduceLeDiff, Nat.reduceMul, Int.reduceLT, Int.reduceLE, Int.reduceAdd, Int.reduceSub, Int.reduceMul, Int.reduceNeg, Int.reduceToNat, Int.reduceEq, h15]) (.inr ⟨no (fun h => hk1 h.2.1), rfl⟩)
      have e0 : wK k = ofW k := wK_of hk1
      have hpw := pow_w (ofW_isW k)
      have e1 : (0 : Int) < ofW k := by omega
      simp only [go_sem, reduceCtorEq, reduceIte, Nat.reduceEqDiff, Nat.reduceAdd, Nat.reduceLeDiff, Nat.reduceMul, Int.reduceLT, Int.reduceLE, Int.reduceAdd, Int.reduceSub, Int.reduceMul, Int.reduceNeg, Int.reduceToNat, Int.reduceEq, s.h1, s.h2, s.h5, s.h7, s.h8, s.h9, s.h10, s.h11, s.h12, s.h13, h15, h16, e0, e1, b9, b10]
      refine callK_same (k36 _ _ a) ?_
      cases ha : a.ok
      · simp only [go_sem, reduceCtorEq, reduceIte, Nat.reduceEqDiff, Nat.reduceAdd, Nat.reduceLeDiff, Nat.reduceMul, Int.reduceLT, Int.reduceLE, Int.reduceAdd, Int.reduceSub, Int.reduceMul, Int.reduceNeg, Int.reduceToNat, Int.reduceEq, s.h1, s.h2, s.h5, s.h7, s.h8, s.h9, s.h10, s.h11, s.h12, s.h13, h15, h16, b9, b10]
        exact fin0 _ (by simp only [go_sem, reduceCtorEq, reduceIte, Nat.reduceEqDiff, Nat.reduceAdd, Nat.reduceLeDiff, Nat.reduceMul, Int.reduceLT, Int.reduceLE, Int.reduceAdd, Int.reduceSub, Int.reduceMul, Int.reduceNeg, Int.reduceToNat, Int.reduceEq]) (by simp only [go_sem, reduceCtorEq, reduceIte, Nat.reduceEqDiff, Nat.reduceAdd, Nat.reduceLeDiff, Nat.reduceMul, Int.reduceLT, Int.reduceLE, Int.reduceAdd, Int.reduceSub, Int.reduceMul, Int.reduceNeg, Int.reduceToNat, Int.reduceEq]) (by simp only [go_sem, reduceCtorEq, reduceIte, Nat.reduceEqDiff, Nat.reduceAdd, Nat.reduceLeDiff, Nat.reduceMul, Int.reduceLT, Int.reduceLE, Int.reduceAdd, Int.reduceSub, Int.reduceMul, Int.reduceNeg, Int.reduceToNat, Int.reduceEq]) (by simp only [go_sem, reduceCtorEq, reduceIte, Nat.reduceEqDiff, Nat.reduceAdd, Nat.reduceLeDiff, Nat.reduceMul, Int.reduceLT, Int.reduceLE, Int.reduceAdd, Int.reduceSub, Int.reduceMul, Int.reduceNeg, Int.reduceToNat, Int.reduceEq]) (by simp only [go_sem, reduceCtorEq, reduceIte, Nat.reduceEqDiff, Nat.reduceAdd, Nat.reduceLeDiff, Nat.reduceMul, Int.reduceLT, Int.reduceLE, Int.reduceAdd, Int.reduceSub, Int.reduceMul, Int.reduceNeg, Int.reduceToNat, Int.reduceEq]) (by simp only [go_sem, reduceCtorEq, reduceIte, Nat.reduceEqDiff, Nat.reduceAdd, Nat.reduceLeDiff, Nat.reduceMul, Int.reduceLT, Int.reduceLE, Int.reduceAdd, Int.reduceSub, Int.reduceMul, Int.reduceNeg, Int.reduceToNat, Int.reduceEq]) (by simp only [go_sem, reduceCtorEq, reduceIte, Nat.reduceEqDiff, Nat.reduceAdd, Nat.reduceLeDiff, Nat.reduceMul, Int.reduceLT, Int.reduceLE, Int.reduceAdd, Int.reduceSub, Int.reduceMul, Int.reduceNeg, Int.reduceToNat, Int.reduceEq]) (by simp only [go_sem, reduceCtorEq, reduceIte, Nat.reduceEqDiff, Nat.reduceAdd, Nat.reduceLeDiff, Nat.reduceMul, Int.reduceLT, Int.reduceLE, Int.reduceAdd, Int.reduceSub, Int.reduceMul, Int.reduceNeg, Int.reduceToNat, Int.reduceEq]) (by simp only [go_sem, reduceCtorEq, reduceIte, Nat.reduceEqDiff, Nat.reduceAdd, Nat.reduceLeDiff, Nat.reduceMul, Int.reduceLT, Int.reduceLE, Int.reduceAdd, Int.reduceSub, Int.reduceMul, Int.reduceNeg, Int.reduceToNat, Int.reduceEq]) (by simp only [go_sem, reduceCtorEq, reduceIte, Nat.reduceEqDiff, Nat.reduceAdd, Nat.reduceLeDiff, Nat.reduceMul, Int.reduceLT, Int.reduceLE, Int.reduceAdd, Int.reduceSub, Int.reduceMul, Int.reduceNeg, Int.reduceToNat, Int.reduceEq]) (by simp only [go_sem, reduceCtorEq, reduceIte, Nat.reduceEqDiff, Nat.reduceAdd, Nat.reduceLeDiff, Nat.reduceMul, Int.reduceLT, Int.reduceLE, Int.reduceAdd, Int.reduceSub, Int.reduceMul, Int.reduceNeg, Int.reduceToNat, Int.reduceEq]) (by simp only [go_sem, reduceCtorEq, reduceIte, Nat.reduceEqDiff, Nat.reduceAdd, Nat.reduceLeDiff, Nat.reduceMul, Int.reduceLT, Int.reduceLE, Int.reduceAdd, Int.reduceSub, Int.reduceMul, Int.reduceNeg, Int.reduceToNat, Int.reduceEq]) (by simp only [go_sem, reduceCtorEq, reduceIte, Nat.reduceEqDiff, Nat.reduceAdd, Nat.reduceLeDiff, Nat.reduceMul, Int.reduceLT, Int.reduceLE, Int.reduceAdd, Int.reduceSub, Int.reduceMul, Int.reduceNeg, Int.reduceToNat, Int.reduceEq]) 1 (by simp only [go_sem, reduceCtorEq, reduceIte, Nat.reduceEqDiff, Nat.reduceAdd, Nat.reduceLeDiff, Nat.reduceMul, Int.reduceLT, Int.reduceLE, Int.reduceAdd, Int.reduceSub, Int.reduceMul, Int.reduceNeg, Int.reduceToNat, Int.reduceEq, h15]) (.inr ⟨no (fun h => by rw [ha] at h; cases h.2.2.1), rfl⟩)
      simp only [go_sem, reduceCtorEq, reduceIte, Nat.reduceEqDiff, Nat.reduceAdd, Nat.reduceLeDiff, Nat.reduceMul, Int.reduceLT, Int.reduceLE, Int.reduceAdd, Int.reduceSub, Int.reduceMul, Int.reduceNeg, Int.reduceToNat, Int.reduceEq, s.h1, s.h2, s.h5, s.h7, s.h8, s.h9, s.h10, s.h11, s.h12, s.h13, h15, h16, e0, b9, b10]
      refine callK_same (k36 _ _ b) ?_
      cases hb : b.ok
      · simp only [go_sem, reduceCtorEq, reduceIte, Nat.reduceEqDiff, Nat.reduceAdd, Nat.reduceLeDiff, Nat.reduceMul, Int.reduceLT, Int.reduceLE, Int.reduceAdd, Int.reduceSub, Int.reduceMul, Int.reduceNeg, Int.reduceToNat, Int.reduceEq, s.h1, s.h2, s.h5, s.h7, s.h8, s.h9, s.h10, s.h11, s.h12, s.h13, h15, h16, b9, b10]
        exact fin0 _ (by simp only [go_sem, reduceCtorEq, reduceIte, Nat.reduceEqDiff, Nat.reduceAdd, Nat.reduceLeDiff, Nat.reduceMul, Int.reduceLT, Int.reduceLE, Int.reduceAdd, Int.reduceSub, Int.reduceMul, Int.reduceNeg, Int.reduceToNat, Int.reduceEq]) (by simp only [go_sem, reduceCtorEq, reduceIte, Nat.reduceEqDiff, Nat.reduceAdd, Nat.reduceLeDiff, Nat.reduceMul, Int.reduceLT, Int.reduceLE, Int.reduceAdd, Int.reduceSub, Int.reduceMul, Int.reduceNeg, Int.reduceToNat, Int.reduceEq]) (by simp only [go_sem, reduceCtorEq, reduceIte, Nat.reduceEqDiff, Nat.reduceAdd, Nat.reduceLeDiff, Nat.reduceMul, Int.reduceLT, Int.reduceLE, Int.reduceAdd, Int.reduceSub, Int.reduceMul, Int.reduceNeg, Int.reduceToNat, Int.reduceEq]) (by simp only [go_sem, reduceCtorEq, reduceIte, Nat.reduceEqDiff, Nat.reduceAdd, Nat.reduceLeDiff, Nat.reduceMul, Int.reduceLT, Int.reduceLE, Int.reduceAdd, Int.reduceSub, Int.reduceMul, Int.reduceNeg, Int.reduceToNat, Int.reduceEq]) (by simp only [go_sem, reduceCtorEq, reduceIte, Nat.reduceEqDiff, Nat.reduceAdd, Nat.reduceLeDiff, Nat.reduceMul, Int.reduceLT, Int.reduceLE, Int.reduceAdd, Int.reduceSub, Int.reduceMul, Int.reduceNeg, Int.reduceToNat, Int.reduceEq]) (by simp only [go_sem, reduceCtorEq, reduceIte, Nat.reduceEqDiff, Nat.reduceAdd, Nat.reduceLeDiff, Nat.reduceMul, Int.reduceLT, Int.reduceLE, Int.reduceAdd, Int.reduceSub, Int.reduceMul, Int.reduceNeg, Int.reduceToNat, Int.reduceEq]) (by simp only [go_sem, reduceCtorEq, reduceIte, Nat.reduceEqDiff, Nat.reduceAdd, Nat.reduceLeDiff, Nat.reduceMul, Int.reduceLT, Int.reduceLE, Int.reduceAdd, Int.reduceSub, Int.reduceMul, Int.reduceNeg, Int.reduceToNat, Int.reduceEq]) (by simp only [go_sem, reduceCtorEq, reduceIte, Nat.reduceEqDiff, Nat.reduceAdd, Nat.reduceLeDiff, Nat.reduceMul, Int.reduceLT, Int.reduceLE, Int.reduceAdd, Int.reduceSub, Int.reduceMul, Int.reduceNeg, Int.reduceToNat, Int.reduceEq]) (by simp only [go_sem, reduceCtorEq, reduceIte, Nat.reduceEqDiff, Nat.reduceAdd, Nat.reduceLeDiff, Nat.reduceMul, Int.reduceLT, Int.reduceLE, Int.reduceAdd, Int.reduceSub, Int.reduceMul, Int.reduceNeg, Int.reduceToNat, Int.reduceEq]) (by simp only [go_sem, reduceCtorEq, reduceIte, Nat.reduceEqDiff, Nat.reduceAdd, Nat.reduceLeDiff, Nat.reduceMul, Int.reduceLT, Int.reduceLE, Int.reduceAdd, Int.reduceSub, Int.reduceMul, Int.reduceNeg, Int.reduceToNat, Int.reduceEq]) (by simp only [go_sem, reduceCtorEq, reduceIte, Nat.reduceEqDiff, Nat.reduceAdd, Nat.reduceLeDiff, Nat.reduceMul, Int.reduceLT, Int.reduceLE, Int.reduceAdd, Int.reduceSub, Int.reduceMul, Int.reduceNeg, Int.reduceToNat, Int.reduceEq]) (by simp only [go_sem, reduceCtorEq, reduceIte, Nat.reduceEqDiff, Nat.reduceAdd, Nat.reduceLeDiff, Nat.reduceMul, Int.reduceLT, Int.reduceLE, Int.reduceAdd, Int.reduceSub, Int.reduceMul, Int.reduceNeg, Int.reduceToNat, Int.reduceEq]) (by simp only [go_sem, reduceCtorEq, reduceIte, Nat.reduceEqDiff, Nat.reduceAdd, Nat.reduceLeDiff, Nat.reduceMul, Int.reduceLT, Int.reduceLE, Int.reduceAdd, Int.reduceSub, Int.reduceMul, Int.reduceNeg, Int.reduceToNat, Int.reduceEq]) 1 (by simp only [go_sem, reduceCtorEq, reduceIte, Nat.reduceEqDiff, Nat.reduceAdd, Nat.reduceLeDiff, Nat.reduceMul, Int.reduceLT, Int.reduceLE, Int.reduceAdd, Int.reduceSub, Int.reduceMul, Int.reduceNeg, Int.reduceToNat, Int.reduceEq, h15]) (.inr ⟨no (fun h => by rw [hb] at h; cases h.2.2.2.1), rfl⟩)
      by_cases wa : a.w = ofW k
      rotate_left
      · simp only [go_sem, reduceCtorEq, reduceIte, Nat.reduceEqDiff, Nat.reduceAdd, Nat.reduceLeDiff, Nat.reduceMul, Int.reduceLT, Int.reduceLE, Int.reduceAdd, Int.reduceSub, Int.reduceMul, Int.reduceNeg, Int.reduceToNat, Int.reduceEq, s.h1, s.h2, s.h5, s.h7, s.h8, s.h9, s.h10, s.h11, s.h12, s.h13, h15, h16, e0, b9, b10, wa]
        exact fin0 _ (by simp only [go_sem, reduceCtorEq, reduceIte, Nat.reduceEqDiff, Nat.reduceAdd, Nat.reduceLeDiff, Nat.reduceMul, Int.reduceLT, Int.reduceLE, Int.reduceAdd, Int.reduceSub, Int.reduceMul, Int.reduceNeg, Int.reduceToNat, Int.reduceEq]) (by simp only [go_sem, reduceCtorEq, reduceIte, Nat.reduceEqDiff, Nat.reduceAdd, Nat.reduceLeDiff, Nat.reduceMul, Int.reduceLT, Int.reduceLE, Int.reduceAdd, Int.reduceSub, Int.reduceMul, Int.reduceNeg, Int.reduceToNat, Int.reduceEq]) (by simp only [go_sem, reduceCtorEq, reduceIte, Nat.reduceEqDiff, Nat.reduceAdd, Nat.reduceLeDiff, Nat.reduceMul, Int.reduceLT, Int.reduceLE, Int.reduceAdd, Int.reduceSub, Int.reduceMul, Int.reduceNeg, Int.reduceToNat, Int.reduceEq]) (by simp only [go_sem, reduceCtorEq, reduceIte, Nat.reduceEqDiff, Nat.reduceAdd, Nat.reduceLeDiff, Nat.reduceMul, Int.reduceLT, Int.reduceLE, Int.reduceAdd, Int.reduceSub, Int.reduceMul, Int.reduceNeg, Int.reduceToNat, Int.reduceEq]) (by simp only [go_sem, reduceCtorEq, reduceIte, Nat.reduceEqDiff, Nat.reduceAdd, Nat.reduceLeDiff, Nat.reduceMul, Int.reduceLT, Int.reduceLE, Int.reduceAdd, Int.reduceSub, Int.reduceMul, Int.reduceNeg, Int.reduceToNat, Int.reduceEq]) (by simp only [go_sem, reduceCtorEq, reduceIte, Nat.reduceEqDiff, Nat.reduceAdd, Nat.reduceLeDiff, Nat.reduceMul, Int.reduceLT, Int.reduceLE, Int.reduceAdd, Int.reduceSub, Int.reduceMul, Int.reduceNeg, Int.reduceToNat, Int.reduceEq]) (by simp only [go_sem, reduceCtorEq, reduceIte, Nat.reduceEqDiff, Nat.reduceAdd, Nat.reduceLeDiff, Nat.reduceMul, Int.reduceLT, Int.reduceLE, Int.reduceAdd, Int.reduceSub, Int.reduceMul, Int.reduceNeg, Int.reduceToNat, Int.reduceEq]) (by simp only [go_sem, reduceCtorEq, reduceIte, Nat.reduceEqDiff, Nat.reduceAdd, Nat.reduceLeDiff, Nat.reduceMul, Int.reduceLT, Int.reduceLE, Int.reduceAdd, Int.reduceSub, Int.reduceMul, Int.reduceNeg, Int.reduceToNat, Int.reduceEq]) (by simp only [go_sem, reduceCtorEq, reduceIte, Nat.reduceEqDiff, Nat.reduceAdd, Nat.reduceLeDiff, Nat.reduceMul, Int.reduceLT, Int.reduceLE, Int.reduceAdd, Int.reduceSub, Int.reduceMul, Int.reduceNeg, Int.reduceToNat, Int.reduceEq]) (by simp only [go_sem, reduceCtorEq, reduceIte, Nat.reduceEqDiff, Nat.reduceAdd, Nat.reduceLeDiff, Nat.reduceMul, Int.reduceLT, Int.reduceLE, Int.reduceAdd, Int.reduceSub, Int.reduceMul, Int.reduceNeg, Int.reduceToNat, Int.reduceEq]) (by simp only [go_sem, reduceCtorEq, reduceIte, Nat.reduceEqDiff, Nat.reduceAdd, Nat.reduceLeDiff, Nat.reduceMul, Int.reduceLT, Int.reduceLE, Int.reduceAdd, Int.reduceSub, Int.reduceMul, Int.reduceNeg, Int.reduceToNat, Int.reduceEq]) (by simp only [go_sem, reduceCtorEq, reduceIte, Nat.reduceEqDiff, Nat.reduceAdd, Nat.reduceLeDiff, Nat.reduceMul, Int.reduceLT, Int.reduceLE, Int.reduceAdd, Int.reduceSub, Int.reduceMul, Int.reduceNeg, Int.reduceToNat, Int.reduceEq]) (by simp only [go_sem, reduceCtorEq, reduceIte, Nat.reduceEqDiff, Nat.reduceAdd, Nat.reduceLeDiff, Nat.reduceMul, Int.reduceLT, Int.reduceLE, Int.reduceAdd, Int.reduceSub, Int.reduceMul, Int.reduceNeg, Int.reduceToNat, Int.reduceEq]) 1 (by simp only [go_sem, reduceCtorEq, reduceIte, Nat.reduceEqDiff, Nat.reduceAdd, Nat.reduceLeDiff, Nat.reduceMul, Int.reduceLT, Int.reduceLE, Int.reduceAdd, Int.reduceSub, Int.reduceMul, Int.reduceNeg, Int.reduceToNat, Int.reduceEq, h15]) (.inr ⟨no (fun h => wa h.2.2.2.2.1), rfl⟩)
      by_cases wb : b.w = ofW k
      rotate_left
      · simp only [go_sem, reduceCtorEq, reduceIte, Nat.reduceEqDiff, Nat.reduceAdd, Nat.reduceLeDiff, Nat.reduceMul, Int.reduceLT, Int.reduceLE, Int.reduceAdd, Int.reduceSub, Int.reduceMul, Int.reduceNeg, Int.reduceToNat, Int.reduceEq, s.h1, s.h2, s.h5, s.h7, s.h8, s.h9, s.h10, s.h11, s.h12, s.h13, h15, h16, e0, b9, b10, wa, wb]
        exact fin0 _ (by simp only [go_sem, reduceCtorEq, reduceIte, Nat.reduceEqDiff, Nat.reduceAdd, Nat.reduceLeDiff, Nat.reduceMul, Int.reduceLT, Int.reduceLE, Int.reduceAdd, Int.reduceSub, Int.reduceMul, Int.reduceNeg, Int.reduceToNat, Int.reduceEq]) (by simp only [go_sem, reduceCtorEq, reduceIte, Nat.reduceEqDiff, Nat.reduceAdd, Nat.reduceLeDiff, Nat.reduceMul, Int.reduceLT, Int.reduceLE, Int.reduceAdd, Int.reduceSub, Int.reduceMul, Int.reduceNeg, Int.reduceToNat, Int.reduceEq]) (by simp only [go_sem, reduceCtorEq, reduceIte, Nat.reduceEqDiff, Nat.reduceAdd, Nat.reduceLeDiff, Nat.reduceMul, Int.reduceLT, Int.reduceLE, Int.reduceAdd, Int.reduceSub, Int.reduceMul, Int.reduceNeg, Int.reduceToNat, Int.reduceEq]) (by simp only [go_sem, reduceCtorEq, reduceIte, Nat.reduceEqDiff, Nat.reduceAdd, Nat.reduceLeDiff, Nat.reduceMul, Int.reduceLT, Int.reduceLE, Int.reduceAdd, Int.reduceSub, Int.reduceMul, Int.reduceNeg, Int.reduceToNat, Int.reduceEq]) (by simp only [go_sem, reduceCtorEq, reduceIte, Nat.reduceEqDiff, Nat.reduceAdd, Nat.reduceLeDiff, Nat.reduceMul, Int.reduceLT, Int.reduceLE, Int.reduceAdd, Int.reduceSub, Int.reduceMul, Int.reduceNeg, Int.reduceToNat, Int.reduceEq]) (by simp only [go_sem, reduceCtorEq, reduceIte, Nat.reduceEqDiff, Nat.reduceAdd, Nat.reduceLeDiff, Nat.reduceMul, Int.reduceLT, Int.reduceLE, Int.reduceAdd, Int.reduceSub, Int.reduceMul, Int.reduceNeg, Int.reduceToNat, Int.reduceEq]) (by simp only [go_sem, reduceCtorEq, reduceIte, Nat.reduceEqDiff, Nat.reduceAdd, Nat.reduceLeDiff, Nat.reduceMul, Int.reduceLT, Int.reduceLE, Int.reduceAdd, Int.reduceSub, Int.reduceMul, Int.reduceNeg, Int.reduceToNat, Int.reduceEq]) (by simp only [go_sem, reduceCtorEq, reduceIte, Nat.reduceEqDiff, Nat.reduceAdd, Nat.reduceLeDiff, Nat.reduceMul, Int.reduceLT, Int.reduceLE, Int.reduceAdd, Int.reduceSub, Int.reduceMul, Int.reduceNeg, Int.reduceToNat, Int.reduceEq]) (by simp only [go_sem, reduceCtorEq, reduceIte, Nat.reduceEqDiff, Nat.reduceAdd, Nat.reduceLeDiff, Nat.reduceMul, Int.reduceLT, Int.reduceLE, Int.reduceAdd, Int.reduceSub, Int.reduceMul, Int.reduceNeg, Int.reduceToNat, Int.reduceEq]) (by simp only [go_sem, reduceCtorEq, reduceIte, Nat.reduceEqDiff, Nat.reduceAdd, Nat.reduceLeDiff, Nat.reduceMul, Int.reduceLT, Int.reduceLE, Int.reduceAdd, Int.reduceSub, Int.reduceMul, Int.reduceNeg, Int.reduceToNat, Int.reduceEq]) (by simp only [go_sem, reduceCtorEq, reduceIte, Nat.reduceEqDiff, Nat.reduceAdd, Nat.reduceLeDiff, Nat.reduceMul, Int.reduceLT, Int.reduceLE, Int.reduceAdd, Int.reduceSub, Int.reduceMul, Int.reduceNeg, Int.reduceToNat, Int.reduceEq]) (by simp only [go_sem, reduceCtorEq, reduceIte, Nat.reduceEqDiff, Nat.reduceAdd, Nat.reduceLeDiff, Nat.reduceMul, Int.reduceLT, Int.reduceLE, Int.reduceAdd, Int.reduceSub, Int.reduceMul, Int.reduceNeg, Int.reduceToNat, Int.reduceEq]) (by simp only [go_sem, reduceCtorEq, reduceIte, Nat.reduceEqDiff, Nat.reduceAdd, Nat.reduceLeDiff, Nat.reduceMul, Int.reduceLT, Int.reduceLE, Int.reduceAdd, Int.reduceSub, Int.reduceMul, Int.reduceNeg, Int.reduceToNat, Int.reduceEq]) 1 (by simp only [go_sem, reduceCtorEq, reduceIte, Nat.reduceEqDiff, Nat.reduceAdd, Nat.reduceLeDiff, Nat.reduceMul, Int.reduceLT, Int.reduceLE, Int.reduceAdd, Int.reduceSub, Int.reduceMul, Int.reduceNeg, Int.reduceToNat, Int.reduceEq, h15]) (.inr ⟨no (fun h => wb h.2.2.2.2.2), rfl⟩)
      simp only [go_sem, reduceCtorEq, reduceIte, Nat.reduceEqDiff, Nat.reduceAdd, Nat.reduceLeDiff, Nat.reduceMul, Int.reduceLT, Int.reduceLE, Int.reduceAdd, Int.reduceSub, Int.reduceMul, Int.reduceNeg, Int.reduceToNat, Int.reduceEq, s.h1, s.h2, s.h5, s.h7, s.h8, s.h9, s.h10, s.h11, s.h12, s.h13, h15, h16, e0, b9, b10, wa, wb]
      exact fin0 _ (by simp only [go_sem, reduceCtorEq, reduceIte, Nat.reduceEqDiff, Nat.reduceAdd, Nat.reduceLeDiff, Nat.reduceMul, Int.reduceLT, Int.reduceLE, Int.reduceAdd, Int.reduceSub, Int.reduceMul, Int.reduceNeg, Int.reduceToNat, Int.reduceEq]) (by simp only [go_sem, reduceCtorEq, reduceIte, Nat.reduceEqDiff, Nat.reduceAdd, Nat.reduceLeDiff, Nat.reduceMul, Int.reduceLT, Int.reduceLE, Int.reduceAdd, Int.reduceSub, Int.reduceMul, Int.reduceNeg, Int.reduceToNat, Int.reduceEq]) (by simp only [go_sem, reduceCtorEq, reduceIte, Nat.reduceEqDiff, Nat.reduceAdd, Nat.reduceLeDiff, Nat.reduceMul, Int.reduceLT, Int.reduceLE, Int.reduceAdd, Int.reduceSub, Int.reduceMul, Int.reduceNeg, Int.reduceToNat, Int.reduceEq]) (by simp only [go_sem, reduceCtorEq, reduceIte, Nat.reduceEqDiff, Nat.reduceAdd, Nat.reduceLeDiff, Nat.reduceMul, Int.reduceLT, Int.reduceLE, Int.reduceAdd, Int.reduceSub, Int.reduceMul, Int.reduceNeg, Int.reduceToNat, Int.reduceEq]) (by simp only [go_sem, reduceCtorEq, reduceIte, Nat.reduceEqDiff, Nat.reduceAdd, Nat.reduceLeDiff, Nat.reduceMul, Int.reduceLT, Int.reduceLE, Int.reduceAdd, Int.reduceSub, Int.reduceMul, Int.reduceNeg, Int.reduceToNat, Int.reduceEq]) (by simp only [go_sem, reduceCtorEq, reduceIte, Nat.reduceEqDiff, Nat.reduceAdd, Nat.reduceLeDiff, Nat.reduceMul, Int.reduceLT, Int.reduceLE, Int.reduceAdd, Int.reduceSub, Int.reduceMul, Int.reduceNeg, Int.reduceToNat, Int.reduceEq]) (by simp only [go_sem, reduceCtorEq, reduceIte, Nat.reduceEqDiff, Nat.reduceAdd, Nat.reduceLeDiff, Nat.reduceMul, Int.reduceLT, Int.reduceLE, Int.reduceAdd, Int.reduceSub, Int.reduceMul, Int.reduceNeg, Int.reduceToNat, Int.reduceEq]) (by simp only [go_sem, reduceCtorEq, reduceIte, Nat.reduceEqDiff, Nat.reduceAdd, Nat.reduceLeDiff, Nat.reduceMul, Int.reduceLT, Int.reduceLE, Int.reduceAdd, Int.reduceSub, Int.reduceMul, Int.reduceNeg, Int.reduceToNat, Int.reduceEq]) (by simp only [go_sem, reduceCtorEq, reduceIte, Nat.reduceEqDiff, Nat.reduceAdd, Nat.reduceLeDiff, Nat.reduceMul, Int.reduceLT, Int.reduceLE, Int.reduceAdd, Int.reduceSub, Int.reduceMul, Int.reduceNeg, Int.reduceToNat, Int.reduceEq]) (by simp only [go_sem, reduceCtorEq, reduceIte, Nat.reduceEqDiff, Nat.reduceAdd, Nat.reduceLeDiff, Nat.reduceMul, Int.reduceLT, Int.reduceLE, Int.reduceAdd, Int.reduceSub, Int.reduceMul, Int.reduceNeg, Int.reduceToNat, Int.reduceEq]) (by simp only [go_sem, reduceCtorEq, reduceIte, Nat.reduceEqDiff, Nat.reduceAdd, Nat.reduceLeDiff, Nat.reduceMul, Int.reduceLT, Int.reduceLE, Int.reduceAdd, Int.reduceSub, Int.reduceMul, Int.reduceNeg, Int.reduceToNat, Int.reduceEq]) (by simp only [go_sem, reduceCtorEq, reduceIte, Nat.reduceEqDiff, Nat.reduceAdd, Nat.reduceLeDiff, Nat.reduceMul, Int.reduceLT, Int.reduceLE, Int.reduceAdd, Int.reduceSub, Int.reduceMul, Int.reduceNeg, Int.reduceToNat, Int.reduceEq]) (by simp only [go_sem, reduceCtorEq, reduceIte, Nat.reduceEqDiff, Nat.reduceAdd, Nat.reduceLeDiff, Nat.reduceMul, Int.reduceLT, Int.reduceLE, Int.reduceAdd, Int.reduceSub, Int.reduceMul, Int.reduceNeg, Int.reduceToNat, Int.reduceEq]) 0 (by simp only [go_sem, reduceCtorEq, reduceIte, Nat.reduceEqDiff, Nat.reduceAdd, Nat.reduceLeDiff, Nat.reduceMul, Int.reduceLT, Int.reduceLE, Int.reduceAdd, Int.reduceSub, Int.reduceMul, Int.reduceNeg, Int.reduceToNat, Int.reduceEq]) (.inl ⟨askB_iff.2 ⟨by decide, hk1, ha, hb, wa, wb⟩, rfl⟩)
  clear h14 h15 h16 b9 b10
  clear s
  rintro σ F9 M9 ⟨s, h14, h15, h16⟩
  obtain rfl := s.f
  have b9 := blk_M (F := F9) s.f9
  have b10 := blk_M (F := F9) s.f10
  have b12 := blk_M (F := F9) s.f12
  have b13 := blk_M (F := F9) s.f13
  rcases h14 with ⟨hask, h14, p⟩ | ⟨hask, h14⟩
  rotate_left
  · rw [hask] at h15
    simp only [Bool.false_eq_true, if_false] at h15
    simp only [go_sem, reduceCtorEq, reduceIte, Nat.reduceEqDiff, Nat.reduceAdd, Nat.reduceLeDiff, Nat.reduceMul, Int.reduceLT, Int.reduceLE, Int.reduceAdd, Int.reduceSub, Int.reduceMul, Int.reduceNeg, Int.reduceToNat, Int.reduceEq, s.h1, s.h2, s.h5, s.h7, s.h8, s.h9, s.h10, s.h11, s.h12, s.h13, h14, h15]
    refine callK_same (k37 _ _ 1) ?_
    simp only [go_sem, reduceCtorEq, reduceIte, Nat.reduceEqDiff, Nat.reduceAdd, Nat.reduceLeDiff, Nat.reduceMul, Int.reduceLT, Int.reduceLE, Int.reduceAdd, Int.reduceSub, Int.reduceMul, Int.reduceNeg, Int.reduceToNat, Int.reduceEq, s.h1, s.h2, s.h5, s.h7, s.h8, s.h9, s.h10, s.h11, s.h12, s.h13, h14, h15]
    exact ⟨⟨s.toT0.ext (by simp only [go_sem, reduceCtorEq, reduceIte, Nat.reduceEqDiff, Nat.reduceAdd, Nat.reduceLeDiff, Nat.reduceMul, Int.reduceLT, Int.reduceLE, Int.reduceAdd, Int.reduceSub, Int.reduceMul, Int.reduceNeg, Int.reduceToNat, Int.reduceEq]) (by simp only [go_sem, reduceCtorEq, reduceIte, Nat.reduceEqDiff, Nat.reduceAdd, Nat.reduceLeDiff, Nat.reduceMul, Int.reduceLT, Int.reduceLE, Int.reduceAdd, Int.reduceSub, Int.reduceMul, Int.reduceNeg, Int.reduceToNat, Int.reduceEq]), by simp only [go_sem, reduceCtorEq, reduceIte, Nat.reduceEqDiff, Nat.reduceAdd, Nat.reduceLeDiff, Nat.reduceMul, Int.reduceLT, Int.reduceLE, Int.reduceAdd, Int.reduceSub, Int.reduceMul, Int.reduceNeg, Int.reduceToNat, Int.reduceEq, s.h5], by simp only [go_sem, reduceCtorEq, reduceIte, Nat.reduceEqDiff, Nat.reduceAdd, Nat.reduceLeDiff, Nat.reduceMul, Int.reduceLT, Int.reduceLE, Int.reduceAdd, Int.reduceSub, Int.reduceMul, Int.reduceNeg, Int.reduceToNat, Int.reduceEq, s.h6], s.rd⟩, by simp only [go_sem, reduceCtorEq, reduceIte, Nat.reduceEqDiff, Nat.reduceAdd, Nat.reduceLeDiff, Nat.reduceMul, Int.reduceLT, Int.reduceLE, Int.reduceAdd, Int.reduceSub, Int.reduceMul, Int.reduceNeg, Int.reduceToNat, Int.reduceEq, s.h7], by simp only [go_sem, reduceCtorEq, reduceIte, Nat.reduceEqDiff, Nat.reduceAdd, Nat.reduceLeDiff, Nat.reduceMul, Int.reduceLT, Int.reduceLE, Int.reduceAdd, Int.reduceSub, Int.reduceMul, Int.reduceNeg, Int.reduceToNat, Int.reduceEq, s.h8]⟩
  rw [hask] at h15
  simp only [if_true] at h15
  obtain ⟨hop, hk1, ha, hb, wa, wb⟩ := askB_iff.1 hask
  rw [wK_of hk1] at h16
  simp only [go_sem, reduceCtorEq, reduceIte, Nat.reduceEqDiff, Nat.reduceAdd, Nat.reduceLeDiff, Nat.reduceMul, Int.reduceLT, Int.reduceLE, Int.reduceAdd, Int.reduceSub, Int.reduceMul, Int.reduceNeg, Int.reduceToNat, Int.reduceEq, s.h1, s.h2, s.h5, s.h7, s.h8, s.h9, s.h10, s.h11, s.h12, s.h13, h14, h15]
  refine callK_same (k37 _ _ 0) ?_
  simp only [go_sem, reduceCtorEq, reduceIte, Nat.reduceEqDiff, Nat.reduceAdd, Nat.reduceLeDiff, Nat.reduceMul, Int.reduceLT, Int.reduceLE, Int.reduceAdd, Int.reduceSub, Int.reduceMul, Int.reduceNeg, Int.reduceToNat, Int.reduceEq, s.h1, s.h2, s.h5, s.h7, s.h8, s.h9, s.h10, s.h11, s.h12, s.h13, h14, h15, h16, b12, b13, b9, b10]
  refine callK_same (k36 _ _ x) ?_
  simp only [go_sem, reduceCtorEq, reduceIte, Nat.reduceEqDiff, Nat.reduceAdd, Nat.reduceLeDiff, Nat.reduceMul, Int.reduceLT, Int.reduceLE, Int.reduceAdd, Int.reduceSub, Int.reduceMul, Int.reduceNeg, Int.reduceToNat, Int.reduceEq, s.h1, s.h2, s.h5, s.h7, s.h8, s.h9, s.h10, s.h11, s.h12, s.h13, h14, h15, h16, b12, b13, b9, b10, p.okx]
  refine callK_same (k36 _ _ y) ?_
  have wx : x.w = ofW k := p.wx.trans wa
  have wy : y.w = ofW k := p.wy.trans wb
  simp only [go_sem, reduceCtorEq, reduceIte, Nat.reduceEqDiff, Nat.reduceAdd, Nat.reduceLeDiff, Nat.reduceMul, Int.reduceLT, Int.reduceLE, Int.reduceAdd, Int.reduceSub, Int.reduceMul, Int.reduceNeg, Int.reduceToNat, Int.reduceEq, s.h1, s.h2, s.h5, s.h7, s.h8, s.h9, s.h10, s.h11, s.h12, s.h13, h14, h15, h16, b12, b13, b9, b10, p.oky, wx, wy, eq_self]
  refine callK_same (k38 _ _ x a i p.okx p.subx) ?_
  simp only [go_sem, reduceCtorEq, reduceIte, Nat.reduceEqDiff, Nat.reduceAdd, Nat.reduceLeDiff, Nat.reduceMul, Int.reduceLT, Int.reduceLE, Int.reduceAdd, Int.reduceSub, Int.reduceMul, Int.reduceNeg, Int.reduceToNat, Int.reduceEq, s.h1, s.h2, s.h5, s.h7, s.h8, s.h9, s.h10, s.h11, s.h12, s.h13, h14, h15, h16, b12, b13, b9, b10]
  refine callK_same (k38 _ _ y b j p.oky p.suby) ?_
  simp only [go_sem, reduceCtorEq, reduceIte, Nat.reduceEqDiff, Nat.reduceAdd, Nat.reduceLeDiff, Nat.reduceMul, Int.reduceLT, Int.reduceLE, Int.reduceAdd, Int.reduceSub, Int.reduceMul, Int.reduceNeg, Int.reduceToNat, Int.reduceEq, s.h1, s.h2, s.h5, s.h7, s.h8, s.h9, s.h10, s.h11, s.h12, s.h13, h14, h15, h16, b12, b13, b9, b10]
  have eij : IntKind.i64.wrap ((i : Int) + j) = i + j := w64 (by omega) (by omega)
  simp only [eij]
  refine callK_of (k39_gen _ _ a (i + j) 14 4 7 (by decide) (by decide) (by decide) (by decide) (by decide) ha) ?_
  rintro su G1 M10 hsu
  obtain ⟨hG1, le1, k1, o1, lu, hlu, hmu, rdu⟩ := some_row hsu s.old
  rw [hG1]
  refine ⟨fun _ => le1, ?_⟩
  have s1 := s.grow k1 o1
  simp only [go_sem, reduceCtorEq, reduceIte, Nat.reduceEqDiff, Nat.reduceAdd, Nat.reduceLeDiff, Nat.reduceMul, Int.reduceLT, Int.reduceLE, Int.reduceAdd, Int.reduceSub, Int.reduceMul, Int.reduceNeg, Int.reduceToNat, Int.reduceEq, s.h1, s.h2, s.h5, s.h7, s.h8, s.h9, s.h10, s.h11, s.h12, s.h13]
  refine callK_of (k39_gen _ _ b j 14 4 7 (by decide) (by decide) (by decide) (by decide) (by decide) hb) ?_
  rintro sv G2 M11 hsv
  obtain ⟨hG2, le2, k2, o2, lw, hlw, hmw, rdw⟩ := some_row hsv o1
  rw [hG2]
  refine ⟨fun _ => le2, ?_⟩
  have s2 := s1.grow k2 o2
  have rdu2 := rdu.keep k2 o2
  have esu : ∃ ad cap, su = .slice ad lu.length cap := by obtain ⟨_, ad, cap, e, _⟩ := rdu; exact ⟨ad, cap, e⟩
  have esv : ∃ ad cap, sv = .slice ad lw.length cap := by obtain ⟨_, ad, cap, e, _⟩ := rdw; exact ⟨ad, cap, e⟩
  simp only [go_sem, reduceCtorEq, reduceIte, Nat.reduceEqDiff, Nat.reduceAdd, Nat.reduceLeDiff, Nat.reduceMul, Int.reduceLT, Int.reduceLE, Int.reduceAdd, Int.reduceSub, Int.reduceMul, Int.reduceNeg, Int.reduceToNat, Int.reduceEq, s.h1, s.h2, s.h5, s.h7, s.h8, s.h9, s.h10, s.h11, s.h12, s.h13]
  refine loop_of (uI F9 M r2 [.slice aV lv.length cV, .slice aN ln.length cN] op k sl L i j r9 r10 r12 r13 a b x y yes su sv lu lw) lu.length ?_ ?_
  · exact ⟨⟨s2.ext (by simp only [go_sem, reduceCtorEq, reduceIte, Nat.reduceEqDiff, Nat.reduceAdd, Nat.reduceLeDiff, Nat.reduceMul, Int.reduceLT, Int.reduceLE, Int.reduceAdd, Int.reduceSub, Int.reduceMul, Int.reduceNeg, Int.reduceToNat, Int.reduceEq]) (by simp only [go_sem, reduceCtorEq, reduceIte, Nat.reduceEqDiff, Nat.reduceAdd, Nat.reduceLeDiff, Nat.reduceMul, Int.reduceLT, Int.reduceLE, Int.reduceAdd, Int.reduceSub, Int.reduceMul, Int.reduceNeg, Int.reduceToNat, Int.reduceEq]) (by simp only [go_sem, reduceCtorEq, reduceIte, Nat.reduceEqDiff, Nat.reduceAdd, Nat.reduceLeDiff, Nat.reduceMul, Int.reduceLT, Int.reduceLE, Int.reduceAdd, Int.reduceSub, Int.reduceMul, Int.reduceNeg, Int.reduceToNat, Int.reduceEq]) (by simp only [go_sem, reduceCtorEq, reduceIte, Nat.reduceEqDiff, Nat.reduceAdd, Nat.reduceLeDiff, Nat.reduceMul, Int.reduceLT, Int.reduceLE, Int.reduceAdd, Int.reduceSub, Int.reduceMul, Int.reduceNeg, Int.reduceToNat, Int.reduceEq]) (by simp only [go_sem, reduceCtorEq, reduceIte, Nat.reduceEqDiff, Nat.reduceAdd, Nat.reduceLeDiff, Nat.reduceMul, Int.reduceLT, Int.reduceLE, Int.reduceAdd, Int.reduceSub, Int.reduceMul, Int.reduceNeg, Int.reduceToNat, Int.reduceEq]) (by simp only [go_sem, reduceCtorEq, reduceIte, Nat.reduceEqDiff, Nat.reduceAdd, Nat.reduceLeDiff, Nat.reduceMul, Int.reduceLT, Int.reduceLE, Int.reduceAdd, Int.reduceSub, Int.reduceMul, Int.reduceNeg, Int.reduceToNat, Int.reduceEq]) (by simp only [go_sem, reduceCtorEq, reduceIte, Nat.reduceEqDiff, Nat.reduceAdd, Nat.reduceLeDiff, Nat.reduceMul, Int.reduceLT, Int.reduceLE, Int.reduceAdd, Int.reduceSub, Int.reduceMul, Int.reduceNeg, Int.reduceToNat, Int.reduceEq]) (by simp only [go_sem, reduceCtorEq, reduceIte, Nat.reduceEqDiff, Nat.reduceAdd, Nat.reduceLeDiff, Nat.reduceMul, Int.reduceLT, Int.reduceLE, Int.reduceAdd, Int.reduceSub, Int.reduceMul, Int.reduceNeg, Int.reduceToNat, Int.reduceEq]) (by simp only [go_sem, reduceCtorEq, reduceIte, Nat.reduceEqDiff, Nat.reduceAdd, Nat.reduceLeDiff, Nat.reduceMul, Int.reduceLT, Int.reduceLE, Int.reduceAdd, Int.reduceSub, Int.reduceMul, Int.reduceNeg, Int.reduceToNat, Int.reduceEq]) (by simp only [go_sem, reduceCtorEq, reduceIte, Nat.reduceEqDiff, Nat.reduceAdd, Nat.reduceLeDiff, Nat.reduceMul, Int.reduceLT, Int.reduceLE, Int.reduceAdd, Int.reduceSub, Int.reduceMul, Int.reduceNeg, Int.reduceToNat, Int.reduceEq]) (by simp only [go_sem, reduceCtorEq, reduceIte, Nat.reduceEqDiff, Nat.reduceAdd, Nat.reduceLeDiff, Nat.reduceMul, Int.reduceLT, Int.reduceLE, Int.reduceAdd, Int.reduceSub, Int.reduceMul, Int.reduceNeg, Int.reduceToNat, Int.reduceEq]), by simp only [go_sem, reduceCtorEq, reduceIte, Nat.reduceEqDiff, Nat.reduceAdd, Nat.reduceLeDiff, Nat.reduceMul, Int.reduceLT, Int.reduceLE, Int.reduceAdd, Int.reduceSub, Int.reduceMul, Int.reduceNeg, Int.reduceToNat, Int.reduceEq], by simp only [go_sem, reduceCtorEq, reduceIte, Nat.reduceEqDiff, Nat.reduceAdd, Nat.reduceLeDiff, Nat.reduceMul, Int.reduceLT, Int.reduceLE, Int.reduceAdd, Int.reduceSub, Int.reduceMul, Int.reduceNeg, Int.reduceToNat, Int.reduceEq], rdu2, rdw⟩, 0, by omega, by simp only [go_sem, reduceCtorEq, reduceIte, Nat.reduceEqDiff, Nat.reduceAdd, Nat.reduceLeDiff, Nat.reduceMul, Int.reduceLT, Int.reduceLE, Int.reduceAdd, Int.reduceSub, Int.reduceMul, Int.reduceNeg, Int.reduceToNat, Int.reduceEq] <;> rfl⟩
  clear h14 h15 h16 b9 b10 b12 b13 s1 s2 rdu2 rdu rdw k1 o1 k2 o2 le1 le2 hG1 hG2 hsu hsv
  clear s
  rintro ms σ F10 M12 ⟨s, ns, hns, h19⟩
  obtain rfl := s.f
  have h17 := s.h17
  have h18 := s.h18
  obtain ⟨adu, capu, rfl⟩ := esu
  obtain ⟨adv, capv, rfl⟩ := esv
  have b9 := blk_M (F := F10) s.f9
  have b10 := blk_M (F := F10) s.f10
  have b12 := blk_M (F := F10) s.f12
  have b13 := blk_M (F := F10) s.f13
  by_cases hnl : (ns : Int) < lu.length
  · have ens : IntKind.i64.wrap ((ns : Int) + 1) = ns + 1 := w64 (by omega) (by omega)
    simp only [go_sem, reduceCtorEq, reduceIte, Nat.reduceEqDiff, Nat.reduceAdd, Nat.reduceLeDiff, Nat.reduceMul, Int.reduceLT, Int.reduceLE, Int.reduceAdd, Int.reduceSub, Int.reduceMul, Int.reduceNeg, Int.reduceToNat, Int.reduceEq, s.h1, s.h2, s.h5, s.h7, s.h8, s.h9, s.h10, s.h11, s.h12, s.h13, h17, h18, h19, hnl]
    refine loop_of (wI F10 M r2 [.slice aV lv.length cV, .slice aN ln.length cN] op k sl L i j r9 r10 r12 r13 a b x y yes (.slice adu lu.length capu) (.slice adv lw.length capv) lu lw ns) lw.length ?_ ?_
    · exact ⟨s.ext (by simp only [go_sem, reduceCtorEq, reduceIte, Nat.reduceEqDiff, Nat.reduceAdd, Nat.reduceLeDiff, Nat.reduceMul, Int.reduceLT, Int.reduceLE, Int.reduceAdd, Int.reduceSub, Int.reduceMul, Int.reduceNeg, Int.reduceToNat, Int.reduceEq]) (by simp only [go_sem, reduceCtorEq, reduceIte, Nat.reduceEqDiff, Nat.reduceAdd, Nat.reduceLeDiff, Nat.reduceMul, Int.reduceLT, Int.reduceLE, Int.reduceAdd, Int.reduceSub, Int.reduceMul, Int.reduceNeg, Int.reduceToNat, Int.reduceEq]) (by simp only [go_sem, reduceCtorEq, reduceIte, Nat.reduceEqDiff, Nat.reduceAdd, Nat.reduceLeDiff, Nat.reduceMul, Int.reduceLT, Int.reduceLE, Int.reduceAdd, Int.reduceSub, Int.reduceMul, Int.reduceNeg, Int.reduceToNat, Int.reduceEq]) (by simp only [go_sem, reduceCtorEq, reduceIte, Nat.reduceEqDiff, Nat.reduceAdd, Nat.reduceLeDiff, Nat.reduceMul, Int.reduceLT, Int.reduceLE, Int.reduceAdd, Int.reduceSub, Int.reduceMul, Int.reduceNeg, Int.reduceToNat, Int.reduceEq]) (by simp only [go_sem, reduceCtorEq, reduceIte, Nat.reduceEqDiff, Nat.reduceAdd, Nat.reduceLeDiff, Nat.reduceMul, Int.reduceLT, Int.reduceLE, Int.reduceAdd, Int.reduceSub, Int.reduceMul, Int.reduceNeg, Int.reduceToNat, Int.reduceEq]) (by simp only [go_sem, reduceCtorEq, reduceIte, Nat.reduceEqDiff, Nat.reduceAdd, Nat.reduceLeDiff, Nat.reduceMul, Int.reduceLT, Int.reduceLE, Int.reduceAdd, Int.reduceSub, Int.reduceMul, Int.reduceNeg, Int.reduceToNat, Int.reduceEq]) (by simp only [go_sem, reduceCtorEq, reduceIte, Nat.reduceEqDiff, Nat.reduceAdd, Nat.reduceLeDiff, Nat.reduceMul, Int.reduceLT, Int.reduceLE, Int.reduceAdd, Int.reduceSub, Int.reduceMul, Int.reduceNeg, Int.reduceToNat, Int.reduceEq]) (by simp only [go_sem, reduceCtorEq, reduceIte, Nat.reduceEqDiff, Nat.reduceAdd, Nat.reduceLeDiff, Nat.reduceMul, Int.reduceLT, Int.reduceLE, Int.reduceAdd, Int.reduceSub, Int.reduceMul, Int.reduceNeg, Int.reduceToNat, Int.reduceEq]) (by simp only [go_sem, reduceCtorEq, reduceIte, Nat.reduceEqDiff, Nat.reduceAdd, Nat.reduceLeDiff, Nat.reduceMul, Int.reduceLT, Int.reduceLE, Int.reduceAdd, Int.reduceSub, Int.reduceMul, Int.reduceNeg, Int.reduceToNat, Int.reduceEq]) (by simp only [go_sem, reduceCtorEq, reduceIte, Nat.reduceEqDiff, Nat.reduceAdd, Nat.reduceLeDiff, Nat.reduceMul, Int.reduceLT, Int.reduceLE, Int.reduceAdd, Int.reduceSub, Int.reduceMul, Int.reduceNeg, Int.reduceToNat, Int.reduceEq]) (by simp only [go_sem, reduceCtorEq, reduceIte, Nat.reduceEqDiff, Nat.reduceAdd, Nat.reduceLeDiff, Nat.reduceMul, Int.reduceLT, Int.reduceLE, Int.reduceAdd, Int.reduceSub, Int.reduceMul, Int.reduceNeg, Int.reduceToNat, Int.reduceEq]) (by simp only [go_sem, reduceCtorEq, reduceIte, Nat.reduceEqDiff, Nat.reduceAdd, Nat.reduceLeDiff, Nat.reduceMul, Int.reduceLT, Int.reduceLE, Int.reduceAdd, Int.reduceSub, Int.reduceMul, Int.reduceNeg, Int.reduceToNat, Int.reduceEq]) (by simp only [go_sem, reduceCtorEq, reduceIte, Nat.reduceEqDiff, Nat.reduceAdd, Nat.reduceLeDiff, Nat.reduceMul, Int.reduceLT, Int.reduceLE, Int.reduceAdd, Int.reduceSub, Int.reduceMul, Int.reduceNeg, Int.reduceToNat, Int.reduceEq]), by simp only [go_sem, reduceCtorEq, reduceIte, Nat.reduceEqDiff, Nat.reduceAdd, Nat.reduceLeDiff, Nat.reduceMul, Int.reduceLT, Int.reduceLE, Int.reduceAdd, Int.reduceSub, Int.reduceMul, Int.reduceNeg, Int.reduceToNat, Int.reduceEq, h19], 0, by omega, by simp only [go_sem, reduceCtorEq, reduceIte, Nat.reduceEqDiff, Nat.reduceAdd, Nat.reduceLeDiff, Nat.reduceMul, Int.reduceLT, Int.reduceLE, Int.reduceAdd, Int.reduceSub, Int.reduceMul, Int.reduceNeg, Int.reduceToNat, Int.reduceEq] <;> rfl⟩
    clear b9 b10 b12 b13 h17 h18 h19
    clear s
    rintro mt σ F11 M13 ⟨s, h19, nt, hnt, h20⟩
    obtain rfl := s.f
    have h17 := s.h17
    have h18 := s.h18
    by_cases htl : (nt : Int) < lw.length
    rotate_left
    · simp only [go_sem, reduceCtorEq, reduceIte, Nat.reduceEqDiff, Nat.reduceAdd, Nat.reduceLeDiff, Nat.reduceMul, Int.reduceLT, Int.reduceLE, Int.reduceAdd, Int.reduceSub, Int.reduceMul, Int.reduceNeg, Int.reduceToNat, Int.reduceEq, s.h1, s.h2, s.h5, s.h7, s.h8, s.h9, s.h10, s.h11, s.h12, s.h13, h17, h18, h19, h20, htl, ens]
      exact ⟨ms - 1, by omega, s.ext (by simp only [go_sem, reduceCtorEq, reduceIte, Nat.reduceEqDiff, Nat.reduceAdd, Nat.reduceLeDiff, Nat.reduceMul, Int.reduceLT, Int.reduceLE, Int.reduceAdd, Int.reduceSub, Int.reduceMul, Int.reduceNeg, Int.reduceToNat, Int.reduceEq]) (by simp only [go_sem, reduceCtorEq, reduceIte, Nat.reduceEqDiff, Nat.reduceAdd, Nat.reduceLeDiff, Nat.reduceMul, Int.reduceLT, Int.reduceLE, Int.reduceAdd, Int.reduceSub, Int.reduceMul, Int.reduceNeg, Int.reduceToNat, Int.reduceEq]) (by simp only [go_sem, reduceCtorEq, reduceIte, Nat.reduceEqDiff, Nat.reduceAdd, Nat.reduceLeDiff, Nat.reduceMul, Int.reduceLT, Int.reduceLE, Int.reduceAdd, Int.reduceSub, Int.reduceMul, Int.reduceNeg, Int.reduceToNat, Int.reduceEq]) (by simp only [go_sem, reduceCtorEq, reduceIte, Nat.reduceEqDiff, Nat.reduceAdd, Nat.reduceLeDiff, Nat.reduceMul, Int.reduceLT, Int.reduceLE, Int.reduceAdd, Int.reduceSub, Int.reduceMul, Int.reduceNeg, Int.reduceToNat, Int.reduceEq]) (by simp only [go_sem, reduceCtorEq, reduceIte, Nat.reduceEqDiff, Nat.reduceAdd, Nat.reduceLeDiff, Nat.reduceMul, Int.reduceLT, Int.reduceLE, Int.reduceAdd, Int.reduceSub, Int.reduceMul, Int.reduceNeg, Int.reduceToNat, Int.reduceEq]) (by simp only [go_sem, reduceCtorEq, reduceIte, Nat.reduceEqDiff, Nat.reduceAdd, Nat.reduceLeDiff, Nat.reduceMul, Int.reduceLT, Int.reduceLE, Int.reduceAdd, Int.reduceSub, Int.reduceMul, Int.reduceNeg, Int.reduceToNat, Int.reduceEq]) (by simp only [go_sem, reduceCtorEq, reduceIte, Nat.reduceEqDiff, Nat.reduceAdd, Nat.reduceLeDiff, Nat.reduceMul, Int.reduceLT, Int.reduceLE, Int.reduceAdd, Int.reduceSub, Int.reduceMul, Int.reduceNeg, Int.reduceToNat, Int.reduceEq]) (by simp only [go_sem, reduceCtorEq, reduceIte, Nat.reduceEqDiff, Nat.reduceAdd, Nat.reduceLeDiff, Nat.reduceMul, Int.reduceLT, Int.reduceLE, Int.reduceAdd, Int.reduceSub, Int.reduceMul, Int.reduceNeg, Int.reduceToNat, Int.reduceEq]) (by simp only [go_sem, reduceCtorEq, reduceIte, Nat.reduceEqDiff, Nat.reduceAdd, Nat.reduceLeDiff, Nat.reduceMul, Int.reduceLT, Int.reduceLE, Int.reduceAdd, Int.reduceSub, Int.reduceMul, Int.reduceNeg, Int.reduceToNat, Int.reduceEq]) (by simp only [go_sem, reduceCtorEq, reduceIte, Nat.reduceEqDiff, Nat.reduceAdd, Nat.reduceLeDiff, Nat.reduceMul, Int.reduceLT, Int.reduceLE, Int.reduceAdd, Int.reduceSub, Int.reduceMul, Int.reduceNeg, Int.reduceToNat, Int.reduceEq]) (by simp only [go_sem, reduceCtorEq, reduceIte, Nat.reduceEqDiff, Nat.reduceAdd, Nat.reduceLeDiff, Nat.reduceMul, Int.reduceLT, Int.reduceLE, Int.reduceAdd, Int.reduceSub, Int.reduceMul, Int.reduceNeg, Int.reduceToNat, Int.reduceEq]) (by simp only [go_sem, reduceCtorEq, reduceIte, Nat.reduceEqDiff, Nat.reduceAdd, Nat.reduceLeDiff, Nat.reduceMul, Int.reduceLT, Int.reduceLE, Int.reduceAdd, Int.reduceSub, Int.reduceMul, Int.reduceNeg, Int.reduceToNat, Int.reduceEq]) (by simp only [go_sem, reduceCtorEq, reduceIte, Nat.reduceEqDiff, Nat.reduceAdd, Nat.reduceLeDiff, Nat.reduceMul, Int.reduceLT, Int.reduceLE, Int.reduceAdd, Int.reduceSub, Int.reduceMul, Int.reduceNeg, Int.reduceToNat, Int.reduceEq]), ns + 1, by omega, by simp only [go_sem, reduceCtorEq, reduceIte, Nat.reduceEqDiff, Nat.reduceAdd, Nat.reduceLeDiff, Nat.reduceMul, Int.reduceLT, Int.reduceLE, Int.reduceAdd, Int.reduceSub, Int.reduceMul, Int.reduceNeg, Int.reduceToNat, Int.reduceEq]; rfl⟩
    have ent : IntKind.i64.wrap ((nt : Int) + 1) = nt + 1 := w64 (by omega) (by omega)
    have b12 := blk_M (F := F11) s.f12
    have b13 := blk_M (F := F11) s.f13
    have hns0 : (0 : Int) ≤ ns := by omega
    have hnt0 : (0 : Int) ≤ nt := by omega
    have hns' : ns < lu.length := by omega
    have hnt' : nt < lw.length := by omega
    obtain ⟨_, _, _, eu, hru⟩ := s.ru
    cases eu
    obtain ⟨_, _, _, ew, hrw⟩ := s.rv
    cases ew
    rcases hru with h | ⟨gu, ou, cu, rfl, bu, hcu⟩
    · rw [h] at hns'; simp at hns'
    rcases hrw with h | ⟨gw, ow, cw, rfl, bw, hcw⟩
    · rw [h] at hnt'; simp at hnt'
    have d1 := hcu ns hns'
    have d2 := hcw nt hnt'
    obtain ⟨u1, u2, u3⟩ := hmu lu[ns] (List.getElem_mem _)
    obtain ⟨v1, v2, v3⟩ := hmw lw[nt] (List.getElem_mem _)
    simp only [intV] at d1 d2
    generalize lu[ns] = pu at *
    generalize lw[nt] = pv at *
    simp only [go_sem, reduceCtorEq, reduceIte, Nat.reduceEqDiff, Nat.reduceAdd, Nat.reduceLeDiff, Nat.reduceMul, Int.reduceLT, Int.reduceLE, Int.reduceAdd, Int.reduceSub, Int.reduceMul, Int.reduceNeg, Int.reduceToNat, Int.reduceEq, s.h1, s.h2, s.h5, s.h7, s.h8, s.h9, s.h10, s.h11, s.h12, s.h13, h17, h18, h19, h20, htl, hnl, hns0, hnt0, Int.toNat_natCast, Nat.mul_one, bu, bw, d1, d2, b12, b13]
    refine callK_same (k44q _ _ op k pu pv hop u1 (by rw [← wa]; exact u2) v1 (by rw [← wb]; exact v2)) ?_
    have kp1 := p.keep pu pv u1 u2 u3 v1 v2 v3
    have nxt : ∀ σ', Ax.look σ' 1 = Ax.look σ 1 → Ax.look σ' 2 = Ax.look σ 2 → Ax.look σ' 5 = Ax.look σ 5 → Ax.look σ' 6 = Ax.look σ 6 → Ax.look σ' 7 = Ax.look σ 7 → Ax.look σ' 8 = Ax.look σ 8 → Ax.look σ' 9 = Ax.look σ 9 → Ax.look σ' 10 = Ax.look σ 10 → Ax.look σ' 11 = Ax.look σ 11 → Ax.look σ' 12 = Ax.look σ 12 → Ax.look σ' 13 = Ax.look σ 13 → Ax.look σ' 17 = Ax.look σ 17 → Ax.look σ' 18 = Ax.look σ 18 → Ax.look σ' 19 = Ax.look σ 19 → Ax.look σ' 20 = some (.int .i64 (nt + 1)) →
        ∃ m, m < mt ∧ wI F11 M r2 [.slice aV lv.length cV, .slice aN ln.length cN] op k sl L i j r9 r10 r12 r13 a b x y yes (.slice (some ⟨gu, ou, none⟩) lu.length capu) (.slice (some ⟨gw, ow, none⟩) lw.length capv) lu lw ns m σ' F11 M13 :=
      fun σ' e1 e2 e5 e6 e7 e8 e9 e10 e11 e12 e13 e17 e18 e19 e20 => ⟨mt - 1, by omega, s.ext e1 e2 e5 e6 e7 e8 e9 e10 e11 e12 e13 e17 e18, e19.trans h19, nt + 1, by omega, e20⟩
    by_cases hq : askV op k pu pv = yes
    · obtain ⟨kx, ky⟩ := kp1 hq
      cases hy : yes
      · rw [hy] at hq
        have h11 := s.h11
        rw [hy] at h11
        have z1 : ¬ (0 : Int) = 1 := by decide
        simp only [hq, Bool.false_eq_true, if_false, go_sem, reduceCtorEq, reduceIte, Nat.reduceEqDiff, Nat.reduceAdd, Nat.reduceLeDiff, Nat.reduceMul, Int.reduceLT, Int.reduceLE, Int.reduceAdd, Int.reduceSub, Int.reduceMul, Int.reduceNeg, Int.reduceToNat, Int.reduceEq, s.h1, s.h2, s.h5, s.h7, s.h8, s.h9, s.h10, s.h11, s.h12, s.h13, h17, h18, h11, z1, h19, h20, htl, hns0, hnt0, hnl, Int.toNat_natCast, Nat.mul_one, bu, bw, d1, d2, b12, b13, Bool.true_beq, Bool.false_beq, hy]
        refine callK_same (k40 _ _ x pu) ?_
        simp only [go_sem, reduceCtorEq, reduceIte, Nat.reduceEqDiff, Nat.reduceAdd, Nat.reduceLeDiff, Nat.reduceMul, Int.reduceLT, Int.reduceLE, Int.reduceAdd, Int.reduceSub, Int.reduceMul, Int.reduceNeg, Int.reduceToNat, Int.reduceEq, s.h1, s.h2, s.h5, s.h7, s.h8, s.h9, s.h10, s.h11, s.h12, s.h13, h17, h18, h11, h19, h20, htl, hns0, hnt0, hnl, Int.toNat_natCast, Nat.mul_one, bu, bw, d1, d2, b12, b13, kx]
        refine callK_same (k40 _ _ y pv) ?_
        simp only [go_sem, reduceCtorEq, reduceIte, Nat.reduceEqDiff, Nat.reduceAdd, Nat.reduceLeDiff, Nat.reduceMul, Int.reduceLT, Int.reduceLE, Int.reduceAdd, Int.reduceSub, Int.reduceMul, Int.reduceNeg, Int.reduceToNat, Int.reduceEq, s.h1, s.h2, s.h5, s.h7, s.h8, s.h9, s.h10, s.h11, s.h12, s.h13, h17, h18, h11, h19, h20, htl, hns0, hnt0, hnl, Int.toNat_natCast, Nat.mul_one, bu, bw, d1, d2, b12, b13, ky, ent]
        rw [hy] at nxt
        exact nxt _ (by simp only [go_sem, reduceCtorEq, reduceIte, Nat.reduceEqDiff, Nat.reduceAdd, Nat.reduceLeDiff, Nat.reduceMul, Int.reduceLT, Int.reduceLE, Int.reduceAdd, Int.reduceSub, Int.reduceMul, Int.reduceNeg, Int.reduceToNat, Int.reduceEq]) (by simp only [go_sem, reduceCtorEq, reduceIte, Nat.reduceEqDiff, Nat.reduceAdd, Nat.reduceLeDiff, Nat.reduceMul, Int.reduceLT, Int.reduceLE, Int.reduceAdd, Int.reduceSub, Int.reduceMul, Int.reduceNeg, Int.reduceToNat, Int.reduceEq]) (by simp only [go_sem, reduceCtorEq, reduceIte, Nat.reduceEqDiff, Nat.reduceAdd, Nat.reduceLeDiff, Nat.reduceMul, Int.reduceLT, Int.reduceLE, Int.reduceAdd, Int.reduceSub, Int.reduceMul, Int.reduceNeg, Int.reduceToNat, Int.reduceEq]) (by simp only [go_sem, reduceCtorEq, reduceIte, Nat.reduceEqDiff, Nat.reduceAdd, Nat.reduceLeDiff, Nat.reduceMul, Int.reduceLT, Int.reduceLE, Int.reduceAdd, Int.reduceSub, Int.reduceMul, Int.reduceNeg, Int.reduceToNat, Int.reduceEq]) (by simp only [go_sem, reduceCtorEq, reduceIte, Nat.reduceEqDiff, Nat.reduceAdd, Nat.reduceLeDiff, Nat.reduceMul, Int.reduceLT, Int.reduceLE, Int.reduceAdd, Int.reduceSub, Int.reduceMul, Int.reduceNeg, Int.reduceToNat, Int.reduceEq]) (by simp only [go_sem, reduceCtorEq, reduceIte, Nat.reduceEqDiff, Nat.reduceAdd, Nat.reduceLeDiff, Nat.reduceMul, Int.reduceLT, Int.reduceLE, Int.reduceAdd, Int.reduceSub, Int.reduceMul, Int.reduceNeg, Int.reduceToNat, Int.reduceEq]) (by simp only [go_sem, reduceCtorEq, reduceIte, Nat.reduceEqDiff, Nat.reduceAdd, Nat.reduceLeDiff, Nat.reduceMul, Int.reduceLT, Int.reduceLE, Int.reduceAdd, Int.reduceSub, Int.reduceMul, Int.reduceNeg, Int.reduceToNat, Int.reduceEq]) (by simp only [go_sem, reduceCtorEq, reduceIte, Nat.reduceEqDiff, Nat.reduceAdd, Nat.reduceLeDiff, Nat.reduceMul, Int.reduceLT, Int.reduceLE, Int.reduceAdd, Int.reduceSub, Int.reduceMul, Int.reduceNeg, Int.reduceToNat, Int.reduceEq]) (by simp only [go_sem, reduceCtorEq, reduceIte, Nat.reduceEqDiff, Nat.reduceAdd, Nat.reduceLeDiff, Nat.reduceMul, Int.reduceLT, Int.reduceLE, Int.reduceAdd, Int.reduceSub, Int.reduceMul, Int.reduceNeg, Int.reduceToNat, Int.reduceEq]) (by simp only [go_sem, reduceCtorEq, reduceIte, Nat.reduceEqDiff, Nat.reduceAdd, Nat.reduceLeDiff, Nat.reduceMul, Int.reduceLT, Int.reduceLE, Int.reduceAdd, Int.reduceSub, Int.reduceMul, Int.reduceNeg, Int.reduceToNat, Int.reduceEq]) (by simp only [go_sem, reduceCtorEq, reduceIte, Nat.reduceEqDiff, Nat.reduceAdd, Nat.reduceLeDiff, Nat.reduceMul, Int.reduceLT, Int.reduceLE, Int.reduceAdd, Int.reduceSub, Int.reduceMul, Int.reduceNeg, Int.reduceToNat, Int.reduceEq]) (by simp only [go_sem, reduceCtorEq, reduceIte, Nat.reduceEqDiff, Nat.reduceAdd, Nat.reduceLeDiff, Nat.reduceMul, Int.reduceLT, Int.reduceLE, Int.reduceAdd, Int.reduceSub, Int.reduceMul, Int.reduceNeg, Int.reduceToNat, Int.reduceEq]) (by simp only [go_sem, reduceCtorEq, reduceIte, Nat.reduceEqDiff, Nat.reduceAdd, Nat.reduceLeDiff, Nat.reduceMul, Int.reduceLT, Int.reduceLE, Int.reduceAdd, Int.reduceSub, Int.reduceMul, Int.reduceNeg, Int.reduceToNat, Int.reduceEq]) (by simp only [go_sem, reduceCtorEq, reduceIte, Nat.reduceEqDiff, Nat.reduceAdd, Nat.reduceLeDiff, Nat.reduceMul, Int.reduceLT, Int.reduceLE, Int.reduceAdd, Int.reduceSub, Int.reduceMul, Int.reduceNeg, Int.reduceToNat, Int.reduceEq]) (by simp only [go_sem, reduceCtorEq, reduceIte, Nat.reduceEqDiff, Nat.reduceAdd, Nat.reduceLeDiff, Nat.reduceMul, Int.reduceLT, Int.reduceLE, Int.reduceAdd, Int.reduceSub, Int.reduceMul, Int.reduceNeg, Int.reduceToNat, Int.reduceEq])
      · rw [hy] at hq
        have h11 := s.h11
        rw [hy] at h11
        simp only [hq, if_true, go_sem, reduceCtorEq, reduceIte, Nat.reduceEqDiff, Nat.reduceAdd, Nat.reduceLeDiff, Nat.reduceMul, Int.reduceLT, Int.reduceLE, Int.reduceAdd, Int.reduceSub, Int.reduceMul, Int.reduceNeg, Int.reduceToNat, Int.reduceEq, s.h1, s.h2, s.h5, s.h7, s.h8, s.h9, s.h10, s.h11, s.h12, s.h13, h17, h18, h11, h19, h20, htl, hns0, hnt0, hnl, Int.toNat_natCast, Nat.mul_one, bu, bw, d1, d2, b12, b13, Bool.true_beq, Bool.false_beq, hy]
        refine callK_same (k40 _ _ x pu) ?_
        simp only [go_sem, reduceCtorEq, reduceIte, Nat.reduceEqDiff, Nat.reduceAdd, Nat.reduceLeDiff, Nat.reduceMul, Int.reduceLT, Int.reduceLE, Int.reduceAdd, Int.reduceSub, Int.reduceMul, Int.reduceNeg, Int.reduceToNat, Int.reduceEq, s.h1, s.h2, s.h5, s.h7, s.h8, s.h9, s.h10, s.h11, s.h12, s.h13, h17, h18, h11, h19, h20, htl, hns0, hnt0, hnl, Int.toNat_natCast, Nat.mul_one, bu, bw, d1, d2, b12, b13, kx]
        refine callK_same (k40 _ _ y pv) ?_
        simp only [go_sem, reduceCtorEq, reduceIte, Nat.reduceEqDiff, Nat.reduceAdd, Nat.reduceLeDiff, Nat.reduceMul, Int.reduceLT, Int.reduceLE, Int.reduceAdd, Int.reduceSub, Int.reduceMul, Int.reduceNeg, Int.reduceToNat, Int.reduceEq, s.h1, s.h2, s.h5, s.h7, s.h8, s.h9, s.h10, s.h11, s.h12, s.h13, h17, h18, h11, h19, h20, htl, hns0, hnt0, hnl, Int.toNat_natCast, Nat.mul_one, bu, bw, d1, d2, b12, b13, ky, ent]
        rw [hy] at nxt
        exact nxt _ (by simp only [go_sem, reduceCtorEq, reduceIte, Nat.reduceEqDiff, Nat.reduceAdd, Nat.reduceLeDiff, Nat.reduceMul, Int.reduceLT, Int.reduceLE, Int.reduceAdd, Int.reduceSub, Int.reduceMul, Int.reduceNeg, Int.reduceToNat, Int.reduceEq]) (by simp only [go_sem, reduceCtorEq, reduceIte, Nat.reduceEqDiff, Nat.reduceAdd, Nat.reduceLeDiff, Nat.reduceMul, Int.reduceLT, Int.reduceLE, Int.reduceAdd, Int.reduceSub, Int.reduceMul, Int.reduceNeg, Int.reduceToNat, Int.reduceEq]) (by simp only [go_sem, reduceCtorEq, reduceIte, Nat.reduceEqDiff, Nat.reduceAdd, Nat.reduceLeDiff, Nat.reduceMul, Int.reduceLT, Int.reduceLE, Int.reduceAdd, Int.reduceSub, Int.reduceMul, Int.reduceNeg, Int.reduceToNat, Int.reduceEq]) (by simp only [go_sem, reduceCtorEq, reduceIte, Nat.reduceEqDiff, Nat.reduceAdd, Nat.reduceLeDiff, Nat.reduceMul, Int.reduceLT, Int.reduceLE, Int.reduceAdd, Int.reduceSub, Int.reduceMul, Int.reduceNeg, Int.reduceToNat, Int.reduceEq]) (by simp only [go_sem, reduceCtorEq, reduceIte, Nat.reduceEqDiff, Nat.reduceAdd, Nat.reduceLeDiff, Nat.reduceMul, Int.reduceLT, Int.reduceLE, Int.reduceAdd, Int.reduceSub, Int.reduceMul, Int.reduceNeg, Int.reduceToNat, Int.reduceEq]) (by simp only [go_sem, reduceCtorEq, reduceIte, Nat.reduceEqDiff, Nat.reduceAdd, Nat.reduceLeDiff, Nat.reduceMul, Int.reduceLT, Int.reduceLE, Int.reduceAdd, Int.reduceSub, Int.reduceMul, Int.reduceNeg, Int.reduceToNat, Int.reduceEq]) (by simp only [go_sem, reduceCtorEq, reduceIte, Nat.reduceEqDiff, Nat.reduceAdd, Nat.reduceLeDiff, Nat.reduceMul, Int.reduceLT, Int.reduceLE, Int.reduceAdd, Int.reduceSub, Int.reduceMul, Int.reduceNeg, Int.reduceToNat, Int.reduceEq]) (by simp only [go_sem, reduceCtorEq, reduceIte, Nat.reduceEqDiff, Nat.reduceAdd, Nat.reduceLeDiff, Nat.reduceMul, Int.reduceLT, Int.reduceLE, Int.reduceAdd, Int.reduceSub, Int.reduceMul, Int.reduceNeg, Int.reduceToNat, Int.reduceEq]) (by simp only [go_sem, reduceCtorEq, reduceIte, Nat.reduceEqDiff, Nat.reduceAdd, Nat.reduceLeDiff, Nat.reduceMul, Int.reduceLT, Int.reduceLE, Int.reduceAdd, Int.reduceSub, Int.reduceMul, Int.reduceNeg, Int.reduceToNat, Int.reduceEq]) (by simp only [go_sem, reduceCtorEq, reduceIte, Nat.reduceEqDiff, Nat.reduceAdd, Nat.reduceLeDiff, Nat.reduceMul, Int.reduceLT, Int.reduceLE, Int.reduceAdd, Int.reduceSub, Int.reduceMul, Int.reduceNeg, Int.reduceToNat, Int.reduceEq]) (by simp only [go_sem, reduceCtorEq, reduceIte, Nat.reduceEqDiff, Nat.reduceAdd, Nat.reduceLeDiff, Nat.reduceMul, Int.reduceLT, Int.reduceLE, Int.reduceAdd, Int.reduceSub, Int.reduceMul, Int.reduceNeg, Int.reduceToNat, Int.reduceEq]) (by simp only [go_sem, reduceCtorEq, reduceIte, Nat.reduceEqDiff, Nat.reduceAdd, Nat.reduceLeDiff, Nat.reduceMul, Int.reduceLT, Int.reduceLE, Int.reduceAdd, Int.reduceSub, Int.reduceMul, Int.reduceNeg, Int.reduceToNat, Int.reduceEq]) (by simp only [go_sem, reduceCtorEq, reduceIte, Nat.reduceEqDiff, Nat.reduceAdd, Nat.reduceLeDiff, Nat.reduceMul, Int.reduceLT, Int.reduceLE, Int.reduceAdd, Int.reduceSub, Int.reduceMul, Int.reduceNeg, Int.reduceToNat, Int.reduceEq]) (by simp only [go_sem, reduceCtorEq, reduceIte, Nat.reduceEqDiff, Nat.reduceAdd, Nat.reduceLeDiff, Nat.reduceMul, Int.reduceLT, Int.reduceLE, Int.reduceAdd, Int.reduceSub, Int.reduceMul, Int.reduceNeg, Int.reduceToNat, Int.reduceEq]) (by simp only [go_sem, reduceCtorEq, reduceIte, Nat.reduceEqDiff, Nat.reduceAdd, Nat.reduceLeDiff, Nat.reduceMul, Int.reduceLT, Int.reduceLE, Int.reduceAdd, Int.reduceSub, Int.reduceMul, Int.reduceNeg, Int.reduceToNat, Int.reduceEq])
    · cases hy : yes
      · have hq' : askV op k pu pv = true := by
          cases h : askV op k pu pv
          · rw [h, hy] at hq; exact absurd rfl hq
          · rfl
        have h11 := s.h11
        rw [hy] at h11
        simp only [hq', if_true, go_sem, reduceCtorEq, reduceIte, Nat.reduceEqDiff, Nat.reduceAdd, Nat.reduceLeDiff, Nat.reduceMul, Int.reduceLT, Int.reduceLE, Int.reduceAdd, Int.reduceSub, Int.reduceMul, Int.reduceNeg, Int.reduceToNat, Int.reduceEq, s.h1, s.h2, s.h5, s.h7, s.h8, s.h9, s.h10, s.h11, s.h12, s.h13, h17, h18, h11, h19, h20, htl, hns0, hnt0, hnl, Int.toNat_natCast, Nat.mul_one, bu, bw, d1, d2, b12, b13, Bool.true_beq, Bool.false_beq, hy, ent]
        rw [hy] at nxt
        exact nxt _ (by simp only [go_sem, reduceCtorEq, reduceIte, Nat.reduceEqDiff, Nat.reduceAdd, Nat.reduceLeDiff, Nat.reduceMul, Int.reduceLT, Int.reduceLE, Int.reduceAdd, Int.reduceSub, Int.reduceMul, Int.reduceNeg, Int.reduceToNat, Int.reduceEq]) (by simp only [go_sem, reduceCtorEq, reduceIte, Nat.reduceEqDiff, Nat.reduceAdd, Nat.reduceLeDiff, Nat.reduceMul, Int.reduceLT, Int.reduceLE, Int.reduceAdd, Int.reduceSub, Int.reduceMul, Int.reduceNeg, Int.reduceToNat, Int.reduceEq]) (by simp only [go_sem, reduceCtorEq, reduceIte, Nat.reduceEqDiff, Nat.reduceAdd, Nat.reduceLeDiff, Nat.reduceMul, Int.reduceLT, Int.reduceLE, Int.reduceAdd, Int.reduceSub, Int.reduceMul, Int.reduceNeg, Int.reduceToNat, Int.reduceEq]) (by simp only [go_sem, reduceCtorEq, reduceIte, Nat.reduceEqDiff, Nat.reduceAdd, Nat.reduceLeDiff, Nat.reduceMul, Int.reduceLT, Int.reduceLE, Int.reduceAdd, Int.reduceSub, Int.reduceMul, Int.reduceNeg, Int.reduceToNat, Int.reduceEq]) (by simp only [go_sem, reduceCtorEq, reduceIte, Nat.reduceEqDiff, Nat.reduceAdd, Nat.reduceLeDiff, Nat.reduceMul, Int.reduceLT, Int.reduceLE, Int.reduceAdd, Int.reduceSub, Int.reduceMul, Int.reduceNeg, Int.reduceToNat, Int.reduceEq]) (by simp only [go_sem, reduceCtorEq, reduceIte, Nat.reduceEqDiff, Nat.reduceAdd, Nat.reduceLeDiff, Nat.reduceMul, Int.reduceLT, Int.reduceLE, Int.reduceAdd, Int.reduceSub, Int.reduceMul, Int.reduceNeg, Int.reduceToNat, Int.reduceEq]) (by simp only [go_sem, reduceCtorEq, reduceIte, Nat.reduceEqDiff, Nat.reduceAdd, Nat.reduceLeDiff, Nat.reduceMul, Int.reduceLT, Int.reduceLE, Int.reduceAdd, Int.reduceSub, Int.reduceMul, Int.reduceNeg, Int.reduceToNat, Int.reduceEq]) (by simp only [go_sem, reduceCtorEq, reduceIte, Nat.reduceEqDiff, Nat.reduceAdd, Nat.reduceLeDiff, Nat.reduceMul, Int.reduceLT, Int.reduceLE, Int.reduceAdd, Int.reduceSub, Int.reduceMul, Int.reduceNeg, Int.reduceToNat, Int.reduceEq]) (by simp only [go_sem, reduceCtorEq, reduceIte, Nat.reduceEqDiff, Nat.reduceAdd, Nat.reduceLeDiff, Nat.reduceMul, Int.reduceLT, Int.reduceLE, Int.reduceAdd, Int.reduceSub, Int.reduceMul, Int.reduceNeg, Int.reduceToNat, Int.reduceEq]) (by simp only [go_sem, reduceCtorEq, reduceIte, Nat.reduceEqDiff, Nat.reduceAdd, Nat.reduceLeDiff, Nat.reduceMul, Int.reduceLT, Int.reduceLE, Int.reduceAdd, Int.reduceSub, Int.reduceMul, Int.reduceNeg, Int.reduceToNat, Int.reduceEq]) (by simp only [go_sem, reduceCtorEq, reduceIte, Nat.reduceEqDiff, Nat.reduceAdd, Nat.reduceLeDiff, Nat.reduceMul, Int.reduceLT, Int.reduceLE, Int.reduceAdd, Int.reduceSub, Int.reduceMul, Int.reduceNeg, Int.reduceToNat, Int.reduceEq]) (by simp only [go_sem, reduceCtorEq, reduceIte, Nat.reduceEqDiff, Nat.reduceAdd, Nat.reduceLeDiff, Nat.reduceMul, Int.reduceLT, Int.reduceLE, Int.reduceAdd, Int.reduceSub, Int.reduceMul, Int.reduceNeg, Int.reduceToNat, Int.reduceEq]) (by simp only [go_sem, reduceCtorEq, reduceIte, Nat.reduceEqDiff, Nat.reduceAdd, Nat.reduceLeDiff, Nat.reduceMul, Int.reduceLT, Int.reduceLE, Int.reduceAdd, Int.reduceSub, Int.reduceMul, Int.reduceNeg, Int.reduceToNat, Int.reduceEq]) (by simp only [go_sem, reduceCtorEq, reduceIte, Nat.reduceEqDiff, Nat.reduceAdd, Nat.reduceLeDiff, Nat.reduceMul, Int.reduceLT, Int.reduceLE, Int.reduceAdd, Int.reduceSub, Int.reduceMul, Int.reduceNeg, Int.reduceToNat, Int.reduceEq]) (by simp only [go_sem, reduceCtorEq, reduceIte, Nat.reduceEqDiff, Nat.reduceAdd, Nat.reduceLeDiff, Nat.reduceMul, Int.reduceLT, Int.reduceLE, Int.reduceAdd, Int.reduceSub, Int.reduceMul, Int.reduceNeg, Int.reduceToNat, Int.reduceEq])
      · have hq' : askV op k pu pv = false := by
          cases h : askV op k pu pv
          · rfl
          · rw [h, hy] at hq; exact absurd rfl hq
        have h11 := s.h11
        rw [hy] at h11
        have z1 : ¬ (0 : Int) = 1 := by decide
        simp only [hq', Bool.false_eq_true, if_false, z1, go_sem, reduceCtorEq, reduceIte, Nat.reduceEqDiff, Nat.reduceAdd, Nat.reduceLeDiff, Nat.reduceMul, Int.reduceLT, Int.reduceLE, Int.reduceAdd, Int.reduceSub, Int.reduceMul, Int.reduceNeg, Int.reduceToNat, Int.reduceEq, s.h1, s.h2, s.h5, s.h7, s.h8, s.h9, s.h10, s.h11, s.h12, s.h13, h17, h18, h11, h19, h20, htl, hns0, hnt0, hnl, Int.toNat_natCast, Nat.mul_one, bu, bw, d1, d2, b12, b13, Bool.true_beq, Bool.false_beq, hy, ent]
        rw [hy] at nxt
        exact nxt _ (by simp only [go_sem, reduceCtorEq, reduceIte, Nat.reduceEqDiff, Nat.reduceAdd, Nat.reduceLeDiff, Nat.reduceMul, Int.reduceLT, Int.reduceLE, Int.reduceAdd, Int.reduceSub, Int.reduceMul, Int.reduceNeg, Int.reduceToNat, Int.reduceEq]) (by simp only [go_sem, reduceCtorEq, reduceIte, Nat.reduceEqDiff, Nat.reduceAdd, Nat.reduceLeDiff, Nat.reduceMul, Int.reduceLT, Int.reduceLE, Int.reduceAdd, Int.reduceSub, Int.reduceMul, Int.reduceNeg, Int.reduceToNat, Int.reduceEq]) (by simp only [go_sem, reduceCtorEq, reduceIte, Nat.reduceEqDiff, Nat.reduceAdd, Nat.reduceLeDiff, Nat.reduceMul, Int.reduceLT, Int.reduceLE, Int.reduceAdd, Int.reduceSub, Int.reduceMul, Int.reduceNeg, Int.reduceToNat, Int.reduceEq]) (by simp only [go_sem, reduceCtorEq, reduceIte, Nat.reduceEqDiff, Nat.reduceAdd, Nat.reduceLeDiff, Nat.reduceMul, Int.reduceLT, Int.reduceLE, Int.reduceAdd, Int.reduceSub, Int.reduceMul, Int.reduceNeg, Int.reduceToNat, Int.reduceEq]) (by simp only [go_sem, reduceCtorEq, reduceIte, Nat.reduceEqDiff, Nat.reduceAdd, Nat.reduceLeDiff, Nat.reduceMul, Int.reduceLT, Int.reduceLE, Int.reduceAdd, Int.reduceSub, Int.reduceMul, Int.reduceNeg, Int.reduceToNat, Int.reduceEq]) (by simp only [go_sem, reduceCtorEq, reduceIte, Nat.reduceEqDiff, Nat.reduceAdd, Nat.reduceLeDiff, Nat.reduceMul, Int.reduceLT, Int.reduceLE, Int.reduceAdd, Int.reduceSub, Int.reduceMul, Int.reduceNeg, Int.reduceToNat, Int.reduceEq]) (by simp only [go_sem, reduceCtorEq, reduceIte, Nat.reduceEqDiff, Nat.reduceAdd, Nat.reduceLeDiff, Nat.reduceMul, Int.reduceLT, Int.reduceLE, Int.reduceAdd, Int.reduceSub, Int.reduceMul, Int.reduceNeg, Int.reduceToNat, Int.reduceEq]) (by simp only [go_sem, reduceCtorEq, reduceIte, Nat.reduceEqDiff, Nat.reduceAdd, Nat.reduceLeDiff, Nat.reduceMul, Int.reduceLT, Int.reduceLE, Int.reduceAdd, Int.reduceSub, Int.reduceMul, Int.reduceNeg, Int.reduceToNat, Int.reduceEq]) (by simp only [go_sem, reduceCtorEq, reduceIte, Nat.reduceEqDiff, Nat.reduceAdd, Nat.reduceLeDiff, Nat.reduceMul, Int.reduceLT, Int.reduceLE, Int.reduceAdd, Int.reduceSub, Int.reduceMul, Int.reduceNeg, Int.reduceToNat, Int.reduceEq]) (by simp only [go_sem, reduceCtorEq, reduceIte, Nat.reduceEqDiff, Nat.reduceAdd, Nat.reduceLeDiff, Nat.reduceMul, Int.reduceLT, Int.reduceLE, Int.reduceAdd, Int.reduceSub, Int.reduceMul, Int.reduceNeg, Int.reduceToNat, Int.reduceEq]) (by simp only [go_sem, reduceCtorEq, reduceIte, Nat.reduceEqDiff, Nat.reduceAdd, Nat.reduceLeDiff, Nat.reduceMul, Int.reduceLT, Int.reduceLE, Int.reduceAdd, Int.reduceSub, Int.reduceMul, Int.reduceNeg, Int.reduceToNat, Int.reduceEq]) (by simp only [go_sem, reduceCtorEq, reduceIte, Nat.reduceEqDiff, Nat.reduceAdd, Nat.reduceLeDiff, Nat.reduceMul, Int.reduceLT, Int.reduceLE, Int.reduceAdd, Int.reduceSub, Int.reduceMul, Int.reduceNeg, Int.reduceToNat, Int.reduceEq]) (by simp only [go_sem, reduceCtorEq, reduceIte, Nat.reduceEqDiff, Nat.reduceAdd, Nat.reduceLeDiff, Nat.reduceMul, Int.reduceLT, Int.reduceLE, Int.reduceAdd, Int.reduceSub, Int.reduceMul, Int.reduceNeg, Int.reduceToNat, Int.reduceEq]) (by simp only [go_sem, reduceCtorEq, reduceIte, Nat.reduceEqDiff, Nat.reduceAdd, Nat.reduceLeDiff, Nat.reduceMul, Int.reduceLT, Int.reduceLE, Int.reduceAdd, Int.reduceSub, Int.reduceMul, Int.reduceNeg, Int.reduceToNat, Int.reduceEq]) (by simp only [go_sem, reduceCtorEq, reduceIte, Nat.reduceEqDiff, Nat.reduceAdd, Nat.reduceLeDiff, Nat.reduceMul, Int.reduceLT, Int.reduceLE, Int.reduceAdd, Int.reduceSub, Int.reduceMul, Int.reduceNeg, Int.reduceToNat, Int.reduceEq])
  · have back : ∀ σ', Ax.look σ' 1 = Ax.look σ 1 → Ax.look σ' 2 = Ax.look σ 2 → Ax.look σ' 5 = Ax.look σ 5 → Ax.look σ' 6 = Ax.look σ 6 → Ax.look σ' 7 = Ax.look σ 7 → Ax.look σ' 8 = Ax.look σ 8 → tjB F10 M r2 [.slice aV lv.length cV, .slice aN ln.length cN] op k sl L i j σ' F10 M12 :=
      fun σ' e1 e2 e5 e6 e7 e8 => ⟨⟨s.toT0.ext e1 e2, e5.trans s.h5, e6.trans s.h6, s.rd⟩, e7.trans s.h7, e8.trans s.h8⟩
    have lx := isW_le (ok_in p.okx).w
    have ly := isW_le (ok_in p.oky).w
    simp only [go_sem, reduceCtorEq, reduceIte, Nat.reduceEqDiff, Nat.reduceAdd, Nat.reduceLeDiff, Nat.reduceMul, Int.reduceLT, Int.reduceLE, Int.reduceAdd, Int.reduceSub, Int.reduceMul, Int.reduceNeg, Int.reduceToNat, Int.reduceEq, s.h1, s.h2, s.h5, s.h7, s.h8, s.h9, s.h10, s.h11, s.h12, s.h13, h17, h18, h19, hnl, b9, b10, b12, b13]
    refine callK_same (k62 _ _ a ha) ?_
    cases ia : a.is1
    · simp only [onlyA_eq, go_sem, reduceCtorEq, reduceIte, Nat.reduceEqDiff, Nat.reduceAdd, Nat.reduceLeDiff, Nat.reduceMul, Int.reduceLT, Int.reduceLE, Int.reduceAdd, Int.reduceSub, Int.reduceMul, Int.reduceNeg, Int.reduceToNat, Int.reduceEq, s.h1, s.h2, s.h5, s.h7, s.h8, s.h9, s.h10, s.h11, s.h12, s.h13, h17, h18, h19, hnl, b9, b10, b12, b13, ia]
      refine callK_same (k62 _ _ b hb) ?_
      simp only [onlyA_eq, go_sem, reduceCtorEq, reduceIte, Nat.reduceEqDiff, Nat.reduceAdd, Nat.reduceLeDiff, Nat.reduceMul, Int.reduceLT, Int.reduceLE, Int.reduceAdd, Int.reduceSub, Int.reduceMul, Int.reduceNeg, Int.reduceToNat, Int.reduceEq, s.h1, s.h2, s.h5, s.h7, s.h8, s.h9, s.h10, s.h11, s.h12, s.h13, h17, h18, h19, hnl, b9, b10, b12, b13, ia]
      exact back _ (by simp only [go_sem, reduceCtorEq, reduceIte, Nat.reduceEqDiff, Nat.reduceAdd, Nat.reduceLeDiff, Nat.reduceMul, Int.reduceLT, Int.reduceLE, Int.reduceAdd, Int.reduceSub, Int.reduceMul, Int.reduceNeg, Int.reduceToNat, Int.reduceEq]) (by simp only [go_sem, reduceCtorEq, reduceIte, Nat.reduceEqDiff, Nat.reduceAdd, Nat.reduceLeDiff, Nat.reduceMul, Int.reduceLT, Int.reduceLE, Int.reduceAdd, Int.reduceSub, Int.reduceMul, Int.reduceNeg, Int.reduceToNat, Int.reduceEq]) (by simp only [go_sem, reduceCtorEq, reduceIte, Nat.reduceEqDiff, Nat.reduceAdd, Nat.reduceLeDiff, Nat.reduceMul, Int.reduceLT, Int.reduceLE, Int.reduceAdd, Int.reduceSub, Int.reduceMul, Int.reduceNeg, Int.reduceToNat, Int.reduceEq]) (by simp only [go_sem, reduceCtorEq, reduceIte, Nat.reduceEqDiff, Nat.reduceAdd, Nat.reduceLeDiff, Nat.reduceMul, Int.reduceLT, Int.reduceLE, Int.reduceAdd, Int.reduceSub, Int.reduceMul, Int.reduceNeg, Int.reduceToNat, Int.reduceEq]) (by simp only [go_sem, reduceCtorEq, reduceIte, Nat.reduceEqDiff, Nat.reduceAdd, Nat.reduceLeDiff, Nat.reduceMul, Int.reduceLT, Int.reduceLE, Int.reduceAdd, Int.reduceSub, Int.reduceMul, Int.reduceNeg, Int.reduceToNat, Int.reduceEq]) (by simp only [go_sem, reduceCtorEq, reduceIte, Nat.reduceEqDiff, Nat.reduceAdd, Nat.reduceLeDiff, Nat.reduceMul, Int.reduceLT, Int.reduceLE, Int.reduceAdd, Int.reduceSub, Int.reduceMul, Int.reduceNeg, Int.reduceToNat, Int.reduceEq])
    simp only [onlyA_eq, go_sem, reduceCtorEq, reduceIte, Nat.reduceEqDiff, Nat.reduceAdd, Nat.reduceLeDiff, Nat.reduceMul, Int.reduceLT, Int.reduceLE, Int.reduceAdd, Int.reduceSub, Int.reduceMul, Int.reduceNeg, Int.reduceToNat, Int.reduceEq, s.h1, s.h2, s.h5, s.h7, s.h8, s.h9, s.h10, s.h11, s.h12, s.h13, h17, h18, h19, hnl, b9, b10, b12, b13, ia]
    refine callK_same (k62 _ _ b hb) ?_
    cases ib : b.is1
    · simp only [onlyA_eq, go_sem, reduceCtorEq, reduceIte, Nat.reduceEqDiff, Nat.reduceAdd, Nat.reduceLeDiff, Nat.reduceMul, Int.reduceLT, Int.reduceLE, Int.reduceAdd, Int.reduceSub, Int.reduceMul, Int.reduceNeg, Int.reduceToNat, Int.reduceEq, s.h1, s.h2, s.h5, s.h7, s.h8, s.h9, s.h10, s.h11, s.h12, s.h13, h17, h18, h19, hnl, b9, b10, b12, b13, ia, ib]
      exact back _ (by simp only [go_sem, reduceCtorEq, reduceIte, Nat.reduceEqDiff, Nat.reduceAdd, Nat.reduceLeDiff, Nat.reduceMul, Int.reduceLT, Int.reduceLE, Int.reduceAdd, Int.reduceSub, Int.reduceMul, Int.reduceNeg, Int.reduceToNat, Int.reduceEq]) (by simp only [go_sem, reduceCtorEq, reduceIte, Nat.reduceEqDiff, Nat.reduceAdd, Nat.reduceLeDiff, Nat.reduceMul, Int.reduceLT, Int.reduceLE, Int.reduceAdd, Int.reduceSub, Int.reduceMul, Int.reduceNeg, Int.reduceToNat, Int.reduceEq]) (by simp only [go_sem, reduceCtorEq, reduceIte, Nat.reduceEqDiff, Nat.reduceAdd, Nat.reduceLeDiff, Nat.reduceMul, Int.reduceLT, Int.reduceLE, Int.reduceAdd, Int.reduceSub, Int.reduceMul, Int.reduceNeg, Int.reduceToNat, Int.reduceEq]) (by simp only [go_sem, reduceCtorEq, reduceIte, Nat.reduceEqDiff, Nat.reduceAdd, Nat.reduceLeDiff, Nat.reduceMul, Int.reduceLT, Int.reduceLE, Int.reduceAdd, Int.reduceSub, Int.reduceMul, Int.reduceNeg, Int.reduceToNat, Int.reduceEq]) (by simp only [go_sem, reduceCtorEq, reduceIte, Nat.reduceEqDiff, Nat.reduceAdd, Nat.reduceLeDiff, Nat.reduceMul, Int.reduceLT, Int.reduceLE, Int.reduceAdd, Int.reduceSub, Int.reduceMul, Int.reduceNeg, Int.reduceToNat, Int.reduceEq]) (by simp only [go_sem, reduceCtorEq, reduceIte, Nat.reduceEqDiff, Nat.reduceAdd, Nat.reduceLeDiff, Nat.reduceMul, Int.reduceLT, Int.reduceLE, Int.reduceAdd, Int.reduceSub, Int.reduceMul, Int.reduceNeg, Int.reduceToNat, Int.reduceEq])
    obtain ⟨a1, a2, _, _⟩ := is1_mem ha ia
    obtain ⟨c1, c2, _, _⟩ := is1_mem hb ib
    simp only [onlyA_eq, go_sem, reduceCtorEq, reduceIte, Nat.reduceEqDiff, Nat.reduceAdd, Nat.reduceLeDiff, Nat.reduceMul, Int.reduceLT, Int.reduceLE, Int.reduceAdd, Int.reduceSub, Int.reduceMul, Int.reduceNeg, Int.reduceToNat, Int.reduceEq, s.h1, s.h2, s.h5, s.h7, s.h8, s.h9, s.h10, s.h11, s.h12, s.h13, h17, h18, h19, hnl, b9, b10, b12, b13, ia, ib]
    refine callK_same (k44q _ _ op k (a.nextR 0) (b.nextR 0) hop a1 (by rw [← wa]; exact a2) c1 (by rw [← wb]; exact c2)) ?_
    have z1 : ¬ (0 : Int) = 1 := by decide
    by_cases hq : askV op k (a.nextR 0) (b.nextR 0) = yes
    · cases hy : yes
      · rw [hy] at hq
        simp only [hq, Bool.false_eq_true, if_false, z1, go_sem, reduceCtorEq, reduceIte, Nat.reduceEqDiff, Nat.reduceAdd, Nat.reduceLeDiff, Nat.reduceMul, Int.reduceLT, Int.reduceLE, Int.reduceAdd, Int.reduceSub, Int.reduceMul, Int.reduceNeg, Int.reduceToNat, Int.reduceEq, s.h1, s.h2, s.h5, s.h7, s.h8, s.h9, s.h10, s.h11, s.h12, s.h13, h17, h18, h19, b9, b10, b12, b13, Bool.true_beq, Bool.false_beq, hy]
        exact back _ (by simp only [go_sem, reduceCtorEq, reduceIte, Nat.reduceEqDiff, Nat.reduceAdd, Nat.reduceLeDiff, Nat.reduceMul, Int.reduceLT, Int.reduceLE, Int.reduceAdd, Int.reduceSub, Int.reduceMul, Int.reduceNeg, Int.reduceToNat, Int.reduceEq]) (by simp only [go_sem, reduceCtorEq, reduceIte, Nat.reduceEqDiff, Nat.reduceAdd, Nat.reduceLeDiff, Nat.reduceMul, Int.reduceLT, Int.reduceLE, Int.reduceAdd, Int.reduceSub, Int.reduceMul, Int.reduceNeg, Int.reduceToNat, Int.reduceEq]) (by simp only [go_sem, reduceCtorEq, reduceIte, Nat.reduceEqDiff, Nat.reduceAdd, Nat.reduceLeDiff, Nat.reduceMul, Int.reduceLT, Int.reduceLE, Int.reduceAdd, Int.reduceSub, Int.reduceMul, Int.reduceNeg, Int.reduceToNat, Int.reduceEq]) (by simp only [go_sem, reduceCtorEq, reduceIte, Nat.reduceEqDiff, Nat.reduceAdd, Nat.reduceLeDiff, Nat.reduceMul, Int.reduceLT, Int.reduceLE, Int.reduceAdd, Int.reduceSub, Int.reduceMul, Int.reduceNeg, Int.reduceToNat, Int.reduceEq]) (by simp only [go_sem, reduceCtorEq, reduceIte, Nat.reduceEqDiff, Nat.reduceAdd, Nat.reduceLeDiff, Nat.reduceMul, Int.reduceLT, Int.reduceLE, Int.reduceAdd, Int.reduceSub, Int.reduceMul, Int.reduceNeg, Int.reduceToNat, Int.reduceEq]) (by simp only [go_sem, reduceCtorEq, reduceIte, Nat.reduceEqDiff, Nat.reduceAdd, Nat.reduceLeDiff, Nat.reduceMul, Int.reduceLT, Int.reduceLE, Int.reduceAdd, Int.reduceSub, Int.reduceMul, Int.reduceNeg, Int.reduceToNat, Int.reduceEq])
      · rw [hy] at hq
        simp only [hq, if_true, go_sem, reduceCtorEq, reduceIte, Nat.reduceEqDiff, Nat.reduceAdd, Nat.reduceLeDiff, Nat.reduceMul, Int.reduceLT, Int.reduceLE, Int.reduceAdd, Int.reduceSub, Int.reduceMul, Int.reduceNeg, Int.reduceToNat, Int.reduceEq, s.h1, s.h2, s.h5, s.h7, s.h8, s.h9, s.h10, s.h11, s.h12, s.h13, h17, h18, h19, b9, b10, b12, b13, Bool.true_beq, Bool.false_beq, hy]
        exact back _ (by simp only [go_sem, reduceCtorEq, reduceIte, Nat.reduceEqDiff, Nat.reduceAdd, Nat.reduceLeDiff, Nat.reduceMul, Int.reduceLT, Int.reduceLE, Int.reduceAdd, Int.reduceSub, Int.reduceMul, Int.reduceNeg, Int.reduceToNat, Int.reduceEq]) (by simp only [go_sem, reduceCtorEq, reduceIte, Nat.reduceEqDiff, Nat.reduceAdd, Nat.reduceLeDiff, Nat.reduceMul, Int.reduceLT, Int.reduceLE, Int.reduceAdd, Int.reduceSub, Int.reduceMul, Int.reduceNeg, Int.reduceToNat, Int.reduceEq]) (by simp only [go_sem, reduceCtorEq, reduceIte, Nat.reduceEqDiff, Nat.reduceAdd, Nat.reduceLeDiff, Nat.reduceMul, Int.reduceLT, Int.reduceLE, Int.reduceAdd, Int.reduceSub, Int.reduceMul, Int.reduceNeg, Int.reduceToNat, Int.reduceEq]) (by simp only [go_sem, reduceCtorEq, reduceIte, Nat.reduceEqDiff, Nat.reduceAdd, Nat.reduceLeDiff, Nat.reduceMul, Int.reduceLT, Int.reduceLE, Int.reduceAdd, Int.reduceSub, Int.reduceMul, Int.reduceNeg, Int.reduceToNat, Int.reduceEq]) (by simp only [go_sem, reduceCtorEq, reduceIte, Nat.reduceEqDiff, Nat.reduceAdd, Nat.reduceLeDiff, Nat.reduceMul, Int.reduceLT, Int.reduceLE, Int.reduceAdd, Int.reduceSub, Int.reduceMul, Int.reduceNeg, Int.reduceToNat, Int.reduceEq]) (by simp only [go_sem, reduceCtorEq, reduceIte, Nat.reduceEqDiff, Nat.reduceAdd, Nat.reduceLeDiff, Nat.reduceMul, Int.reduceLT, Int.reduceLE, Int.reduceAdd, Int.reduceSub, Int.reduceMul, Int.reduceNeg, Int.reduceToNat, Int.reduceEq])
    · obtain ⟨vx, vy⟩ := p.single ia ib hq
      have vx' : ¬ 0 ≤ x.nextR 0 := by omega
      have vy' : ¬ 0 ≤ y.nextR 0 := by omega
      cases hy : yes
      · have hq' : askV op k (a.nextR 0) (b.nextR 0) = true := by
          cases h : askV op k (a.nextR 0) (b.nextR 0)
          · rw [h, hy] at hq; exact absurd rfl hq
          · rfl
        simp only [hq', if_true, go_sem, reduceCtorEq, reduceIte, Nat.reduceEqDiff, Nat.reduceAdd, Nat.reduceLeDiff, Nat.reduceMul, Int.reduceLT, Int.reduceLE, Int.reduceAdd, Int.reduceSub, Int.reduceMul, Int.reduceNeg, Int.reduceToNat, Int.reduceEq, s.h1, s.h2, s.h5, s.h7, s.h8, s.h9, s.h10, s.h11, s.h12, s.h13, h17, h18, h19, b9, b10, b12, b13, Bool.true_beq, Bool.false_beq, hy]
        refine callK_same (k41 _ _ x 0 lx.1 lx.2) ?_
        simp only [go_sem, reduceCtorEq, reduceIte, Nat.reduceEqDiff, Nat.reduceAdd, Nat.reduceLeDiff, Nat.reduceMul, Int.reduceLT, Int.reduceLE, Int.reduceAdd, Int.reduceSub, Int.reduceMul, Int.reduceNeg, Int.reduceToNat, Int.reduceEq, s.h1, s.h2, s.h5, s.h7, s.h8, s.h9, s.h10, s.h11, s.h12, s.h13, h17, h18, h19, b9, b10, b12, b13, vx']
        refine callK_same (k41 _ _ y 0 ly.1 ly.2) ?_
        simp only [go_sem, reduceCtorEq, reduceIte, Nat.reduceEqDiff, Nat.reduceAdd, Nat.reduceLeDiff, Nat.reduceMul, Int.reduceLT, Int.reduceLE, Int.reduceAdd, Int.reduceSub, Int.reduceMul, Int.reduceNeg, Int.reduceToNat, Int.reduceEq, s.h1, s.h2, s.h5, s.h7, s.h8, s.h9, s.h10, s.h11, s.h12, s.h13, h17, h18, h19, b9, b10, b12, b13, vy']
        exact back _ (by simp only [go_sem, reduceCtorEq, reduceIte, Nat.reduceEqDiff, Nat.reduceAdd, Nat.reduceLeDiff, Nat.reduceMul, Int.reduceLT, Int.reduceLE, Int.reduceAdd, Int.reduceSub, Int.reduceMul, Int.reduceNeg, Int.reduceToNat, Int.reduceEq]) (by simp only [go_sem, reduceCtorEq, reduceIte, Nat.reduceEqDiff, Nat.reduceAdd, Nat.reduceLeDiff, Nat.reduceMul, Int.reduceLT, Int.reduceLE, Int.reduceAdd, Int.reduceSub, Int.reduceMul, Int.reduceNeg, Int.reduceToNat, Int.reduceEq]) (by simp only [go_sem, reduceCtorEq, reduceIte, Nat.reduceEqDiff, Nat.reduceAdd, Nat.reduceLeDiff, Nat.reduceMul, Int.reduceLT, Int.reduceLE, Int.reduceAdd, Int.reduceSub, Int.reduceMul, Int.reduceNeg, Int.reduceToNat, Int.reduceEq]) (by simp only [go_sem, reduceCtorEq, reduceIte, Nat.reduceEqDiff, Nat.reduceAdd, Nat.reduceLeDiff, Nat.reduceMul, Int.reduceLT, Int.reduceLE, Int.reduceAdd, Int.reduceSub, Int.reduceMul, Int.reduceNeg, Int.reduceToNat, Int.reduceEq]) (by simp only [go_sem, reduceCtorEq, reduceIte, Nat.reduceEqDiff, Nat.reduceAdd, Nat.reduceLeDiff, Nat.reduceMul, Int.reduceLT, Int.reduceLE, Int.reduceAdd, Int.reduceSub, Int.reduceMul, Int.reduceNeg, Int.reduceToNat, Int.reduceEq]) (by simp only [go_sem, reduceCtorEq, reduceIte, Nat.reduceEqDiff, Nat.reduceAdd, Nat.reduceLeDiff, Nat.reduceMul, Int.reduceLT, Int.reduceLE, Int.reduceAdd, Int.reduceSub, Int.reduceMul, Int.reduceNeg, Int.reduceToNat, Int.reduceEq])
      · have hq' : askV op k (a.nextR 0) (b.nextR 0) = false := by
          cases h : askV op k (a.nextR 0) (b.nextR 0)
          · rfl
          · rw [h, hy] at hq; exact absurd rfl hq
        simp only [hq', Bool.false_eq_true, if_false, z1, go_sem, reduceCtorEq, reduceIte, Nat.reduceEqDiff, Nat.reduceAdd, Nat.reduceLeDiff, Nat.reduceMul, Int.reduceLT, Int.reduceLE, Int.reduceAdd, Int.reduceSub, Int.reduceMul, Int.reduceNeg, Int.reduceToNat, Int.reduceEq, s.h1, s.h2, s.h5, s.h7, s.h8, s.h9, s.h10, s.h11, s.h12, s.h13, h17, h18, h19, b9, b10, b12, b13, Bool.true_beq, Bool.false_beq, hy]
        refine callK_same (k41 _ _ x 0 lx.1 lx.2) ?_
        simp only [go_sem, reduceCtorEq, reduceIte, Nat.reduceEqDiff, Nat.reduceAdd, Nat.reduceLeDiff, Nat.reduceMul, Int.reduceLT, Int.reduceLE, Int.reduceAdd, Int.reduceSub, Int.reduceMul, Int.reduceNeg, Int.reduceToNat, Int.reduceEq, s.h1, s.h2, s.h5, s.h7, s.h8, s.h9, s.h10, s.h11, s.h12, s.h13, h17, h18, h19, b9, b10, b12, b13, vx']
        refine callK_same (k41 _ _ y 0 ly.1 ly.2) ?_
        simp only [go_sem, reduceCtorEq, reduceIte, Nat.reduceEqDiff, Nat.reduceAdd, Nat.reduceLeDiff, Nat.reduceMul, Int.reduceLT, Int.reduceLE, Int.reduceAdd, Int.reduceSub, Int.reduceMul, Int.reduceNeg, Int.reduceToNat, Int.reduceEq, s.h1, s.h2, s.h5, s.h7, s.h8, s.h9, s.h10, s.h11, s.h12, s.h13, h17, h18, h19, b9, b10, b12, b13, vy']
        exact back _ (by simp only [go_sem, reduceCtorEq, reduceIte, Nat.reduceEqDiff, Nat.reduceAdd, Nat.reduceLeDiff, Nat.reduceMul, Int.reduceLT, Int.reduceLE, Int.reduceAdd, Int.reduceSub, Int.reduceMul, Int.reduceNeg, Int.reduceToNat, Int.reduceEq]) (by simp only [go_sem, reduceCtorEq, reduceIte, Nat.reduceEqDiff, Nat.reduceAdd, Nat.reduceLeDiff, Nat.reduceMul, Int.reduceLT, Int.reduceLE, Int.reduceAdd, Int.reduceSub, Int.reduceMul, Int.reduceNeg, Int.reduceToNat, Int.reduceEq]) (by simp only [go_sem, reduceCtorEq, reduceIte, Nat.reduceEqDiff, Nat.reduceAdd, Nat.reduceLeDiff, Nat.reduceMul, Int.reduceLT, Int.reduceLE, Int.reduceAdd, Int.reduceSub, Int.reduceMul, Int.reduceNeg, Int.reduceToNat, Int.reduceEq]) (by simp only [go_sem, reduceCtorEq, reduceIte, Nat.reduceEqDiff, Nat.reduceAdd, Nat.reduceLeDiff, Nat.reduceMul, Int.reduceLT, Int.reduceLE, Int.reduceAdd, Int.reduceSub, Int.reduceMul, Int.reduceNeg, Int.reduceToNat, Int.reduceEq]) (by simp only [go_sem, reduceCtorEq, reduceIte, Nat.reduceEqDiff, Nat.reduceAdd, Nat.reduceLeDiff, Nat.reduceMul, Int.reduceLT, Int.reduceLE, Int.reduceAdd, Int.reduceSub, Int.reduceMul, Int.reduceNeg, Int.reduceToNat, Int.reduceEq]) (by simp only [go_sem, reduceCtorEq, reduceIte, Nat.reduceEqDiff, Nat.reduceAdd, Nat.reduceLeDiff, Nat.reduceMul, Int.reduceLT, Int.reduceLE, Int.reduceAdd, Int.reduceSub, Int.reduceMul, Int.reduceNeg, Int.reduceToNat, Int.reduceEq])
end Go.Proofs.Try.K
