/- The small codes of functions, by program (gen.py, by this workplace's session), each with the proof that it is the function's own. -/
import Derived.Test.YtmaclakgkllojaaProg
import Derived.Test.YtmaclakgkllojaaA8to11
namespace Go.Proofs.Try.S
open Go Go.Ax Go.Ax.N
set_option maxRecDepth 100000

/-- cellar/cellarlaw5.FilterZero -/
def c8 : SF := ⟨123, [.t 2], (.seq (.ops [k 1 (.bx 27 (t 0)),
 o 2 (.mv (b false))])
 (.seq (.seq (.ops [o 10 (.ld true 2 (t 1)),
 k 11 (.ca (.func 34) [(t 10)])])
 (.cond (t 11)
 (.seq (.ops [o 2 (.mv (b true))])
 .ret)
 .skip))
 (.seq (.seq (.ops [o 3 (.mv (i 0))])
 (.block 0 (.loop (.seq (.seq (.ops [o 12 (.mv (t 3)),
 o 13 (.fa 0 (t 1)),
 o 14 (.ld false 1 (t 13)),
 o 15 (.ln (t 14)),
 o 16 (.bin .lss (t 12) (t 15)),
 o 17 (.mv (t 16)),
 og 18 17 true (.mv (t 3)),
 og 19 17 true (.bin .lss (t 18) (i 12)),
 o 20 (.pick (t 17) (t 19) (b false))])
 (.cond (t 20)
 .skip
 (.exit 0)))
 (.seq (.block 1 (.seq (.ops [o 23 (.fa 0 (t 1)),
 o 24 (.ld false 1 (t 23)),
 o 25 (.mv (t 3)),
 o 26 (.ia 6 (t 24) (t 25)),
 o 27 (.ld true 6 (t 26)),
 k 4 (.al 34 [.int .i64 0, .bool false, .int .i64 0, .int .i64 0, .int .i64 0, .int .i64 0]),
 kn (.st [] 6 (t 4) (t 27))])
 (.seq (.ops [o 5 (.mv (i 0))])
 (.block 2 (.loop (.seq (.seq (.ops [o 28 (.mv (t 5)),
 o 29 (.bin .lss (t 28) (i 2))])
 (.cond (t 29)
 .skip
 (.exit 2)))
 (.seq (.block 3 (.seq (.ops [o 33 (.ld true 6 (t 4)),
 o 34 (.mv (t 5)),
 o 35 (.bin .eql (t 34) (i 0)),
 k 36 (.ca (.func 35) [(t 33), (t 35)]),
 o 32 (.mv (t 36)),
 o 37 (.ex (t 32) 0),
 o 38 (.ex (t 32) 1),
 k 6 (.al 34 [.int .i64 0, .bool false, .int .i64 0, .int .i64 0, .int .i64 0, .int .i64 0]),
 kn (.st [] 6 (t 6) (t 37)),
 o 7 (.mv (t 38))])
 (.seq (.seq (.ops [o 39 (.ld true 6 (t 4)),
 k 40 (.ca (.func 36) [(t 39)]),
 o 41 (.mv (t 7)),
 k 42 (.ca (.func 37) [(t 41)]),
 o 43 (.bin .eql (t 42) (i 0)),
 o 44 (.eqb true (t 40) (t 43))])
 (.cond (t 44)
 (.seq (.ops [o 2 (.mv (b false))])
 .ret)
 .skip))
 (.seq (.seq (.ops [o 45 (.mv (t 7)),
 k 46 (.ca (.func 37) [(t 45)]),
 o 47 (.bin .neq (t 46) (i 0))])
 (.cond (t 47)
 (.seq (.seq (.ops [o 48 (.mv (t 7)),
 k 49 (.ca (.func 37) [(t 48)]),
 o 50 (.bin .neq (t 49) (i 1))])
 (.cond (t 50)
 (.seq (.ops [o 2 (.mv (b false))])
 .ret)
 .skip))
 (.exit 3))
 .skip))
 (.seq (.seq (.ops [o 51 (.ld true 6 (t 6)),
 k 52 (.ca (.func 36) [(t 51)]),
 o 53 (.un .not (t 52)),
 o 54 (.mv (t 53)),
 og 55 54 false (.fa 0 (t 6)),
 og 56 54 false (.ld false 1 (t 55)),
 og 57 54 false (.fa 0 (t 4)),
 og 58 54 false (.ld false 1 (t 57)),
 og 59 54 false (.bin .neq (t 56) (t 58)),
 o 60 (.pick (t 54) (b true) (t 59)),
 o 61 (.mv (t 60)),
 og 62 61 false (.ld true 6 (t 6)),
 og 63 61 false (.ld true 6 (t 4)),
 og 64 61 false (.mv (t 3)),
 ⟨some 65, some (61, false), .ca (.func 38) [(t 62), (t 63), (t 64)]⟩,
 og 66 61 false (.un .not (t 65)),
 o 67 (.pick (t 61) (b true) (t 66))])
 (.cond (t 67)
 (.seq (.ops [o 2 (.mv (b false))])
 .ret)
 .skip))
 (.seq (.ops [o 68 (.ld true 6 (t 4)),
 o 69 (.mv (t 3)),
 k 70 (.ca (.func 39) [(t 68), (i 30), (t 69)]),
 o 8 (.mv (t 70))])
 (.seq (.seq (.ops [o 9 (.mv (i 0))])
 (.block 4 (.loop (.seq (.seq (.ops [o 71 (.mv (t 9)),
 o 72 (.mv (t 8)),
 o 73 (.ln (t 72)),
 o 74 (.bin .lss (t 71) (t 73))])
 (.cond (t 74)
 .skip
 (.exit 4)))
 (.seq (.block 5 (.seq (.opq [o 77 (.mv (t 8)),
 o 78 (.mv (t 9)),
 o 79 (.ia 1 (t 77) (t 78)),
 o 80 (.ld false 1 (t 79)),
 o 81 (.bin .eql (t 80) (i 0)),
 o 82 (.mv (t 5)),
 o 83 (.bin .eql (t 82) (i 0)),
 o 84 (.eqb false (t 81) (t 83)),
 o 85 (.mv (t 84)),
 og 86 85 true (.ld true 6 (t 6)),
 og 87 85 true (.mv (t 8)),
 og 88 85 true (.mv (t 9)),
 og 89 85 true (.ia 1 (t 87) (t 88)),
 og 90 85 true (.ld false 1 (t 89)),
 ⟨some 91, some (85, true), .ca (.func 40) [(t 86), (t 90)]⟩,
 og 92 85 true (.un .not (t 91)),
 o 93 (.pick (t 85) (t 92) (b false))])
 (.cond (t 93)
 (.seq (.ops [o 2 (.mv (b false))])
 .ret)
 .skip)))
 (.ops [o 75 (.mv (t 9)),
 o 76 (.bin .add (t 75) (i 1)),
 o 9 (.mv (t 76))]))))))
 (.seq (.opd [o 94 (.mv (t 5)),
 o 95 (.bin .eql (t 94) (i 0)),
 o 96 (.mv (t 95)),
 og 97 96 true (.ld true 6 (t 6)),
 ⟨some 98, some (96, true), .ca (.func 41) [(t 97), (i 1)]⟩,
 og 99 96 true (.bin .geq (t 98) (i 0)),
 og 100 96 true (.mv (t 99)),
 og 101 100 false (.ld true 6 (t 6)),
 og 103 100 false (.ld true 6 (t 4)),
 ⟨some 102, some (100, false), .ca (.func 40) [(t 101), (i 0)]⟩,
 ⟨some 104, some (100, false), .ca (.func 40) [(t 103), (i 0)]⟩,
 og 105 100 false (.eqb true (t 102) (t 104)),
 og 106 96 true (.pick (t 100) (b true) (t 105)),
 o 107 (.pick (t 96) (t 106) (b false)),
 o 108 (.mv (t 107)),
 og 109 108 false (.mv (t 5)),
 og 110 108 false (.bin .eql (t 109) (i 1)),
 og 111 108 false (.mv (t 110)),
 og 112 111 true (.ld true 6 (t 4)),
 ⟨some 113, some (111, true), .ca (.func 41) [(t 112), (i 1)]⟩,
 og 114 111 true (.bin .lss (t 113) (i 0)),
 og 115 108 false (.pick (t 111) (t 114) (b false)),
 og 116 108 false (.mv (t 115)),
 og 117 116 true (.ld true 6 (t 6)),
 ⟨some 118, some (116, true), .ca (.func 41) [(t 117), (i 0)]⟩,
 og 119 116 true (.bin .geq (t 118) (i 0)),
 og 120 108 false (.pick (t 116) (t 119) (b false)),
 o 121 (.pick (t 108) (b true) (t 120))])
 (.cond (t 121)
 (.seq (.ops [o 2 (.mv (b false))])
 .ret)
 .skip)))))))))
 (.ops [o 30 (.mv (t 5)),
 o 31 (.bin .add (t 30) (i 1)),
 o 5 (.mv (t 31))]))))))))
 (.ops [o 21 (.mv (t 3)),
 o 22 (.bin .add (t 21) (i 1)),
 o 3 (.mv (t 22))]))))))
 (.seq (.ops [k 122 (.ca (.func 42) []),
 o 2 (.mv (t 122))])
 .ret))))⟩
theorem e8 : slimF Try.prog Try.f8 [[(0, []), (1, []), (2, []), (3, []), (4, []), (5, []), (6, []), (7, []), (8, []), (9, []), (10, []), (11, []), (12, []), (13, []), (14, []), (15, []), (16, [])], [(0, []), (1, []), (2, []), (3, []), (4, []), (5, []), (6, []), (7, []), (9, []), (8, []), (10, []), (11, []), (12, []), (13, []), (14, []), (15, []), (16, []), (17, []), (18, []), (19, []), (20, []), (21, []), (22, []), (23, []), (24, []), (25, []), (26, []), (27, [])]] = some c8 := by kernel_rfl
/-- cellar/cellarref0.Num -/
def c22 : SF := ⟨12, [.t 4], (.seq (.ops [o 4 (.mv (b false))])
 (.seq (.ops [o 5 (.mv (t 0)),
 o 6 (.bin .geq (t 5) (i 0)),
 o 7 (.mv (t 6)),
 og 8 7 true (.mv (t 0)),
 og 9 7 true (.mv (t 1)),
 og 10 7 true (.bin .leq (t 8) (t 9)),
 o 11 (.pick (t 7) (t 10) (b false)),
 o 4 (.mv (t 11))])
 .ret))⟩
theorem e22 : slimF Try.prog Try.f22 [] = some c22 := by kernel_rfl
/-- cellar/cellarlaw3.Heavy -/
def c34 : SF := ⟨13, [.t 2], (.seq (.ops [k 1 (.bx 27 (t 0)),
 o 2 (.mv (b false))])
 (.seq (.ops [o 3 (.fa 0 (t 1)),
 o 4 (.ld false 1 (t 3)),
 o 5 (.ln (t 4)),
 o 6 (.bin .gtr (t 5) (i 100)),
 o 7 (.mv (t 6)),
 og 8 7 false (.fa 1 (t 1)),
 og 9 7 false (.ld false 1 (t 8)),
 og 10 7 false (.ln (t 9)),
 og 11 7 false (.bin .gtr (t 10) (i 100)),
 o 12 (.pick (t 7) (b true) (t 11)),
 o 2 (.mv (t 12))])
 .ret))⟩
theorem e34 : slimF Try.prog Try.f34 [] = some c34 := by kernel_rfl
/-- cellar/filter.Zero -/
def c35 : SF := ⟨13, [.c true 6 4, .t 5], (.seq (.ops [k 2 (.bx 34 (t 0)),
 k 4 (.al 34 [.int .i64 0, .bool false, .int .i64 0, .int .i64 0, .int .i64 0, .int .i64 0]),
 o 5 (.mv (i 0))])
 (.seq (.seq (.ops [o 6 (.ld true 6 (t 2)),
 k 7 (.ca (.func 74) [(t 6)]),
 o 8 (.un .not (t 7))])
 (.cond (t 8)
 (.seq (.ops [o 9 (.bd [.int .i64 0, .bool false, .int .i64 0, .int .i64 0, .int .i64 0, .int .i64 0] []),
 kn (.st [] 6 (t 4) (t 9)),
 o 5 (.mv (i 1))])
 .ret)
 .skip))
 (.seq (.ops [o 10 (.ld true 6 (t 2)),
 o 11 (.mv (t 1)),
 k 12 (.ca (.func 75) [(t 10), (t 11)]),
 kn (.st [] 6 (t 4) (t 12)),
 o 5 (.mv (i 0))])
 .ret)))⟩
theorem e35 : slimF Try.prog Try.f35 [] = some c35 := by kernel_rfl
/-- cellar/cellarref1.Val -/
def c36 : SF := ⟨48, [.t 2], (.seq (.ops [k 1 (.bx 34 (t 0)),
 o 2 (.mv (b false))])
 (.seq (.seq (.ops [o 3 (.fa 0 (t 1)),
 o 4 (.ld false 1 (t 3)),
 k 5 (.ca (.func 76) [(t 4)]),
 o 6 (.un .not (t 5))])
 (.cond (t 6)
 (.seq (.ops [o 2 (.mv (b false))])
 .ret)
 .skip))
 (.seq (.seq (.ops [o 7 (.fa 1 (t 1)),
 o 8 (.ld false 1 (t 7))])
 (.cond (t 8)
 (.seq (.ops [o 9 (.ld true 6 (t 1)),
 o 10 (.fa 0 (t 1)),
 o 11 (.ld false 1 (t 10)),
 o 12 (.bd [.int .i64 0, .bool false, .int .i64 0, .int .i64 0, .int .i64 0, .int .i64 0] [(0, 1, (t 11)), (1, 1, (b true))]),
 o 13 (.eqs (.st [(false, 0, 1, .i), (false, 1, 1, .b), (false, 2, 1, .i), (false, 3, 1, .i), (false, 4, 1, .i), (false, 5, 1, .i)]) false (t 9) (t 12)),
 o 2 (.mv (t 13))])
 .ret)
 .skip))
 (.seq (.ops [o 14 (.fa 2 (t 1)),
 o 15 (.ld false 1 (t 14)),
 o 16 (.fa 0 (t 1)),
 o 17 (.ld false 1 (t 16)),
 k 18 (.ca (.func 77) [(t 15), (t 17)]),
 o 19 (.mv (t 18)),
 og 20 19 true (.fa 3 (t 1)),
 og 21 19 true (.ld false 1 (t 20)),
 og 22 19 true (.fa 0 (t 1)),
 og 23 19 true (.ld false 1 (t 22)),
 ⟨some 24, some (19, true), .ca (.func 77) [(t 21), (t 23)]⟩,
 o 25 (.pick (t 19) (t 24) (b false)),
 o 26 (.mv (t 25)),
 og 27 26 true (.fa 4 (t 1)),
 og 28 26 true (.ld false 1 (t 27)),
 og 29 26 true (.fa 0 (t 1)),
 og 30 26 true (.ld false 1 (t 29)),
 ⟨some 31, some (26, true), .ca (.func 77) [(t 28), (t 30)]⟩,
 o 32 (.pick (t 26) (t 31) (b false)),
 o 33 (.mv (t 32)),
 og 34 33 true (.fa 5 (t 1)),
 og 35 33 true (.ld false 1 (t 34)),
 og 36 33 true (.fa 0 (t 1)),
 og 37 33 true (.ld false 1 (t 36)),
 ⟨some 38, some (33, true), .ca (.func 77) [(t 35), (t 37)]⟩,
 o 39 (.pick (t 33) (t 38) (b false)),
 o 40 (.mv (t 39)),
 og 41 40 true (.fa 5 (t 1)),
 og 42 40 true (.ld false 1 (t 41)),
 og 43 40 true (.fa 4 (t 1)),
 og 44 40 true (.ld false 1 (t 43)),
 og 45 40 true (.bin .and (t 42) (t 44)),
 og 46 40 true (.bin .eql (t 45) (i 0)),
 o 47 (.pick (t 40) (t 46) (b false)),
 o 2 (.mv (t 47))])
 .ret))))⟩
theorem e36 : slimF Try.prog Try.f36 [] = some c36 := by kernel_rfl
/-- cellar/cellarlaw5.num -/
def c37 : SF := ⟨4, [.t 2], (.seq (.ops [o 2 (.mv (i 0))])
 (.seq (.ops [o 3 (.mv (t 0)),
 o 2 (.mv (t 3))])
 .ret))⟩
theorem e37 : slimF Try.prog Try.f37 [] = some c37 := by kernel_rfl
/-- cellar/cellarlaw3.Within -/
def c38 : SF := ⟨25, [.t 6], (.seq (.ops [k 3 (.bx 34 (t 0)),
 k 4 (.bx 34 (t 1)),
 o 6 (.mv (b false))])
 (.seq (.ops [o 9 (.ld true 6 (t 3)),
 o 10 (.mv (t 2)),
 k 11 (.ca (.func 39) [(t 9), (i 24), (t 10)]),
 o 7 (.mv (t 11))])
 (.seq (.seq (.ops [o 8 (.mv (i 0))])
 (.block 0 (.loop (.seq (.seq (.ops [o 12 (.mv (t 8)),
 o 13 (.mv (t 7)),
 o 14 (.ln (t 13)),
 o 15 (.bin .lss (t 12) (t 14))])
 (.cond (t 15)
 .skip
 (.exit 0)))
 (.seq (.block 1 (.seq (.opq [o 18 (.ld true 6 (t 4)),
 o 19 (.mv (t 7)),
 o 20 (.mv (t 8)),
 o 21 (.ia 1 (t 19) (t 20)),
 o 22 (.ld false 1 (t 21)),
 k 23 (.ca (.func 40) [(t 18), (t 22)]),
 o 24 (.un .not (t 23))])
 (.cond (t 24)
 (.seq (.ops [o 6 (.mv (b false))])
 .ret)
 .skip)))
 (.ops [o 16 (.mv (t 8)),
 o 17 (.bin .add (t 16) (i 1)),
 o 8 (.mv (t 17))]))))))
 (.seq (.ops [o 6 (.mv (b true))])
 .ret))))⟩
theorem e38 : slimF Try.prog Try.f38 [[(0, []), (1, []), (2, []), (3, []), (4, []), (5, []), (6, [])]] = some c38 := by kernel_rfl
/-- cellar/cellarref1.Some -/
def c39 : SF := ⟨95, [.t 6], (.seq (.ops [k 3 (.bx 34 (t 0)),
 o 6 (.mv (.const (.slice none 0 0)))])
 (.seq (.ops [k 7 (.al 25 [.slice none 0 0])])
 (.seq (.ops [o 12 (.ld true 6 (t 3)),
 k 13 (.ca (.func 78) [(t 12), (t 7)]),
 k 8 (.al 97 [.int .i64 0, .bool false, .int .i64 0, .int .i64 0, .int .i64 0, .int .i64 0, .pointer none]),
 kn (.st [] 7 (t 8) (t 13))])
 (.seq (.seq (.ops [o 14 (.ld true 7 (t 8)),
 k 15 (.ca (.func 79) [(t 14), (i 0)]),
 o 16 (.un .not (t 15))])
 (.cond (t 16)
 (.seq (.ops [o 6 (.mv (.const (.slice none 0 0)))])
 .ret)
 .skip))
 (.seq (.seq (.ops [o 9 (.mv (i 0))])
 (.block 0 (.loop (.seq (.seq (.ops [o 17 (.mv (t 9)),
 o 18 (.mv (t 1)),
 o 19 (.bin .quo (t 18) (i 3)),
 o 20 (.bin .lss (t 17) (t 19))])
 (.cond (t 20)
 .skip
 (.exit 0)))
 (.seq (.block 1 (.seq (.opq [o 23 (.ld false 1 (t 7)),
 o 24 (.ln (t 23)),
 o 25 (.bin .gtr (t 24) (i 0)),
 o 26 (.mv (t 25)),
 og 27 26 true (.ld true 7 (t 8)),
 og 28 26 true (.ld false 1 (t 7)),
 og 29 26 true (.ld false 1 (t 7)),
 og 30 26 true (.ln (t 29)),
 og 31 26 true (.bin .sub (t 30) (i 1)),
 og 32 26 true (.ia 1 (t 28) (t 31)),
 og 33 26 true (.ld false 1 (t 32)),
 og 34 26 true (.bin .add (t 33) (i 1)),
 ⟨some 35, some (26, true), .ca (.func 79) [(t 27), (t 34)]⟩,
 og 36 26 true (.un .not (t 35)),
 o 37 (.pick (t 26) (t 36) (b false))])
 (.cond (t 37)
 (.seq (.ops [o 38 (.ld false 1 (t 7)),
 o 6 (.mv (t 38))])
 .ret)
 .skip)))
 (.ops [o 21 (.mv (t 9)),
 o 22 (.bin .add (t 21) (i 1)),
 o 9 (.mv (t 22))]))))))
 (.seq (.seq (.ops [o 10 (.mv (i 1))])
 (.block 2 (.loop (.seq (.seq (.ops [o 39 (.mv (t 10)),
 o 40 (.mv (t 1)),
 o 41 (.bin .quo (t 40) (i 2)),
 o 42 (.bin .lss (t 39) (t 41))])
 (.cond (t 42)
 .skip
 (.exit 2)))
 (.seq (.block 3 (.opd [o 45 (.ld true 7 (t 8)),
 o 46 (.mv (t 2)),
 o 47 (.bin .mul (t 46) (i 7919)),
 o 48 (.mv (t 10)),
 o 49 (.fa 0 (t 3)),
 o 50 (.ld false 1 (t 49)),
 o 51 (.bin .shl (i 1) (t 50)),
 o 52 (.mv (t 1)),
 o 53 (.bin .quo (t 52) (i 2)),
 o 54 (.bin .quo (t 51) (t 53)),
 o 55 (.bin .mul (t 48) (t 54)),
 o 56 (.bin .add (t 47) (t 55)),
 o 57 (.fa 0 (t 3)),
 o 58 (.ld false 1 (t 57)),
 k 59 (.ca (.func 57) [(t 56), (t 58)]),
 k 60 (.cq (.func 79) [(t 45), (t 59)])]))
 (.ops [o 43 (.mv (t 10)),
 o 44 (.bin .add (t 43) (i 1)),
 o 10 (.mv (t 44))]))))))
 (.seq (.ops [o 61 (.fa 0 (t 3)),
 o 62 (.ld false 1 (t 61)),
 o 63 (.bin .sub (t 62) (i 1)),
 o 64 (.bin .shl (i 1) (t 63)),
 o 11 (.mv (t 64))])
 (.seq (.ops [o 65 (.ld true 7 (t 8)),
 o 66 (.mv (t 11)),
 k 67 (.ca (.func 79) [(t 65), (t 66)])])
 (.seq (.opq [o 68 (.ld true 7 (t 8)),
 o 69 (.fa 0 (t 3)),
 o 70 (.ld false 1 (t 69)),
 o 71 (.bin .shl (i 1) (t 70)),
 o 72 (.bin .sub (t 71) (i 1)),
 k 73 (.ca (.func 79) [(t 68), (t 72)])])
 (.seq (.ops [o 74 (.ld true 7 (t 8)),
 o 75 (.fa 2 (t 3)),
 o 76 (.ld false 1 (t 75)),
 k 77 (.ca (.func 79) [(t 74), (t 76)])])
 (.seq (.seq (.ops [o 78 (.ld true 6 (t 3)),
 o 79 (.fa 3 (t 3)),
 o 80 (.ld false 1 (t 79)),
 k 81 (.ca (.func 40) [(t 78), (t 80)])])
 (.cond (t 81)
 (.ops [o 82 (.ld true 7 (t 8)),
 o 83 (.fa 3 (t 3)),
 o 84 (.ld false 1 (t 83)),
 k 85 (.ca (.func 79) [(t 82), (t 84)])])
 .skip))
 (.seq (.seq (.ops [o 86 (.ld true 6 (t 3)),
 o 87 (.mv (t 11)),
 o 88 (.bin .sub (t 87) (i 1)),
 k 89 (.ca (.func 40) [(t 86), (t 88)])])
 (.cond (t 89)
 (.ops [o 90 (.ld true 7 (t 8)),
 o 91 (.mv (t 11)),
 o 92 (.bin .sub (t 91) (i 1)),
 k 93 (.ca (.func 79) [(t 90), (t 92)])])
 .skip))
 (.seq (.ops [o 94 (.ld false 1 (t 7)),
 o 6 (.mv (t 94))])
 .ret)))))))))))))⟩
theorem e39 : slimF Try.prog Try.f39 [[(0, []), (1, []), (2, []), (3, []), (4, []), (5, []), (6, []), (7, []), (8, []), (9, []), (10, []), (11, []), (12, []), (13, []), (14, [])], [(0, []), (1, []), (2, []), (3, []), (4, []), (5, []), (6, []), (7, []), (8, []), (9, []), (10, []), (11, []), (12, []), (13, []), (14, []), (15, [0])], [(0, []), (1, []), (2, []), (3, []), (4, []), (5, [])]] = some c39 := by kernel_rfl
/-- cellar/cellarref1.Has -/
def c40 : SF := ⟨37, [.t 4], (.seq (.ops [k 2 (.bx 34 (t 0)),
 o 4 (.mv (b false))])
 (.seq (.seq (.ops [o 5 (.fa 1 (t 2)),
 o 6 (.ld false 1 (t 5)),
 o 7 (.mv (t 6)),
 og 8 7 false (.mv (t 1)),
 og 9 7 false (.fa 4 (t 2)),
 og 10 7 false (.ld false 1 (t 9)),
 og 11 7 false (.bin .andNot (t 8) (t 10)),
 og 12 7 false (.fa 5 (t 2)),
 og 13 7 false (.ld false 1 (t 12)),
 og 14 7 false (.bin .neq (t 11) (t 13)),
 o 15 (.pick (t 7) (b true) (t 14))])
 (.cond (t 15)
 (.seq (.ops [o 4 (.mv (b false))])
 .ret)
 .skip))
 (.seq (.seq (.ops [o 16 (.fa 2 (t 2)),
 o 17 (.ld false 1 (t 16)),
 o 18 (.fa 3 (t 2)),
 o 19 (.ld false 1 (t 18)),
 o 20 (.bin .leq (t 17) (t 19))])
 (.cond (t 20)
 (.seq (.ops [o 21 (.mv (t 1)),
 o 22 (.fa 2 (t 2)),
 o 23 (.ld false 1 (t 22)),
 o 24 (.fa 3 (t 2)),
 o 25 (.ld false 1 (t 24)),
 k 26 (.ca (.func 66) [(t 21), (t 23), (t 25)]),
 o 4 (.mv (t 26))])
 .ret)
 .skip))
 (.seq (.ops [o 27 (.mv (t 1)),
 o 28 (.fa 2 (t 2)),
 o 29 (.ld false 1 (t 28)),
 o 30 (.bin .geq (t 27) (t 29)),
 o 31 (.mv (t 30)),
 og 32 31 false (.mv (t 1)),
 og 33 31 false (.fa 3 (t 2)),
 og 34 31 false (.ld false 1 (t 33)),
 og 35 31 false (.bin .leq (t 32) (t 34)),
 o 36 (.pick (t 31) (b true) (t 35)),
 o 4 (.mv (t 36))])
 .ret))))⟩
theorem e40 : slimF Try.prog Try.f40 [] = some c40 := by kernel_rfl
/-- cellar/cellarref1.Next -/
def c41 : SF := ⟨73, [.t 4], (.seq (.ops [k 2 (.bx 34 (t 0)),
 o 4 (.mv (i 0))])
 (.seq (.seq (.ops [o 9 (.fa 1 (t 2)),
 o 10 (.ld false 1 (t 9)),
 o 11 (.mv (t 10)),
 og 12 11 false (.mv (t 1)),
 og 13 11 false (.fa 0 (t 2)),
 og 14 11 false (.ld false 1 (t 13)),
 og 15 11 false (.bin .shl (i 1) (t 14)),
 og 16 11 false (.bin .geq (t 12) (t 15)),
 o 17 (.pick (t 11) (b true) (t 16))])
 (.cond (t 17)
 (.seq (.ops [o 4 (.mv (i (-1)))])
 .ret)
 .skip))
 (.seq (.ops [o 18 (.fa 2 (t 2)),
 o 19 (.ld false 1 (t 18)),
 k 20 (.bs 3 2 [.int .i64 0, .int .i64 0] [(0, 1, (t 19)), (1, 1, (i 0))]),
 o 5 (.mv (t 20))])
 (.seq (.ops [o 21 (.fa 3 (t 2)),
 o 22 (.ld false 1 (t 21)),
 k 23 (.bs 3 2 [.int .i64 0, .int .i64 0] [(0, 1, (t 22)), (1, 1, (i (-1)))]),
 o 6 (.mv (t 23))])
 (.seq (.seq (.ops [o 24 (.fa 2 (t 2)),
 o 25 (.ld false 1 (t 24)),
 o 26 (.fa 3 (t 2)),
 o 27 (.ld false 1 (t 26)),
 o 28 (.bin .gtr (t 25) (t 27))])
 (.cond (t 28)
 (.opq [o 29 (.fa 2 (t 2)),
 o 30 (.ld false 1 (t 29)),
 o 32 (.fa 3 (t 2)),
 o 33 (.ld false 1 (t 32)),
 o 34 (.fa 0 (t 2)),
 o 35 (.ld false 1 (t 34)),
 o 36 (.bin .shl (i 1) (t 35)),
 o 37 (.bin .sub (t 36) (i 1)),
 k 31 (.bs 3 2 [.int .i64 0, .int .i64 0] [(0, 1, (i 0)), (1, 1, (t 30))]),
 o 5 (.mv (t 31)),
 k 38 (.bs 3 2 [.int .i64 0, .int .i64 0] [(0, 1, (t 33)), (1, 1, (t 37))]),
 o 6 (.mv (t 38))])
 .skip))
 (.seq (.seq (.ops [o 7 (.mv (i 0))])
 (.block 0 (.loop (.seq (.seq (.ops [o 39 (.mv (t 7)),
 o 40 (.bin .lss (t 39) (i 2))])
 (.cond (t 40)
 .skip
 (.exit 0)))
 (.seq (.block 1 (.seq (.seq (.opq [o 43 (.mv (t 1)),
 o 44 (.mv (t 5)),
 o 45 (.mv (t 7)),
 o 46 (.ia 1 (t 44) (t 45)),
 o 47 (.ld false 1 (t 46)),
 o 48 (.mx [(t 43), (t 47)]),
 o 49 (.mv (t 6)),
 o 50 (.mv (t 7)),
 o 51 (.ia 1 (t 49) (t 50)),
 o 52 (.ld false 1 (t 51)),
 o 53 (.bin .gtr (t 48) (t 52))])
 (.cond (t 53)
 (.exit 1)
 .skip))
 (.seq (.opq [o 54 (.ld true 6 (t 2)),
 o 55 (.mv (t 1)),
 o 56 (.mv (t 5)),
 o 57 (.mv (t 7)),
 o 58 (.ia 1 (t 56) (t 57)),
 o 59 (.ld false 1 (t 58)),
 o 60 (.mx [(t 55), (t 59)]),
 k 61 (.ca (.func 80) [(t 54), (t 60)]),
 o 8 (.mv (t 61))])
 (.seq (.ops [o 62 (.mv (t 8)),
 o 63 (.bin .geq (t 62) (i 0)),
 o 64 (.mv (t 63)),
 og 65 64 true (.mv (t 8)),
 og 66 64 true (.mv (t 6)),
 og 67 64 true (.mv (t 7)),
 og 68 64 true (.ia 1 (t 66) (t 67)),
 og 69 64 true (.ld false 1 (t 68)),
 og 70 64 true (.bin .leq (t 65) (t 69)),
 o 71 (.pick (t 64) (t 70) (b false))])
 (.cond (t 71)
 (.seq (.ops [o 72 (.mv (t 8)),
 o 4 (.mv (t 72))])
 .ret)
 .skip)))))
 (.ops [o 41 (.mv (t 7)),
 o 42 (.bin .add (t 41) (i 1)),
 o 7 (.mv (t 42))]))))))
 (.seq (.ops [o 4 (.mv (i (-1)))])
 .ret)))))))⟩
theorem e41 : slimF Try.prog Try.f41 [[(0, []), (1, []), (3, []), (4, []), (5, []), (6, []), (7, []), (8, []), (2, []), (10, []), (9, []), (11, [])], [(0, []), (1, []), (2, []), (3, []), (4, []), (5, []), (6, []), (7, []), (8, []), (9, []), (10, [])], [(0, []), (1, []), (2, []), (3, []), (4, []), (5, []), (6, []), (7, []), (8, [])]] = some c41 := by kernel_rfl
/-- cellar/cellarlaw5.wakes -/
def c42 : SF := ⟨39, [.t 0], (.seq (.ops [o 0 (.mv (b false))])
 (.seq (.ops [k 7 (.ca (.func 81) [(i 8)]),
 k 8 (.ca (.func 82) [(i 8), (i 3)]),
 k 9 (.ca (.func 43) [(i 18), (i 1), (t 7), (t 8), (b true)]),
 o 6 (.mv (t 9)),
 o 10 (.ex (t 6) 0),
 o 11 (.ex (t 6) 1),
 o 12 (.ex (t 6) 2),
 k 1 (.al 34 [.int .i64 0, .bool false, .int .i64 0, .int .i64 0, .int .i64 0, .int .i64 0]),
 k 2 (.al 34 [.int .i64 0, .bool false, .int .i64 0, .int .i64 0, .int .i64 0, .int .i64 0]),
 kn (.st [] 6 (t 1) (t 10)),
 kn (.st [] 6 (t 2) (t 11)),
 o 3 (.mv (t 12))])
 (.seq (.ops [k 14 (.ca (.func 82) [(i 8), (i 3)]),
 k 15 (.ca (.func 35) [(t 14), (b true)]),
 o 13 (.mv (t 15)),
 o 16 (.ex (t 13) 0),
 o 17 (.ex (t 13) 1),
 k 4 (.al 34 [.int .i64 0, .bool false, .int .i64 0, .int .i64 0, .int .i64 0, .int .i64 0]),
 kn (.st [] 6 (t 4) (t 16)),
 o 5 (.mv (t 17))])
 (.seq (.ops [o 18 (.mv (t 3)),
 k 19 (.ca (.func 37) [(t 18)]),
 o 20 (.bin .eql (t 19) (i 0)),
 o 21 (.mv (t 20)),
 og 22 21 true (.mv (t 5)),
 ⟨some 23, some (21, true), .ca (.func 37) [(t 22)]⟩,
 og 24 21 true (.bin .eql (t 23) (i 0)),
 o 25 (.pick (t 21) (t 24) (b false)),
 o 26 (.mv (t 25)),
 og 27 26 true (.ld true 6 (t 1)),
 ⟨some 28, some (26, true), .ca (.func 40) [(t 27), (i 3)]⟩,
 o 29 (.pick (t 26) (t 28) (b false)),
 o 30 (.mv (t 29)),
 og 31 30 true (.ld true 6 (t 4)),
 ⟨some 32, some (30, true), .ca (.func 41) [(t 31), (i 0)]⟩,
 og 33 30 true (.bin .lss (t 32) (i 0)),
 o 34 (.pick (t 30) (t 33) (b false)),
 o 35 (.mv (t 34)),
 og 36 35 true (.ld true 6 (t 4)),
 ⟨some 37, some (35, true), .ca (.func 36) [(t 36)]⟩,
 o 38 (.pick (t 35) (t 37) (b false)),
 o 0 (.mv (t 38))])
 .ret))))⟩
theorem e42 : slimF Try.prog Try.f42 [] = some c42 := by kernel_rfl
/-- cellar/filter.Two -/
def c43 : SF := ⟨44, [.c true 6 10, .c true 6 11, .t 12], (.seq (.ops [k 7 (.bx 34 (t 2)),
 k 8 (.bx 34 (t 3)),
 k 10 (.al 34 [.int .i64 0, .bool false, .int .i64 0, .int .i64 0, .int .i64 0, .int .i64 0]),
 k 11 (.al 34 [.int .i64 0, .bool false, .int .i64 0, .int .i64 0, .int .i64 0, .int .i64 0]),
 o 12 (.mv (i 0))])
 (.seq (.seq (.ops [o 13 (.mv (t 0)),
 o 14 (.bin .neq (t 13) (i 18)),
 o 15 (.mv (t 14)),
 og 16 15 true (.mv (t 0)),
 og 17 15 true (.bin .neq (t 16) (i 19)),
 o 18 (.pick (t 15) (t 17) (b false)),
 o 19 (.mv (t 18)),
 og 20 19 false (.mv (t 1)),
 og 21 19 false (.ld true 6 (t 7)),
 ⟨some 22, some (19, false), .ca (.func 83) [(t 20), (t 21)]⟩,
 og 23 19 false (.un .not (t 22)),
 o 24 (.pick (t 19) (b true) (t 23)),
 o 25 (.mv (t 24)),
 og 26 25 false (.mv (t 1)),
 og 27 25 false (.ld true 6 (t 8)),
 ⟨some 28, some (25, false), .ca (.func 83) [(t 26), (t 27)]⟩,
 og 29 25 false (.un .not (t 28)),
 o 30 (.pick (t 25) (b true) (t 29))])
 (.cond (t 30)
 (.seq (.opq [o 31 (.ld true 6 (t 10)),
 o 32 (.ld true 6 (t 11)),
 kn (.st [11] 6 (t 10) (t 31)),
 kn (.st [] 6 (t 11) (t 32)),
 o 12 (.mv (i 1))])
 .ret)
 .skip))
 (.seq (.ops [o 34 (.mv (t 0)),
 o 35 (.mv (t 1)),
 o 36 (.ld true 6 (t 7)),
 o 37 (.ld true 6 (t 8)),
 o 38 (.mv (t 4)),
 k 39 (.ca (.func 84) [(t 34), (t 35), (t 36), (t 37), (t 38)]),
 o 33 (.mv (t 39)),
 o 40 (.ex (t 33) 0),
 o 41 (.ex (t 33) 1),
 kn (.st [] 6 (t 10) (t 40)),
 kn (.st [] 6 (t 11) (t 41))])
 (.seq (.opq [o 42 (.ld true 6 (t 10)),
 o 43 (.ld true 6 (t 11)),
 kn (.st [11] 6 (t 10) (t 42)),
 kn (.st [] 6 (t 11) (t 43)),
 o 12 (.mv (i 0))])
 .ret))))⟩
theorem e43 : slimF Try.prog Try.f43 [[(0, []), (1, []), (2, [11]), (3, []), (4, [])], [(0, []), (1, []), (2, [11]), (3, []), (4, [])]] = some c43 := by kernel_rfl
/-- cellar/cellarref1.Two -/
def c44 : SF := ⟨138, [.t 8, .t 9], (.seq (.ops [o 8 (.mv (i 0)),
 o 9 (.mv (i 0))])
 (.seq (.ops [o 13 (.mv (t 1)),
 k 14 (.ca (.func 46) [(t 13)]),
 o 10 (.mv (t 14))])
 (.seq (.ops [o 15 (.mv (t 1)),
 o 16 (.mv (t 2)),
 k 17 (.ca (.func 85) [(t 15), (t 16)]),
 o 18 (.mv (t 1)),
 o 19 (.mv (t 3)),
 k 20 (.ca (.func 85) [(t 18), (t 19)]),
 o 11 (.mv (t 17)),
 o 12 (.mv (t 20))])
 (.seq (.seq (.ops [o 21 (.mv (t 0))])
 (.block 0 (.seq (.ops [o 23 (.bin .eql (t 21) (i 8)),
 o 22 (.mv (t 23))])
 (.cond (t 22)
 (.seq (.ops [o 24 (.mv (t 1)),
 o 25 (.mv (t 11)),
 o 26 (.mv (t 12)),
 o 27 (.bin .add (t 25) (t 26)),
 k 28 (.ca (.func 86) [(t 24), (t 27)]),
 o 29 (.ex (t 28) 0),
 o 30 (.ex (t 28) 1),
 o 8 (.mv (t 29)),
 o 9 (.mv (t 30))])
 .ret)
 (.seq (.ops [o 32 (.bin .eql (t 21) (i 9)),
 o 31 (.mv (t 32))])
 (.cond (t 31)
 (.seq (.ops [o 33 (.mv (t 1)),
 o 34 (.mv (t 11)),
 o 35 (.mv (t 12)),
 o 36 (.bin .sub (t 34) (t 35)),
 k 37 (.ca (.func 86) [(t 33), (t 36)]),
 o 38 (.ex (t 37) 0),
 o 39 (.ex (t 37) 1),
 o 8 (.mv (t 38)),
 o 9 (.mv (t 39))])
 .ret)
 (.seq (.ops [o 41 (.bin .eql (t 21) (i 10)),
 o 40 (.mv (t 41))])
 (.cond (t 40)
 (.seq (.seq (.ops [o 42 (.mv (t 1)),
 k 43 (.ca (.func 87) [(t 42)]),
 o 44 (.un .not (t 43))])
 (.cond (t 44)
 (.seq (.ops [o 45 (.mv (t 11)),
 o 46 (.cv .u64 (t 45)),
 o 47 (.mv (t 12)),
 o 48 (.cv .u64 (t 47)),
 o 49 (.bin .mul (t 46) (t 48)),
 o 50 (.mv (t 10)),
 o 51 (.bin .shl (.const (.int .u64 1)) (t 50)),
 o 52 (.bin .sub (t 51) (.const (.int .u64 1))),
 o 53 (.bin .and (t 49) (t 52)),
 o 54 (.cv .i64 (t 53)),
 o 8 (.mv (t 54)),
 o 9 (.mv (i 0))])
 .ret)
 .skip))
 (.seq (.ops [o 55 (.mv (t 1)),
 o 56 (.mv (t 11)),
 o 57 (.mv (t 12)),
 o 58 (.bin .mul (t 56) (t 57)),
 k 59 (.ca (.func 86) [(t 55), (t 58)]),
 o 60 (.ex (t 59) 0),
 o 61 (.ex (t 59) 1),
 o 8 (.mv (t 60)),
 o 9 (.mv (t 61))])
 .ret))
 (.seq (.seq (.ops [o 63 (.bin .eql (t 21) (i 11)),
 o 62 (.mv (t 63))])
 (.cond (t 62)
 .skip
 (.ops [o 64 (.bin .eql (t 21) (i 12)),
 o 62 (.mv (t 64))])))
 (.cond (t 62)
 (.seq (.seq (.ops [o 65 (.mv (t 12)),
 o 66 (.bin .eql (t 65) (i 0))])
 (.cond (t 66)
 (.seq (.ops [o 8 (.mv (i 0)),
 o 9 (.mv (i 6))])
 .ret)
 .skip))
 (.seq (.seq (.ops [o 67 (.mv (t 1)),
 k 68 (.ca (.func 87) [(t 67)]),
 o 69 (.mv (t 68)),
 og 70 69 true (.mv (t 11)),
 og 71 69 true (.mv (t 10)),
 og 72 69 true (.bin .sub (t 71) (i 1)),
 og 73 69 true (.bin .shl (i 1) (t 72)),
 og 74 69 true (.un .neg (t 73)),
 og 75 69 true (.bin .eql (t 70) (t 74)),
 o 76 (.pick (t 69) (t 75) (b false)),
 o 77 (.mv (t 76)),
 og 78 77 true (.mv (t 12)),
 og 79 77 true (.bin .eql (t 78) (i (-1))),
 o 80 (.pick (t 77) (t 79) (b false))])
 (.cond (t 80)
 (.seq (.ops [o 8 (.mv (i 0)),
 o 9 (.mv (i 4))])
 .ret)
 .skip))
 (.seq (.seq (.ops [o 81 (.mv (t 0)),
 o 82 (.bin .eql (t 81) (i 11))])
 (.cond (t 82)
 (.seq (.ops [o 83 (.mv (t 11)),
 o 84 (.mv (t 12)),
 o 85 (.bin .quo (t 83) (t 84)),
 o 86 (.mv (t 10)),
 k 87 (.ca (.func 57) [(t 85), (t 86)]),
 o 8 (.mv (t 87)),
 o 9 (.mv (i 0))])
 .ret)
 .skip))
 (.seq (.ops [o 88 (.mv (t 11)),
 o 89 (.mv (t 12)),
 o 90 (.bin .rem (t 88) (t 89)),
 o 91 (.mv (t 10)),
 k 92 (.ca (.func 57) [(t 90), (t 91)]),
 o 8 (.mv (t 92)),
 o 9 (.mv (i 0))])
 .ret))))
 (.seq (.ops [o 94 (.bin .eql (t 21) (i 13)),
 o 93 (.mv (t 94))])
 (.cond (t 93)
 (.seq (.ops [o 95 (.mv (t 2)),
 o 96 (.mv (t 3)),
 o 97 (.bin .and (t 95) (t 96)),
 o 8 (.mv (t 97)),
 o 9 (.mv (i 0))])
 .ret)
 (.seq (.ops [o 99 (.bin .eql (t 21) (i 14)),
 o 98 (.mv (t 99))])
 (.cond (t 98)
 (.seq (.ops [o 100 (.mv (t 2)),
 o 101 (.mv (t 3)),
 o 102 (.bin .or (t 100) (t 101)),
 o 8 (.mv (t 102)),
 o 9 (.mv (i 0))])
 .ret)
 (.seq (.ops [o 104 (.bin .eql (t 21) (i 15)),
 o 103 (.mv (t 104))])
 (.cond (t 103)
 (.seq (.ops [o 105 (.mv (t 2)),
 o 106 (.mv (t 3)),
 o 107 (.bin .xor (t 105) (t 106)),
 o 8 (.mv (t 107)),
 o 9 (.mv (i 0))])
 .ret)
 (.seq (.seq (.ops [o 109 (.bin .eql (t 21) (i 16)),
 o 108 (.mv (t 109))])
 (.cond (t 108)
 .skip
 (.ops [o 110 (.bin .eql (t 21) (i 17)),
 o 108 (.mv (t 110))])))
 (.cond (t 108)
 (.seq (.seq (.ops [o 111 (.mv (t 12)),
 o 112 (.mv (t 10)),
 o 113 (.bin .sub (t 112) (i 1)),
 k 114 (.ca (.func 22) [(t 111), (t 113)]),
 o 115 (.un .not (t 114))])
 (.cond (t 115)
 (.seq (.ops [o 8 (.mv (i 0)),
 o 9 (.mv (i 5))])
 .ret)
 .skip))
 (.seq (.seq (.ops [o 116 (.mv (t 0)),
 o 117 (.bin .eql (t 116) (i 16))])
 (.cond (t 117)
 (.seq (.ops [o 118 (.mv (t 2)),
 o 119 (.mv (t 12)),
 o 120 (.bin .shl (t 118) (t 119)),
 o 121 (.mv (t 10)),
 k 122 (.ca (.func 57) [(t 120), (t 121)]),
 o 8 (.mv (t 122)),
 o 9 (.mv (i 0))])
 .ret)
 .skip))
 (.seq (.ops [o 123 (.mv (t 11)),
 o 124 (.mv (t 12)),
 o 125 (.bin .shr (t 123) (t 124)),
 o 126 (.mv (t 10)),
 k 127 (.ca (.func 57) [(t 125), (t 126)]),
 o 8 (.mv (t 127)),
 o 9 (.mv (i 0))])
 .ret)))
 (.seq (.ops [o 129 (.bin .eql (t 21) (i 18)),
 o 128 (.mv (t 129))])
 (.cond (t 128)
 (.seq (.ops [o 130 (.mv (t 2)),
 o 131 (.mv (t 3)),
 o 132 (.bin .eql (t 130) (t 131)),
 k 133 (.ca (.func 88) [(t 132)]),
 o 8 (.mv (t 133)),
 o 9 (.mv (i 0))])
 .ret)
 .skip))))))))))))))))))))
 (.seq (.ops [o 134 (.mv (t 11)),
 o 135 (.mv (t 12)),
 o 136 (.bin .lss (t 134) (t 135)),
 k 137 (.ca (.func 88) [(t 136)]),
 o 8 (.mv (t 137)),
 o 9 (.mv (i 0))])
 .ret)))))⟩
theorem e44 : slimF Try.prog Try.f44 [] = some c44 := by kernel_rfl
/-- cellar/cellarref1.Width -/
def c46 : SF := ⟨13, [.t 2], (.seq (.ops [o 2 (.mv (i 0))])
 (.seq (.seq (.ops [o 3 (.mv (t 0))])
 (.block 0 (.seq (.seq (.ops [o 5 (.bin .eql (t 3) (i 1)),
 o 4 (.mv (t 5))])
 (.cond (t 4)
 .skip
 (.ops [o 6 (.bin .eql (t 3) (i 2)),
 o 4 (.mv (t 6))])))
 (.cond (t 4)
 (.seq (.ops [o 2 (.mv (i 8))])
 .ret)
 (.seq (.seq (.ops [o 8 (.bin .eql (t 3) (i 3)),
 o 7 (.mv (t 8))])
 (.cond (t 7)
 .skip
 (.ops [o 9 (.bin .eql (t 3) (i 4)),
 o 7 (.mv (t 9))])))
 (.cond (t 7)
 (.seq (.ops [o 2 (.mv (i 16))])
 .ret)
 (.seq (.seq (.ops [o 11 (.bin .eql (t 3) (i 5)),
 o 10 (.mv (t 11))])
 (.cond (t 10)
 .skip
 (.ops [o 12 (.bin .eql (t 3) (i 6)),
 o 10 (.mv (t 12))])))
 (.cond (t 10)
 (.seq (.ops [o 2 (.mv (i 32))])
 .ret)
 .skip))))))))
 (.seq (.ops [o 2 (.mv (i 0))])
 .ret)))⟩
theorem e46 : slimF Try.prog Try.f46 [] = some c46 := by kernel_rfl
/-- cellar/cellarref1.Cast -/
def c48 : SF := ⟨13, [.t 6], (.seq (.ops [o 6 (.mv (i 0))])
 (.seq (.ops [o 7 (.mv (t 0)),
 o 8 (.mv (t 2)),
 k 9 (.ca (.func 85) [(t 7), (t 8)]),
 o 10 (.mv (t 1)),
 k 11 (.ca (.func 46) [(t 10)]),
 k 12 (.ca (.func 57) [(t 9), (t 11)]),
 o 6 (.mv (t 12))])
 .ret))⟩
theorem e48 : slimF Try.prog Try.f48 [] = some c48 := by kernel_rfl
/-- cellar/cellarlaw0.Within -/
def c49 : SF := ⟨11, [.t 4], (.seq (.ops [o 4 (.mv (i 0))])
 (.seq (.ops [o 5 (.mv (t 0)),
 o 6 (.cv .u64 (t 5)),
 o 7 (.mv (t 1)),
 o 8 (.cv .u64 (t 7)),
 o 9 (.bin .rem (t 6) (t 8)),
 o 10 (.cv .i64 (t 9)),
 o 4 (.mv (t 10))])
 .ret))⟩
theorem e49 : slimF Try.prog Try.f49 [] = some c49 := by kernel_rfl
/-- cellar/cellarref1.Wrap -/
def c57 : SF := ⟨10, [.t 4], (.seq (.ops [o 4 (.mv (i 0))])
 (.seq (.ops [o 5 (.mv (t 0)),
 o 6 (.mv (t 1)),
 o 7 (.bin .shl (i 1) (t 6)),
 o 8 (.bin .sub (t 7) (i 1)),
 o 9 (.bin .and (t 5) (t 8)),
 o 4 (.mv (t 9))])
 .ret))⟩
theorem e57 : slimF Try.prog Try.f57 [] = some c57 := by kernel_rfl
/-- cellar/cellarref1.Only -/
def c62 : SF := ⟨17, [.t 2, .t 3], (.seq (.ops [k 1 (.bx 34 (t 0)),
 o 2 (.mv (i 0)),
 o 3 (.mv (b false))])
 (.seq (.ops [o 5 (.ld true 6 (t 1)),
 k 6 (.ca (.func 41) [(t 5), (i 0)]),
 o 4 (.mv (t 6))])
 (.seq (.ops [o 7 (.mv (t 4)),
 o 8 (.mv (t 4)),
 o 9 (.bin .geq (t 8) (i 0)),
 o 10 (.mv (t 9)),
 og 11 10 true (.ld true 6 (t 1)),
 og 12 10 true (.mv (t 4)),
 og 13 10 true (.bin .add (t 12) (i 1)),
 ⟨some 14, some (10, true), .ca (.func 41) [(t 11), (t 13)]⟩,
 og 15 10 true (.bin .lss (t 14) (i 0)),
 o 16 (.pick (t 10) (t 15) (b false)),
 o 2 (.mv (t 7)),
 o 3 (.mv (t 16))])
 .ret)))⟩
theorem e62 : slimF Try.prog Try.f62 [] = some c62 := by kernel_rfl
/-- cellar/cellarref0.Between -/
def c66 : SF := ⟨15, [.t 6], (.seq (.ops [o 6 (.mv (b false))])
 (.seq (.ops [o 7 (.mv (t 0)),
 o 8 (.mv (t 1)),
 o 9 (.bin .geq (t 7) (t 8)),
 o 10 (.mv (t 9)),
 og 11 10 true (.mv (t 0)),
 og 12 10 true (.mv (t 2)),
 og 13 10 true (.bin .leq (t 11) (t 12)),
 o 14 (.pick (t 10) (t 13) (b false)),
 o 6 (.mv (t 14))])
 .ret))⟩
theorem e66 : slimF Try.prog Try.f66 [] = some c66 := by kernel_rfl
/-- cellar/val.May -/
def c74 : SF := ⟨42, [.t 2], (.seq (.ops [k 1 (.bx 34 (t 0)),
 o 2 (.mv (b false))])
 (.seq (.seq (.ops [o 5 (.fa 0 (t 1)),
 o 6 (.ld false 1 (t 5)),
 k 7 (.ca (.func 114) [(t 6)]),
 o 8 (.un .not (t 7))])
 (.cond (t 8)
 (.seq (.ops [o 2 (.mv (b false))])
 .ret)
 .skip))
 (.seq (.seq (.ops [o 9 (.fa 1 (t 1)),
 o 10 (.ld false 1 (t 9))])
 (.cond (t 10)
 (.seq (.opd [o 11 (.ld true 6 (t 1)),
 o 12 (.fa 0 (t 1)),
 o 13 (.ld false 1 (t 12)),
 k 14 (.ca (.func 115) [(t 13)]),
 o 15 (.eqs (.st [(false, 0, 1, .i), (false, 1, 1, .b), (false, 2, 1, .i), (false, 3, 1, .i), (false, 4, 1, .i), (false, 5, 1, .i)]) false (t 11) (t 14)),
 o 2 (.mv (t 15))])
 .ret)
 .skip))
 (.seq (.seq (.ops [o 16 (.fa 2 (t 1)),
 o 17 (.ld false 1 (t 16)),
 o 18 (.fa 3 (t 1)),
 o 19 (.ld false 1 (t 18)),
 o 20 (.fa 4 (t 1)),
 o 21 (.ld false 1 (t 20)),
 o 22 (.fa 5 (t 1)),
 o 23 (.ld false 1 (t 22)),
 k 24 (.bs 3 4 [.int .i64 0, .int .i64 0, .int .i64 0, .int .i64 0] [(0, 1, (t 17)), (1, 1, (t 19)), (2, 1, (t 21)), (3, 1, (t 23))]),
 o 25 (.ln (t 24)),
 o 26 (.mv (i 0))])
 (.block 0 (.loop (.seq (.ops [o 27 (.bin .lss (t 26) (t 25))])
 (.seq (.cond (t 27)
 .skip
 (.exit 0))
 (.seq (.block 1 (.seq (.ops [o 28 (.ia 1 (t 24) (t 26)),
 o 29 (.ld false 1 (t 28)),
 o 4 (.mv (t 29))])
 (.seq (.ops [o 30 (.mv (t 4)),
 o 31 (.fa 0 (t 1)),
 o 32 (.ld false 1 (t 31)),
 k 33 (.ca (.func 116) [(t 30), (t 32)]),
 o 34 (.un .not (t 33))])
 (.cond (t 34)
 (.seq (.ops [o 2 (.mv (b false))])
 .ret)
 .skip))))
 (.ops [o 35 (.bin .add (t 26) (i 1)),
 o 26 (.mv (t 35))])))))))
 (.seq (.ops [o 36 (.fa 5 (t 1)),
 o 37 (.ld false 1 (t 36)),
 o 38 (.fa 4 (t 1)),
 o 39 (.ld false 1 (t 38)),
 o 40 (.bin .and (t 37) (t 39)),
 o 41 (.bin .eql (t 40) (i 0)),
 o 2 (.mv (t 41))])
 .ret)))))⟩
theorem e74 : slimF Try.prog Try.f74 [[(0, []), (1, []), (2, []), (3, []), (4, []), (5, [])]] = some c74 := by kernel_rfl
/-- cellar/filter.Nought -/
def c75 : SF := ⟨13, [.c true 6 4], (.seq (.ops [k 2 (.bx 34 (t 0)),
 k 4 (.al 34 [.int .i64 0, .bool false, .int .i64 0, .int .i64 0, .int .i64 0, .int .i64 0])])
 (.seq (.seq (.ops [o 5 (.mv (t 1))])
 (.cond (t 5)
 (.seq (.opd [o 6 (.ld true 6 (t 2)),
 o 7 (.fa 0 (t 2)),
 o 8 (.ld false 1 (t 7)),
 k 9 (.ca (.func 100) [(t 8), (i 0)]),
 k 10 (.ca (.func 117) [(t 6), (t 9)]),
 kn (.st [] 6 (t 4) (t 10))])
 .ret)
 .skip))
 (.seq (.ops [o 11 (.ld true 6 (t 2)),
 k 12 (.ca (.func 118) [(t 11), (i 0)]),
 kn (.st [] 6 (t 4) (t 12))])
 .ret)))⟩
theorem e75 : slimF Try.prog Try.f75 [[(0, []), (1, []), (2, []), (3, []), (4, []), (5, [])]] = some c75 := by kernel_rfl
/-- cellar/cellarref1.IsWidth -/
def c76 : SF := ⟨13, [.t 2], (.seq (.ops [o 2 (.mv (b false))])
 (.seq (.ops [o 3 (.mv (t 0)),
 o 4 (.bin .eql (t 3) (i 8)),
 o 5 (.mv (t 4)),
 og 6 5 false (.mv (t 0)),
 og 7 5 false (.bin .eql (t 6) (i 16)),
 o 8 (.pick (t 5) (b true) (t 7)),
 o 9 (.mv (t 8)),
 og 10 9 false (.mv (t 0)),
 og 11 9 false (.bin .eql (t 10) (i 32)),
 o 12 (.pick (t 9) (b true) (t 11)),
 o 2 (.mv (t 12))])
 .ret))⟩
theorem e76 : slimF Try.prog Try.f76 [] = some c76 := by kernel_rfl
/-- cellar/cellarref1.Number -/
def c77 : SF := ⟨10, [.t 4], (.seq (.ops [o 4 (.mv (b false))])
 (.seq (.ops [o 5 (.mv (t 0)),
 o 6 (.mv (t 1)),
 o 7 (.bin .shl (i 1) (t 6)),
 o 8 (.bin .sub (t 7) (i 1)),
 k 9 (.ca (.func 22) [(t 5), (t 8)]),
 o 4 (.mv (t 9))])
 .ret))⟩
theorem e77 : slimF Try.prog Try.f77 [] = some c77 := by kernel_rfl
/-- cellar/cellarref1.gather -/
def c78 : SF := ⟨8, [.c true 7 4], (.seq (.ops [k 2 (.bx 34 (t 0)),
 k 4 (.al 97 [.int .i64 0, .bool false, .int .i64 0, .int .i64 0, .int .i64 0, .int .i64 0, .pointer none])])
 (.seq (.ops [o 5 (.ld true 6 (t 2)),
 o 6 (.mv (t 1)),
 o 7 (.bd [.int .i64 0, .bool false, .int .i64 0, .int .i64 0, .int .i64 0, .int .i64 0, .pointer none] [(0, 6, (t 5)), (6, 1, (t 6))]),
 kn (.st [] 7 (t 4) (t 7))])
 .ret))⟩
theorem e78 : slimF Try.prog Try.f78 [] = some c78 := by kernel_rfl
/-- (cellar/cellarref1.adder).next -/
def c79 : SF := ⟨29, [.t 4], (.seq (.ops [k 2 (.bx 97 (t 0)),
 o 4 (.mv (b false))])
 (.seq (.ops [o 6 (.fa 0 (t 2)),
 o 7 (.ld true 6 (t 6)),
 o 8 (.mv (t 1)),
 k 9 (.ca (.func 41) [(t 7), (t 8)]),
 o 5 (.mv (t 9))])
 (.seq (.seq (.ops [o 10 (.mv (t 5)),
 o 11 (.bin .lss (t 10) (i 0))])
 (.cond (t 11)
 (.seq (.ops [o 4 (.mv (b false))])
 .ret)
 .skip))
 (.seq (.seq (.ops [o 12 (.fa 6 (t 2)),
 o 13 (.ld false 1 (t 12)),
 o 14 (.nc (t 13)),
 o 15 (.ld false 1 (t 14)),
 o 16 (.mv (t 5)),
 k 17 (.ca (.func 119) [(t 15), (t 16)]),
 o 18 (.bin .lss (t 17) (i 0))])
 (.cond (t 18)
 (.opq [o 19 (.fa 6 (t 2)),
 o 20 (.ld false 1 (t 19)),
 o 21 (.fa 6 (t 2)),
 o 22 (.ld false 1 (t 21)),
 o 23 (.nc (t 22)),
 o 24 (.ld false 1 (t 23)),
 o 25 (.mv (t 5)),
 k 26 (.bs 3 1 [.int .i64 0] [(0, 1, (t 25))]),
 k 27 (.ap 3 1 8 (t 24) (t 26)),
 o 28 (.nc (t 20)),
 kn (.st [] 1 (t 28) (t 27))])
 .skip))
 (.seq (.ops [o 4 (.mv (b true))])
 .ret)))))⟩
theorem e79 : slimF Try.prog Try.f79 [[(0, []), (1, []), (2, []), (3, []), (4, []), (5, []), (6, []), (7, []), (8, []), (9, []), (10, [])]] = some c79 := by kernel_rfl
/-- cellar/cellarref1.match -/
def c80 : SF := ⟨73, [.t 4], (.seq (.ops [k 2 (.bx 34 (t 0)),
 o 4 (.mv (i 0))])
 (.seq (.seq (.ops [o 7 (.mv (t 1)),
 o 8 (.fa 4 (t 2)),
 o 9 (.ld false 1 (t 8)),
 o 10 (.bin .andNot (t 7) (t 9)),
 o 11 (.fa 5 (t 2)),
 o 12 (.ld false 1 (t 11)),
 o 13 (.bin .eql (t 10) (t 12))])
 (.cond (t 13)
 (.seq (.ops [o 14 (.mv (t 1)),
 o 4 (.mv (t 14))])
 .ret)
 .skip))
 (.seq (.seq (.ops [o 5 (.mv (i 0))])
 (.block 0 (.loop (.seq (.seq (.ops [o 15 (.mv (t 5)),
 o 16 (.fa 0 (t 2)),
 o 17 (.ld false 1 (t 16)),
 o 18 (.bin .lss (t 15) (t 17))])
 (.cond (t 18)
 .skip
 (.exit 0)))
 (.seq (.block 1 (.seq (.ops [o 21 (.mv (t 1)),
 o 22 (.fa 4 (t 2)),
 o 23 (.ld false 1 (t 22)),
 o 24 (.bin .andNot (t 21) (t 23)),
 o 25 (.fa 5 (t 2)),
 o 26 (.ld false 1 (t 25)),
 o 27 (.bin .xor (t 24) (t 26)),
 o 28 (.mv (t 5)),
 o 29 (.bin .add (t 28) (i 1)),
 o 30 (.bin .shr (t 27) (t 29)),
 o 6 (.mv (t 30))])
 (.seq (.ops [o 31 (.mv (t 6)),
 o 32 (.bin .eql (t 31) (i 0)),
 o 33 (.mv (t 32)),
 og 34 33 true (.mv (t 1)),
 og 35 33 true (.mv (t 5)),
 og 36 33 true (.bin .shr (t 34) (t 35)),
 og 37 33 true (.bin .and (t 36) (i 1)),
 og 38 33 true (.bin .eql (t 37) (i 0)),
 o 39 (.pick (t 33) (t 38) (b false)),
 o 40 (.mv (t 39)),
 og 41 40 true (.fa 4 (t 2)),
 og 42 40 true (.ld false 1 (t 41)),
 og 43 40 true (.mv (t 5)),
 og 44 40 true (.bin .shr (t 42) (t 43)),
 og 45 40 true (.bin .and (t 44) (i 1)),
 og 46 40 true (.bin .eql (t 45) (i 1)),
 og 47 40 true (.mv (t 46)),
 og 48 47 false (.fa 5 (t 2)),
 og 49 47 false (.ld false 1 (t 48)),
 og 50 47 false (.mv (t 5)),
 og 51 47 false (.bin .shr (t 49) (t 50)),
 og 52 47 false (.bin .and (t 51) (i 1)),
 og 53 47 false (.bin .eql (t 52) (i 1)),
 og 54 40 true (.pick (t 47) (b true) (t 53)),
 o 55 (.pick (t 40) (t 54) (b false))])
 (.cond (t 55)
 (.seq (.opq [o 56 (.mv (t 1)),
 o 57 (.mv (t 5)),
 o 58 (.bin .add (t 57) (i 1)),
 o 59 (.bin .shr (t 56) (t 58)),
 o 60 (.mv (t 5)),
 o 61 (.bin .add (t 60) (i 1)),
 o 62 (.bin .shl (t 59) (t 61)),
 o 63 (.mv (t 5)),
 o 64 (.bin .shl (i 1) (t 63)),
 o 65 (.bin .or (t 62) (t 64)),
 o 66 (.fa 5 (t 2)),
 o 67 (.ld false 1 (t 66)),
 o 68 (.mv (t 5)),
 o 69 (.bin .shl (i 1) (t 68)),
 o 70 (.bin .sub (t 69) (i 1)),
 o 71 (.bin .and (t 67) (t 70)),
 o 72 (.bin .or (t 65) (t 71)),
 o 4 (.mv (t 72))])
 .ret)
 .skip))))
 (.ops [o 19 (.mv (t 5)),
 o 20 (.bin .add (t 19) (i 1)),
 o 5 (.mv (t 20))]))))))
 (.seq (.ops [o 4 (.mv (i (-1)))])
 .ret))))⟩
theorem e80 : slimF Try.prog Try.f80 [[(0, []), (1, []), (2, []), (3, []), (4, []), (5, []), (6, []), (7, []), (8, []), (9, []), (10, []), (11, []), (12, []), (13, []), (14, []), (15, []), (16, []), (17, [])]] = some c80 := by kernel_rfl
/-- cellar/cellarref1.All -/
def c81 : SF := ⟨11, [.c true 6 2], (.seq (.ops [k 2 (.al 34 [.int .i64 0, .bool false, .int .i64 0, .int .i64 0, .int .i64 0, .int .i64 0])])
 (.seq (.opq [o 3 (.mv (t 0)),
 o 4 (.mv (t 0)),
 o 5 (.bin .shl (i 1) (t 4)),
 o 6 (.bin .sub (t 5) (i 1)),
 o 7 (.mv (t 0)),
 o 8 (.bin .shl (i 1) (t 7)),
 o 9 (.bin .sub (t 8) (i 1)),
 o 10 (.bd [.int .i64 0, .bool false, .int .i64 0, .int .i64 0, .int .i64 0, .int .i64 0] [(0, 1, (t 3)), (3, 1, (t 6)), (4, 1, (t 9))]),
 kn (.st [] 6 (t 2) (t 10))])
 .ret))⟩
theorem e81 : slimF Try.prog Try.f81 [[(0, []), (1, []), (2, []), (3, []), (4, []), (5, []), (6, []), (7, []), (8, [])]] = some c81 := by kernel_rfl
/-- cellar/cellarref1.Just -/
def c82 : SF := ⟨10, [.c true 6 4], (.seq (.ops [k 4 (.al 34 [.int .i64 0, .bool false, .int .i64 0, .int .i64 0, .int .i64 0, .int .i64 0])])
 (.seq (.ops [o 5 (.mv (t 0)),
 o 6 (.mv (t 1)),
 o 7 (.mv (t 1)),
 o 8 (.mv (t 1)),
 o 9 (.bd [.int .i64 0, .bool false, .int .i64 0, .int .i64 0, .int .i64 0, .int .i64 0] [(0, 1, (t 5)), (2, 1, (t 6)), (3, 1, (t 7)), (5, 1, (t 8))]),
 kn (.st [] 6 (t 4) (t 9))])
 .ret))⟩
theorem e82 : slimF Try.prog Try.f82 [] = some c82 := by kernel_rfl
/-- cellar/filter.asked -/
def c83 : SF := ⟨18, [.t 4], (.seq (.ops [k 3 (.bx 34 (t 1)),
 o 4 (.mv (b false))])
 (.seq (.opd [o 5 (.mv (t 0)),
 k 6 (.ca (.func 104) [(t 5)]),
 o 7 (.mv (t 6)),
 og 8 7 true (.ld true 6 (t 3)),
 ⟨some 9, some (7, true), .ca (.func 74) [(t 8)]⟩,
 o 10 (.pick (t 7) (t 9) (b false)),
 o 11 (.mv (t 10)),
 og 12 11 true (.fa 0 (t 3)),
 og 13 11 true (.ld false 1 (t 12)),
 og 14 11 true (.mv (t 0)),
 ⟨some 15, some (11, true), .ca (.func 101) [(t 14)]⟩,
 og 16 11 true (.bin .eql (t 13) (t 15)),
 o 17 (.pick (t 11) (t 16) (b false)),
 o 4 (.mv (t 17))])
 .ret))⟩
theorem e83 : slimF Try.prog Try.f83 [[(0, []), (1, []), (2, []), (3, []), (4, []), (5, []), (6, []), (7, []), (8, []), (9, []), (10, []), (11, []), (12, []), (13, [])]] = some c83 := by kernel_rfl
/-- cellar/filter.Do -/
def c84 : SF := ⟨51, [.c true 6 10, .c true 6 11], (.seq (.ops [k 7 (.bx 34 (t 2)),
 k 8 (.bx 34 (t 3)),
 k 10 (.al 34 [.int .i64 0, .bool false, .int .i64 0, .int .i64 0, .int .i64 0, .int .i64 0]),
 k 11 (.al 34 [.int .i64 0, .bool false, .int .i64 0, .int .i64 0, .int .i64 0, .int .i64 0])])
 (.seq (.ops [o 13 (.fa 0 (t 7)),
 o 14 (.ld false 1 (t 13)),
 k 15 (.ca (.func 115) [(t 14)]),
 k 12 (.al 34 [.int .i64 0, .bool false, .int .i64 0, .int .i64 0, .int .i64 0, .int .i64 0]),
 kn (.st [] 6 (t 12) (t 15))])
 (.seq (.seq (.ops [o 16 (.ld true 6 (t 7)),
 k 17 (.ca (.func 109) [(t 16)]),
 o 18 (.mv (t 17)),
 og 19 18 false (.ld true 6 (t 8)),
 ⟨some 20, some (18, false), .ca (.func 109) [(t 19)]⟩,
 o 21 (.pick (t 18) (b true) (t 20))])
 (.cond (t 21)
 (.seq (.opq [o 22 (.ld true 6 (t 12)),
 o 23 (.ld true 6 (t 12)),
 kn (.st [12] 6 (t 10) (t 22)),
 kn (.st [] 6 (t 11) (t 23))])
 .ret)
 .skip))
 (.seq (.seq (.ops [o 24 (.mv (t 0)),
 o 25 (.bin .eql (t 24) (i 18))])
 (.cond (t 25)
 (.ops [o 27 (.ld true 6 (t 7)),
 o 28 (.ld true 6 (t 8)),
 o 29 (.mv (t 4)),
 k 30 (.ca (.func 120) [(t 27), (t 28), (t 29)]),
 o 26 (.mv (t 30)),
 o 31 (.ex (t 26) 0),
 o 32 (.ex (t 26) 1),
 kn (.st [] 6 (t 10) (t 31)),
 kn (.st [] 6 (t 11) (t 32))])
 (.ops [o 34 (.mv (t 1)),
 o 35 (.ld true 6 (t 7)),
 o 36 (.ld true 6 (t 8)),
 o 37 (.mv (t 4)),
 k 38 (.ca (.func 121) [(t 34), (t 35), (t 36), (t 37)]),
 o 33 (.mv (t 38)),
 o 39 (.ex (t 33) 0),
 o 40 (.ex (t 33) 1),
 kn (.st [] 6 (t 10) (t 39)),
 kn (.st [] 6 (t 11) (t 40))])))
 (.seq (.seq (.ops [o 41 (.ld true 6 (t 10)),
 k 42 (.ca (.func 109) [(t 41)]),
 o 43 (.mv (t 42)),
 og 44 43 false (.ld true 6 (t 11)),
 ⟨some 45, some (43, false), .ca (.func 109) [(t 44)]⟩,
 o 46 (.pick (t 43) (b true) (t 45))])
 (.cond (t 46)
 (.seq (.opq [o 47 (.ld true 6 (t 12)),
 o 48 (.ld true 6 (t 12)),
 kn (.st [12] 6 (t 10) (t 47)),
 kn (.st [] 6 (t 11) (t 48))])
 .ret)
 .skip))
 (.seq (.opq [o 49 (.ld true 6 (t 10)),
 o 50 (.ld true 6 (t 11)),
 kn (.st [11] 6 (t 10) (t 49)),
 kn (.st [] 6 (t 11) (t 50))])
 .ret))))))⟩
theorem e84 : slimF Try.prog Try.f84 [[(0, []), (1, []), (2, [12]), (3, [])], [(0, []), (1, []), (2, [12]), (3, [])], [(0, []), (1, []), (2, [11]), (3, [])]] = some c84 := by kernel_rfl
/-- cellar/cellarref1.see -/
def c85 : SF := ⟨12, [.t 4], (.seq (.ops [o 4 (.mv (i 0))])
 (.seq (.seq (.ops [o 5 (.mv (t 0)),
 k 6 (.ca (.func 87) [(t 5)])])
 (.cond (t 6)
 (.seq (.ops [o 7 (.mv (t 1)),
 o 8 (.mv (t 0)),
 k 9 (.ca (.func 46) [(t 8)]),
 k 10 (.ca (.func 122) [(t 7), (t 9)]),
 o 4 (.mv (t 10))])
 .ret)
 .skip))
 (.seq (.ops [o 11 (.mv (t 1)),
 o 4 (.mv (t 11))])
 .ret)))⟩
theorem e85 : slimF Try.prog Try.f85 [] = some c85 := by kernel_rfl
/-- cellar/cellarref1.Signed -/
def c87 : SF := ⟨13, [.t 2], (.seq (.ops [o 2 (.mv (b false))])
 (.seq (.ops [o 3 (.mv (t 0)),
 o 4 (.bin .eql (t 3) (i 2)),
 o 5 (.mv (t 4)),
 og 6 5 false (.mv (t 0)),
 og 7 5 false (.bin .eql (t 6) (i 4)),
 o 8 (.pick (t 5) (b true) (t 7)),
 o 9 (.mv (t 8)),
 og 10 9 false (.mv (t 0)),
 og 11 9 false (.bin .eql (t 10) (i 6)),
 o 12 (.pick (t 9) (b true) (t 11)),
 o 2 (.mv (t 12))])
 .ret))⟩
theorem e87 : slimF Try.prog Try.f87 [] = some c87 := by kernel_rfl
/-- cellar/cellarref1.truth -/
def c88 : SF := ⟨4, [.t 2], (.seq (.ops [o 2 (.mv (i 0))])
 (.seq (.seq (.ops [o 3 (.mv (t 0))])
 (.cond (t 3)
 (.seq (.ops [o 2 (.mv (i 1))])
 .ret)
 .skip))
 (.seq (.ops [o 2 (.mv (i 0))])
 .ret)))⟩
theorem e88 : slimF Try.prog Try.f88 [] = some c88 := by kernel_rfl
/-- cellar/cellarref1.No -/
def c89 : SF := ⟨5, [.c true 6 2], (.seq (.ops [k 2 (.al 34 [.int .i64 0, .bool false, .int .i64 0, .int .i64 0, .int .i64 0, .int .i64 0])])
 (.seq (.ops [o 3 (.mv (t 0)),
 o 4 (.bd [.int .i64 0, .bool false, .int .i64 0, .int .i64 0, .int .i64 0, .int .i64 0] [(0, 1, (t 3)), (1, 1, (b true))]),
 kn (.st [] 6 (t 2) (t 4))])
 .ret))⟩
theorem e89 : slimF Try.prog Try.f89 [] = some c89 := by kernel_rfl
/-- cellar/val.Just -/
def c100 : SF := ⟨10, [.c true 6 4], (.seq (.ops [k 4 (.al 34 [.int .i64 0, .bool false, .int .i64 0, .int .i64 0, .int .i64 0, .int .i64 0])])
 (.seq (.ops [o 5 (.mv (t 0)),
 o 6 (.mv (t 1)),
 o 7 (.mv (t 1)),
 o 8 (.mv (t 1)),
 o 9 (.bd [.int .i64 0, .bool false, .int .i64 0, .int .i64 0, .int .i64 0, .int .i64 0] [(0, 1, (t 5)), (2, 1, (t 6)), (3, 1, (t 7)), (5, 1, (t 8))]),
 kn (.st [] 6 (t 4) (t 9))])
 .ret))⟩
theorem e100 : slimF Try.prog Try.f100 [] = some c100 := by kernel_rfl
/-- cellar/word.Of -/
def c101 : SF := ⟨7, [.t 2], (.seq (.ops [o 2 (.mv (i 0))])
 (.seq (.ops [o 3 (.mv (t 0)),
 o 4 (.bin .sub (t 3) (i 1)),
 o 5 (.bin .quo (t 4) (i 2)),
 o 6 (.bin .shl (i 8) (t 5)),
 o 2 (.mv (t 6))])
 .ret))⟩
theorem e101 : slimF Try.prog Try.f101 [] = some c101 := by kernel_rfl
/-- cellar/val.Whole -/
def c102 : SF := ⟨9, [.c true 6 2], (.seq (.ops [k 2 (.al 34 [.int .i64 0, .bool false, .int .i64 0, .int .i64 0, .int .i64 0, .int .i64 0])])
 (.seq (.ops [o 3 (.mv (t 0)),
 o 4 (.mv (t 0)),
 k 5 (.ca (.func 137) [(t 4)]),
 o 6 (.mv (t 0)),
 k 7 (.ca (.func 137) [(t 6)]),
 o 8 (.bd [.int .i64 0, .bool false, .int .i64 0, .int .i64 0, .int .i64 0, .int .i64 0] [(0, 1, (t 3)), (3, 1, (t 5)), (4, 1, (t 7))]),
 kn (.st [] 6 (t 2) (t 8))])
 .ret))⟩
theorem e102 : slimF Try.prog Try.f102 [] = some c102 := by kernel_rfl
/-- cellar/val.Span -/
def c103 : SF := ⟨19, [.c true 6 6], (.seq (.ops [k 6 (.al 34 [.int .i64 0, .bool false, .int .i64 0, .int .i64 0, .int .i64 0, .int .i64 0])])
 (.seq (.seq (.ops [o 7 (.mv (t 1)),
 o 8 (.mv (t 2)),
 o 9 (.bin .eql (t 7) (t 8))])
 (.cond (t 9)
 (.seq (.ops [o 10 (.mv (t 0)),
 o 11 (.mv (t 1)),
 k 12 (.ca (.func 100) [(t 10), (t 11)]),
 kn (.st [] 6 (t 6) (t 12))])
 .ret)
 .skip))
 (.seq (.ops [o 13 (.mv (t 0)),
 o 14 (.mv (t 1)),
 o 15 (.mv (t 2)),
 o 16 (.mv (t 0)),
 k 17 (.ca (.func 137) [(t 16)]),
 o 18 (.bd [.int .i64 0, .bool false, .int .i64 0, .int .i64 0, .int .i64 0, .int .i64 0] [(0, 1, (t 13)), (2, 1, (t 14)), (3, 1, (t 15)), (4, 1, (t 17))]),
 kn (.st [] 6 (t 6) (t 18))])
 .ret)))⟩
theorem e103 : slimF Try.prog Try.f103 [] = some c103 := by kernel_rfl
/-- cellar/word.IsKind -/
def c104 : SF := ⟨9, [.t 2], (.seq (.ops [o 2 (.mv (b false))])
 (.seq (.ops [o 3 (.mv (t 0)),
 o 4 (.bin .geq (t 3) (i 1)),
 o 5 (.mv (t 4)),
 og 6 5 true (.mv (t 0)),
 og 7 5 true (.bin .leq (t 6) (i 6)),
 o 8 (.pick (t 5) (t 7) (b false)),
 o 2 (.mv (t 8))])
 .ret))⟩
theorem e104 : slimF Try.prog Try.f104 [] = some c104 := by kernel_rfl
/-- cellar/val.Void -/
def c109 : SF := ⟨6, [.t 2], (.seq (.ops [k 1 (.bx 34 (t 0)),
 o 2 (.mv (b false))])
 (.seq (.ops [o 3 (.ld true 6 (t 1)),
 k 4 (.ca (.func 140) [(t 3), (i 0)]),
 o 5 (.bin .lss (t 4) (i 0)),
 o 2 (.mv (t 5))])
 .ret))⟩
theorem e109 : slimF Try.prog Try.f109 [] = some c109 := by kernel_rfl
/-- cellar/val.Lone -/
def c110 : SF := ⟨21, [.t 2, .t 3], (.seq (.ops [k 1 (.bx 34 (t 0)),
 o 2 (.mv (i 0)),
 o 3 (.mv (b false))])
 (.seq (.ops [o 7 (.ld true 6 (t 1)),
 k 8 (.ca (.func 123) [(t 7), (i 1)]),
 o 6 (.mv (t 8)),
 o 9 (.ex (t 6) 0),
 o 10 (.ex (t 6) 1),
 o 4 (.mv (t 9)),
 o 5 (.mv (t 10))])
 (.seq (.seq (.ops [o 11 (.mv (t 5)),
 o 12 (.un .not (t 11)),
 o 13 (.mv (t 12)),
 og 14 13 false (.mv (t 4)),
 og 15 13 false (.ln (t 14)),
 og 16 13 false (.bin .eql (t 15) (i 0)),
 o 17 (.pick (t 13) (b true) (t 16))])
 (.cond (t 17)
 (.seq (.ops [o 2 (.mv (i 0)),
 o 3 (.mv (b false))])
 .ret)
 .skip))
 (.seq (.ops [o 18 (.mv (t 4)),
 o 19 (.ia 1 (t 18) (i 0)),
 o 20 (.ld false 1 (t 19)),
 o 2 (.mv (t 20)),
 o 3 (.mv (b true))])
 .ret))))⟩
theorem e110 : slimF Try.prog Try.f110 [] = some c110 := by kernel_rfl
/-- cellar/val.Holds -/
def c113 : SF := ⟨22, [.t 4], (.seq (.ops [k 2 (.bx 34 (t 0)),
 o 4 (.mv (b false))])
 (.seq (.ops [o 5 (.fa 1 (t 2)),
 o 6 (.ld false 1 (t 5)),
 o 7 (.un .not (t 6)),
 o 8 (.mv (t 7)),
 og 9 8 true (.mv (t 1)),
 og 10 8 true (.fa 4 (t 2)),
 og 11 8 true (.ld false 1 (t 10)),
 og 12 8 true (.bin .andNot (t 9) (t 11)),
 og 13 8 true (.fa 5 (t 2)),
 og 14 8 true (.ld false 1 (t 13)),
 og 15 8 true (.bin .eql (t 12) (t 14)),
 o 16 (.pick (t 8) (t 15) (b false)),
 o 17 (.mv (t 16)),
 og 18 17 true (.ld true 6 (t 2)),
 og 19 17 true (.mv (t 1)),
 ⟨some 20, some (17, true), .ca (.func 142) [(t 18), (t 19)]⟩,
 o 21 (.pick (t 17) (t 20) (b false)),
 o 4 (.mv (t 21))])
 .ret))⟩
theorem e113 : slimF Try.prog Try.f113 [] = some c113 := by kernel_rfl
/-- cellar/word.IsWidth -/
def c114 : SF := ⟨13, [.t 2], (.seq (.ops [o 2 (.mv (b false))])
 (.seq (.ops [o 3 (.mv (t 0)),
 o 4 (.bin .eql (t 3) (i 8)),
 o 5 (.mv (t 4)),
 og 6 5 false (.mv (t 0)),
 og 7 5 false (.bin .eql (t 6) (i 16)),
 o 8 (.pick (t 5) (b true) (t 7)),
 o 9 (.mv (t 8)),
 og 10 9 false (.mv (t 0)),
 og 11 9 false (.bin .eql (t 10) (i 32)),
 o 12 (.pick (t 9) (b true) (t 11)),
 o 2 (.mv (t 12))])
 .ret))⟩
theorem e114 : slimF Try.prog Try.f114 [] = some c114 := by kernel_rfl
/-- cellar/val.Nothing -/
def c115 : SF := ⟨5, [.c true 6 2], (.seq (.ops [k 2 (.al 34 [.int .i64 0, .bool false, .int .i64 0, .int .i64 0, .int .i64 0, .int .i64 0])])
 (.seq (.ops [o 3 (.mv (t 0)),
 o 4 (.bd [.int .i64 0, .bool false, .int .i64 0, .int .i64 0, .int .i64 0, .int .i64 0] [(0, 1, (t 3)), (1, 1, (b true))]),
 kn (.st [] 6 (t 2) (t 4))])
 .ret))⟩
theorem e115 : slimF Try.prog Try.f115 [] = some c115 := by kernel_rfl
/-- cellar/word.Is -/
def c116 : SF := ⟨13, [.t 4], (.seq (.ops [o 4 (.mv (b false))])
 (.seq (.ops [o 5 (.mv (t 0)),
 o 6 (.bin .geq (t 5) (i 0)),
 o 7 (.mv (t 6)),
 og 8 7 true (.mv (t 0)),
 og 9 7 true (.mv (t 1)),
 ⟨some 10, some (7, true), .ca (.func 137) [(t 9)]⟩,
 og 11 7 true (.bin .leq (t 8) (t 10)),
 o 12 (.pick (t 7) (t 11) (b false)),
 o 4 (.mv (t 12))])
 .ret))⟩
theorem e116 : slimF Try.prog Try.f116 [] = some c116 := by kernel_rfl
/-- cellar/val.Cross -/
def c117 : SF := ⟨63, [.c true 6 4], (.seq (.ops [k 2 (.bx 34 (t 0)),
 k 3 (.bx 34 (t 1)),
 k 4 (.al 34 [.int .i64 0, .bool false, .int .i64 0, .int .i64 0, .int .i64 0, .int .i64 0])])
 (.seq (.opd [o 8 (.ld true 6 (t 2)),
 o 10 (.ld true 6 (t 3)),
 k 9 (.ca (.func 143) [(t 8)]),
 k 11 (.ca (.func 143) [(t 10)]),
 kn (.st [] 6 (t 2) (t 9)),
 kn (.st [] 6 (t 3) (t 11))])
 (.seq (.seq (.ops [o 12 (.fa 1 (t 2)),
 o 13 (.ld false 1 (t 12)),
 o 14 (.mv (t 13)),
 og 15 14 false (.fa 1 (t 3)),
 og 16 14 false (.ld false 1 (t 15)),
 o 17 (.pick (t 14) (b true) (t 16)),
 o 18 (.mv (t 17)),
 og 19 18 false (.fa 5 (t 2)),
 og 20 18 false (.ld false 1 (t 19)),
 og 21 18 false (.fa 5 (t 3)),
 og 22 18 false (.ld false 1 (t 21)),
 og 23 18 false (.bin .xor (t 20) (t 22)),
 og 24 18 false (.fa 4 (t 2)),
 og 25 18 false (.ld false 1 (t 24)),
 og 26 18 false (.fa 4 (t 3)),
 og 27 18 false (.ld false 1 (t 26)),
 og 28 18 false (.bin .or (t 25) (t 27)),
 og 29 18 false (.bin .andNot (t 23) (t 28)),
 og 30 18 false (.bin .neq (t 29) (i 0)),
 o 31 (.pick (t 18) (b true) (t 30))])
 (.cond (t 31)
 (.seq (.ops [o 32 (.fa 0 (t 2)),
 o 33 (.ld false 1 (t 32)),
 k 34 (.ca (.func 115) [(t 33)]),
 kn (.st [] 6 (t 4) (t 34))])
 .ret)
 .skip))
 (.seq (.ops [o 36 (.ld true 6 (t 2)),
 o 37 (.ld true 6 (t 3)),
 k 38 (.ca (.func 144) [(t 36), (t 37)]),
 o 35 (.mv (t 38)),
 o 39 (.ex (t 35) 0),
 o 40 (.ex (t 35) 1),
 o 41 (.ex (t 35) 2),
 o 5 (.mv (t 39)),
 o 6 (.mv (t 40)),
 o 7 (.mv (t 41))])
 (.seq (.seq (.ops [o 42 (.mv (t 7)),
 o 43 (.un .not (t 42))])
 (.cond (t 43)
 (.seq (.ops [o 44 (.fa 0 (t 2)),
 o 45 (.ld false 1 (t 44)),
 k 46 (.ca (.func 115) [(t 45)]),
 kn (.st [] 6 (t 4) (t 46))])
 .ret)
 .skip))
 (.seq (.ops [o 47 (.fa 0 (t 2)),
 o 48 (.ld false 1 (t 47)),
 o 49 (.mv (t 5)),
 o 50 (.mv (t 6)),
 o 51 (.fa 4 (t 2)),
 o 52 (.ld false 1 (t 51)),
 o 53 (.fa 4 (t 3)),
 o 54 (.ld false 1 (t 53)),
 o 55 (.bin .and (t 52) (t 54)),
 o 56 (.fa 5 (t 2)),
 o 57 (.ld false 1 (t 56)),
 o 58 (.fa 5 (t 3)),
 o 59 (.ld false 1 (t 58)),
 o 60 (.bin .or (t 57) (t 59)),
 o 61 (.bd [.int .i64 0, .bool false, .int .i64 0, .int .i64 0, .int .i64 0, .int .i64 0] [(0, 1, (t 48)), (2, 1, (t 49)), (3, 1, (t 50)), (4, 1, (t 55)), (5, 1, (t 60))]),
 k 62 (.ca (.func 143) [(t 61)]),
 kn (.st [] 6 (t 4) (t 62))])
 .ret))))))⟩
theorem e117 : slimF Try.prog Try.f117 [[(0, []), (2, []), (1, []), (3, []), (4, []), (5, [])]] = some c117 := by kernel_rfl
/-- cellar/filter.without -/
def c118 : SF := ⟨20, [.c true 6 4], (.seq (.ops [k 2 (.bx 34 (t 0)),
 k 4 (.al 34 [.int .i64 0, .bool false, .int .i64 0, .int .i64 0, .int .i64 0, .int .i64 0])])
 (.seq (.ops [o 6 (.fa 0 (t 2)),
 o 7 (.ld false 1 (t 6)),
 o 5 (.mv (t 7))])
 (.seq (.opd [o 8 (.ld true 6 (t 2)),
 o 9 (.mv (t 5)),
 o 10 (.mv (t 1)),
 o 11 (.bin .add (t 10) (i 1)),
 o 12 (.mv (t 5)),
 o 14 (.mv (t 1)),
 o 15 (.bin .sub (t 14) (i 1)),
 o 16 (.mv (t 5)),
 k 13 (.ca (.func 145) [(t 11), (t 12)]),
 k 17 (.ca (.func 145) [(t 15), (t 16)]),
 k 18 (.ca (.func 103) [(t 9), (t 13), (t 17)]),
 k 19 (.ca (.func 117) [(t 8), (t 18)]),
 kn (.st [] 6 (t 4) (t 19))])
 .ret)))⟩
theorem e118 : slimF Try.prog Try.f118 [[(0, []), (1, []), (2, []), (3, []), (4, []), (6, []), (7, []), (8, []), (5, []), (9, []), (10, []), (11, []), (12, [])]] = some c118 := by kernel_rfl
/-- cellar/cellarref0.In -/
def c119 : SF := ⟨19, [.t 4], (.seq (.ops [o 4 (.mv (i 0))])
 (.seq (.seq (.ops [o 5 (.mv (i 0))])
 (.block 0 (.loop (.seq (.seq (.ops [o 6 (.mv (t 5)),
 o 7 (.mv (t 0)),
 o 8 (.ln (t 7)),
 o 9 (.bin .lss (t 6) (t 8))])
 (.cond (t 9)
 .skip
 (.exit 0)))
 (.seq (.block 1 (.seq (.ops [o 12 (.mv (t 0)),
 o 13 (.mv (t 5)),
 o 14 (.ia 1 (t 12) (t 13)),
 o 15 (.ld false 1 (t 14)),
 o 16 (.mv (t 1)),
 o 17 (.bin .eql (t 15) (t 16))])
 (.cond (t 17)
 (.seq (.ops [o 18 (.mv (t 5)),
 o 4 (.mv (t 18))])
 .ret)
 .skip)))
 (.ops [o 10 (.mv (t 5)),
 o 11 (.bin .add (t 10) (i 1)),
 o 5 (.mv (t 11))]))))))
 (.seq (.ops [o 4 (.mv (i (-1)))])
 .ret)))⟩
theorem e119 : slimF Try.prog Try.f119 [] = some c119 := by kernel_rfl
/-- cellar/filter.equal -/
def c120 : SF := ⟨43, [.c true 6 6, .c true 6 7], (.seq (.ops [k 3 (.bx 34 (t 0)),
 k 4 (.bx 34 (t 1)),
 k 6 (.al 34 [.int .i64 0, .bool false, .int .i64 0, .int .i64 0, .int .i64 0, .int .i64 0]),
 k 7 (.al 34 [.int .i64 0, .bool false, .int .i64 0, .int .i64 0, .int .i64 0, .int .i64 0])])
 (.seq (.seq (.ops [o 14 (.mv (t 2))])
 (.cond (t 14)
 (.seq (.opd [o 15 (.ld true 6 (t 3)),
 o 16 (.ld true 6 (t 4)),
 o 18 (.ld true 6 (t 4)),
 o 19 (.ld true 6 (t 3)),
 k 17 (.ca (.func 117) [(t 15), (t 16)]),
 k 20 (.ca (.func 117) [(t 18), (t 19)]),
 kn (.st [] 6 (t 6) (t 17)),
 kn (.st [] 6 (t 7) (t 20))])
 .ret)
 .skip))
 (.seq (.opq [o 21 (.ld true 6 (t 3)),
 o 22 (.ld true 6 (t 4)),
 k 8 (.al 34 [.int .i64 0, .bool false, .int .i64 0, .int .i64 0, .int .i64 0, .int .i64 0]),
 k 9 (.al 34 [.int .i64 0, .bool false, .int .i64 0, .int .i64 0, .int .i64 0, .int .i64 0]),
 kn (.st [4] 6 (t 8) (t 21)),
 kn (.st [] 6 (t 9) (t 22))])
 (.seq (.seq (.ops [o 24 (.ld true 6 (t 4)),
 k 25 (.ca (.func 110) [(t 24)]),
 o 23 (.mv (t 25)),
 o 26 (.ex (t 23) 0),
 o 27 (.ex (t 23) 1),
 o 10 (.mv (t 26)),
 o 11 (.mv (t 27))])
 (.seq (.ops [o 28 (.mv (t 11))])
 (.cond (t 28)
 (.ops [o 29 (.ld true 6 (t 3)),
 o 30 (.mv (t 10)),
 k 31 (.ca (.func 118) [(t 29), (t 30)]),
 kn (.st [] 6 (t 8) (t 31))])
 .skip)))
 (.seq (.seq (.ops [o 33 (.ld true 6 (t 3)),
 k 34 (.ca (.func 110) [(t 33)]),
 o 32 (.mv (t 34)),
 o 35 (.ex (t 32) 0),
 o 36 (.ex (t 32) 1),
 o 12 (.mv (t 35)),
 o 13 (.mv (t 36))])
 (.seq (.ops [o 37 (.mv (t 13))])
 (.cond (t 37)
 (.ops [o 38 (.ld true 6 (t 4)),
 o 39 (.mv (t 12)),
 k 40 (.ca (.func 118) [(t 38), (t 39)]),
 kn (.st [] 6 (t 9) (t 40))])
 .skip)))
 (.seq (.opq [o 41 (.ld true 6 (t 8)),
 o 42 (.ld true 6 (t 9)),
 kn (.st [9] 6 (t 6) (t 41)),
 kn (.st [] 6 (t 7) (t 42))])
 .ret))))))⟩
theorem e120 : slimF Try.prog Try.f120 [[(0, []), (1, []), (3, []), (4, []), (2, []), (5, []), (6, []), (7, [])], [(0, []), (1, []), (2, []), (3, []), (4, [4]), (5, [])], [(0, []), (1, []), (2, [9]), (3, [])]] = some c120 := by kernel_rfl
/-- cellar/filter.less -/
def c121 : SF := ⟨60, [.c true 6 8, .c true 6 9], (.seq (.ops [k 5 (.bx 34 (t 1)),
 k 6 (.bx 34 (t 2)),
 k 8 (.al 34 [.int .i64 0, .bool false, .int .i64 0, .int .i64 0, .int .i64 0, .int .i64 0]),
 k 9 (.al 34 [.int .i64 0, .bool false, .int .i64 0, .int .i64 0, .int .i64 0, .int .i64 0])])
 (.seq (.ops [o 17 (.mv (t 0)),
 k 18 (.ca (.func 146) [(t 17)]),
 o 16 (.mv (t 18)),
 o 19 (.ex (t 16) 0),
 o 20 (.ex (t 16) 1),
 o 10 (.mv (t 19)),
 o 11 (.mv (t 20))])
 (.seq (.ops [o 22 (.mv (t 0)),
 o 23 (.ld true 6 (t 5)),
 k 24 (.ca (.func 147) [(t 22), (t 23)]),
 o 21 (.mv (t 24)),
 o 25 (.ex (t 21) 0),
 o 26 (.ex (t 21) 1),
 o 12 (.mv (t 25)),
 o 13 (.mv (t 26))])
 (.seq (.ops [o 28 (.mv (t 0)),
 o 29 (.ld true 6 (t 6)),
 k 30 (.ca (.func 147) [(t 28), (t 29)]),
 o 27 (.mv (t 30)),
 o 31 (.ex (t 27) 0),
 o 32 (.ex (t 27) 1),
 o 14 (.mv (t 31)),
 o 15 (.mv (t 32))])
 (.seq (.seq (.ops [o 33 (.mv (t 3))])
 (.cond (t 33)
 (.seq (.opd [o 34 (.ld true 6 (t 5)),
 o 35 (.mv (t 0)),
 o 36 (.mv (t 10)),
 o 37 (.mv (t 15)),
 o 38 (.bin .sub (t 37) (i 1)),
 o 41 (.ld true 6 (t 6)),
 o 42 (.mv (t 0)),
 o 43 (.mv (t 12)),
 o 44 (.bin .add (t 43) (i 1)),
 o 45 (.mv (t 11)),
 k 39 (.ca (.func 148) [(t 35), (t 36), (t 38)]),
 k 40 (.ca (.func 117) [(t 34), (t 39)]),
 k 46 (.ca (.func 148) [(t 42), (t 44), (t 45)]),
 k 47 (.ca (.func 117) [(t 41), (t 46)]),
 kn (.st [] 6 (t 8) (t 40)),
 kn (.st [] 6 (t 9) (t 47))])
 .ret)
 .skip))
 (.seq (.opd [o 48 (.ld true 6 (t 5)),
 o 49 (.mv (t 0)),
 o 50 (.mv (t 14)),
 o 51 (.mv (t 11)),
 o 54 (.ld true 6 (t 6)),
 o 55 (.mv (t 0)),
 o 56 (.mv (t 10)),
 o 57 (.mv (t 13)),
 k 52 (.ca (.func 148) [(t 49), (t 50), (t 51)]),
 k 53 (.ca (.func 117) [(t 48), (t 52)]),
 k 58 (.ca (.func 148) [(t 55), (t 56), (t 57)]),
 k 59 (.ca (.func 117) [(t 54), (t 58)]),
 kn (.st [] 6 (t 8) (t 53)),
 kn (.st [] 6 (t 9) (t 59))])
 .ret))))))⟩
theorem e121 : slimF Try.prog Try.f121 [[(0, []), (1, []), (2, []), (3, []), (4, []), (7, []), (8, []), (9, []), (10, []), (11, []), (5, []), (6, []), (12, []), (13, []), (14, []), (15, [])], [(0, []), (1, []), (2, []), (3, []), (6, []), (7, []), (8, []), (9, []), (4, []), (5, []), (10, []), (11, []), (12, []), (13, [])]] = some c121 := by kernel_rfl
/-- cellar/cellarref1.View -/
def c122 : SF := ⟨15, [.t 4], (.seq (.ops [o 4 (.mv (i 0))])
 (.seq (.seq (.ops [o 5 (.mv (t 0)),
 o 6 (.mv (t 1)),
 o 7 (.bin .sub (t 6) (i 1)),
 o 8 (.bin .shl (i 1) (t 7)),
 o 9 (.bin .geq (t 5) (t 8))])
 (.cond (t 9)
 (.seq (.ops [o 10 (.mv (t 0)),
 o 11 (.mv (t 1)),
 o 12 (.bin .shl (i 1) (t 11)),
 o 13 (.bin .sub (t 10) (t 12)),
 o 4 (.mv (t 13))])
 .ret)
 .skip))
 (.seq (.ops [o 14 (.mv (t 0)),
 o 4 (.mv (t 14))])
 .ret)))⟩
theorem e122 : slimF Try.prog Try.f122 [] = some c122 := by kernel_rfl
/-- cellar/val.Members -/
def c123 : SF := ⟨24, [.t 4, .t 5], (.seq (.ops [k 2 (.bx 34 (t 0)),
 o 4 (.mv (.const (.slice none 0 0))),
 o 5 (.mv (b false))])
 (.seq (.seq (.ops [o 7 (.ld true 6 (t 2)),
 k 8 (.ca (.func 140) [(t 7), (i 0)]),
 o 6 (.mv (t 8))])
 (.block 0 (.loop (.seq (.seq (.ops [o 9 (.mv (t 6)),
 o 10 (.bin .geq (t 9) (i 0))])
 (.cond (t 10)
 .skip
 (.exit 0)))
 (.seq (.block 1 (.seq (.seq (.ops [o 15 (.mv (t 4)),
 o 16 (.ln (t 15)),
 o 17 (.mv (t 1)),
 o 18 (.bin .eql (t 16) (t 17))])
 (.cond (t 18)
 (.seq (.ops [o 4 (.mv (.const (.slice none 0 0))),
 o 5 (.mv (b false))])
 .ret)
 .skip))
 (.ops [o 19 (.mv (t 4)),
 o 20 (.mv (t 6)),
 k 21 (.bs 3 1 [.int .i64 0] [(0, 1, (t 20))]),
 k 22 (.ap 3 1 8 (t 19) (t 21)),
 o 4 (.mv (t 22))])))
 (.ops [o 11 (.ld true 6 (t 2)),
 o 12 (.mv (t 6)),
 o 13 (.bin .add (t 12) (i 1)),
 k 14 (.ca (.func 140) [(t 11), (t 13)]),
 o 6 (.mv (t 14))]))))))
 (.seq (.ops [o 23 (.mv (t 4)),
 o 4 (.mv (t 23)),
 o 5 (.mv (b true))])
 .ret)))⟩
theorem e123 : slimF Try.prog Try.f123 [] = some c123 := by kernel_rfl
/-- cellar/alu.Turn -/
def c124 : SF := ⟨13, [.t 6], (.seq (.ops [o 6 (.mv (i 0))])
 (.seq (.ops [o 7 (.mv (t 0)),
 o 8 (.mv (t 2)),
 k 9 (.ca (.func 149) [(t 7), (t 8)]),
 o 10 (.mv (t 1)),
 k 11 (.ca (.func 101) [(t 10)]),
 k 12 (.ca (.func 145) [(t 9), (t 11)]),
 o 6 (.mv (t 12))])
 .ret))⟩
theorem e124 : slimF Try.prog Try.f124 [] = some c124 := by kernel_rfl
/-- cellar/val.Both -/
def c125 : SF := ⟨55, [.c true 6 4], (.seq (.ops [k 2 (.bx 34 (t 0)),
 k 3 (.bx 34 (t 1)),
 k 4 (.al 34 [.int .i64 0, .bool false, .int .i64 0, .int .i64 0, .int .i64 0, .int .i64 0])])
 (.seq (.block 0 (.seq (.ops [o 9 (.ld true 6 (t 2)),
 k 10 (.ca (.func 109) [(t 9)]),
 o 8 (.mv (t 10))])
 (.cond (t 8)
 (.seq (.ops [o 11 (.ld true 6 (t 3)),
 k 12 (.ca (.func 143) [(t 11)]),
 kn (.st [] 6 (t 4) (t 12))])
 .ret)
 (.seq (.ops [o 14 (.ld true 6 (t 3)),
 k 15 (.ca (.func 109) [(t 14)]),
 o 13 (.mv (t 15))])
 (.cond (t 13)
 (.seq (.ops [o 16 (.ld true 6 (t 2)),
 k 17 (.ca (.func 143) [(t 16)]),
 kn (.st [] 6 (t 4) (t 17))])
 .ret)
 (.seq (.ops [o 19 (.ld true 6 (t 2)),
 o 20 (.ld true 6 (t 3)),
 o 21 (.eqs (.st [(false, 0, 1, .i), (false, 1, 1, .b), (false, 2, 1, .i), (false, 3, 1, .i), (false, 4, 1, .i), (false, 5, 1, .i)]) false (t 19) (t 20)),
 o 18 (.mv (t 21))])
 (.cond (t 18)
 (.seq (.ops [o 22 (.ld true 6 (t 2)),
 kn (.st [] 6 (t 4) (t 22))])
 .ret)
 .skip)))))))
 (.seq (.opd [o 23 (.ld true 6 (t 2)),
 o 25 (.ld true 6 (t 3)),
 k 24 (.ca (.func 143) [(t 23)]),
 k 26 (.ca (.func 143) [(t 25)]),
 kn (.st [] 6 (t 2) (t 24)),
 kn (.st [] 6 (t 3) (t 26))])
 (.seq (.ops [o 28 (.ld true 6 (t 2)),
 o 29 (.ld true 6 (t 3)),
 k 30 (.ca (.func 150) [(t 28), (t 29)]),
 o 27 (.mv (t 30)),
 o 31 (.ex (t 27) 0),
 o 32 (.ex (t 27) 1),
 o 5 (.mv (t 31)),
 o 6 (.mv (t 32))])
 (.seq (.ops [o 33 (.fa 4 (t 2)),
 o 34 (.ld false 1 (t 33)),
 o 35 (.fa 4 (t 3)),
 o 36 (.ld false 1 (t 35)),
 o 37 (.bin .or (t 34) (t 36)),
 o 38 (.fa 5 (t 2)),
 o 39 (.ld false 1 (t 38)),
 o 40 (.fa 5 (t 3)),
 o 41 (.ld false 1 (t 40)),
 o 42 (.bin .xor (t 39) (t 41)),
 o 43 (.bin .or (t 37) (t 42)),
 o 7 (.mv (t 43))])
 (.seq (.ops [o 44 (.fa 0 (t 2)),
 o 45 (.ld false 1 (t 44)),
 o 46 (.mv (t 5)),
 o 47 (.mv (t 6)),
 o 48 (.mv (t 7)),
 o 49 (.fa 5 (t 2)),
 o 50 (.ld false 1 (t 49)),
 o 51 (.mv (t 7)),
 o 52 (.bin .andNot (t 50) (t 51)),
 o 53 (.bd [.int .i64 0, .bool false, .int .i64 0, .int .i64 0, .int .i64 0, .int .i64 0] [(0, 1, (t 45)), (2, 1, (t 46)), (3, 1, (t 47)), (4, 1, (t 48)), (5, 1, (t 52))]),
 k 54 (.ca (.func 143) [(t 53)]),
 kn (.st [] 6 (t 4) (t 54))])
 .ret))))))⟩
theorem e125 : slimF Try.prog Try.f125 [[(0, []), (2, []), (1, []), (3, []), (4, []), (5, [])]] = some c125 := by kernel_rfl
/-- cellar/val.Under -/
def c130 : SF := ⟨62, [.t 4], (.seq (.ops [k 2 (.bx 34 (t 0)),
 k 3 (.bx 34 (t 1)),
 o 4 (.mv (b false))])
 (.seq (.seq (.opd [o 9 (.ld true 6 (t 2)),
 o 10 (.ld true 6 (t 3)),
 o 11 (.eqs (.st [(false, 0, 1, .i), (false, 1, 1, .b), (false, 2, 1, .i), (false, 3, 1, .i), (false, 4, 1, .i), (false, 5, 1, .i)]) false (t 9) (t 10)),
 o 12 (.mv (t 11)),
 og 13 12 false (.ld true 6 (t 3)),
 og 14 12 false (.fa 0 (t 3)),
 og 15 12 false (.ld false 1 (t 14)),
 ⟨some 16, some (12, false), .ca (.func 102) [(t 15)]⟩,
 og 17 12 false (.eqs (.st [(false, 0, 1, .i), (false, 1, 1, .b), (false, 2, 1, .i), (false, 3, 1, .i), (false, 4, 1, .i), (false, 5, 1, .i)]) false (t 13) (t 16)),
 o 18 (.pick (t 12) (b true) (t 17))])
 (.cond (t 18)
 (.seq (.ops [o 4 (.mv (b true))])
 .ret)
 .skip))
 (.seq (.seq (.ops [o 20 (.ld true 6 (t 2)),
 k 21 (.ca (.func 123) [(t 20), (i 16)]),
 o 19 (.mv (t 21)),
 o 22 (.ex (t 19) 0),
 o 23 (.ex (t 19) 1),
 o 5 (.mv (t 22)),
 o 6 (.mv (t 23))])
 (.seq (.ops [o 24 (.mv (t 6))])
 (.cond (t 24)
 (.seq (.seq (.ops [o 25 (.mv (t 5)),
 o 26 (.ln (t 25)),
 o 27 (.mv (i 0))])
 (.block 0 (.loop (.seq (.ops [o 28 (.bin .lss (t 27) (t 26))])
 (.seq (.cond (t 28)
 .skip
 (.exit 0))
 (.seq (.block 1 (.seq (.ops [o 29 (.ia 1 (t 25) (t 27)),
 o 30 (.ld false 1 (t 29)),
 o 8 (.mv (t 30))])
 (.seq (.ops [o 31 (.ld true 6 (t 3)),
 o 32 (.mv (t 8)),
 k 33 (.ca (.func 113) [(t 31), (t 32)]),
 o 34 (.un .not (t 33))])
 (.cond (t 34)
 (.seq (.ops [o 4 (.mv (b false))])
 .ret)
 .skip))))
 (.ops [o 35 (.bin .add (t 27) (i 1)),
 o 27 (.mv (t 35))])))))))
 (.seq (.ops [o 4 (.mv (b true))])
 .ret))
 .skip)))
 (.seq (.ops [o 36 (.fa 1 (t 3)),
 o 37 (.ld false 1 (t 36)),
 o 38 (.un .not (t 37)),
 o 39 (.mv (t 38)),
 og 40 39 true (.ld true 6 (t 2)),
 og 41 39 true (.ld true 6 (t 3)),
 ⟨some 42, some (39, true), .ca (.func 152) [(t 40), (t 41)]⟩,
 o 43 (.pick (t 39) (t 42) (b false)),
 o 44 (.mv (t 43)),
 og 45 44 true (.fa 4 (t 2)),
 og 46 44 true (.ld false 1 (t 45)),
 og 47 44 true (.fa 4 (t 3)),
 og 48 44 true (.ld false 1 (t 47)),
 og 49 44 true (.bin .andNot (t 46) (t 48)),
 og 50 44 true (.bin .eql (t 49) (i 0)),
 o 51 (.pick (t 44) (t 50) (b false)),
 o 52 (.mv (t 51)),
 og 53 52 true (.fa 5 (t 2)),
 og 54 52 true (.ld false 1 (t 53)),
 og 55 52 true (.fa 4 (t 3)),
 og 56 52 true (.ld false 1 (t 55)),
 og 57 52 true (.bin .andNot (t 54) (t 56)),
 og 58 52 true (.fa 5 (t 3)),
 og 59 52 true (.ld false 1 (t 58)),
 og 60 52 true (.bin .eql (t 57) (t 59)),
 o 61 (.pick (t 52) (t 60) (b false)),
 o 4 (.mv (t 61))])
 .ret))))⟩
theorem e130 : slimF Try.prog Try.f130 [[(0, []), (1, []), (2, []), (3, []), (4, []), (5, []), (6, []), (7, []), (8, []), (9, [])]] = some c130 := by kernel_rfl
/-- cellar/grow.Out -/
def c134 : SF := ⟨37, [.c true 6 4], (.seq (.ops [k 2 (.bx 34 (t 0)),
 k 3 (.bx 34 (t 1)),
 k 4 (.al 34 [.int .i64 0, .bool false, .int .i64 0, .int .i64 0, .int .i64 0, .int .i64 0])])
 (.seq (.block 0 (.seq (.ops [o 8 (.ld true 6 (t 3)),
 o 9 (.ld true 6 (t 2)),
 k 10 (.ca (.func 130) [(t 8), (t 9)]),
 o 7 (.mv (t 10))])
 (.cond (t 7)
 (.seq (.ops [o 11 (.ld true 6 (t 2)),
 kn (.st [] 6 (t 4) (t 11))])
 .ret)
 (.seq (.ops [o 13 (.ld true 6 (t 2)),
 k 14 (.ca (.func 109) [(t 13)]),
 o 12 (.mv (t 14))])
 (.cond (t 12)
 (.seq (.ops [o 15 (.ld true 6 (t 3)),
 kn (.st [] 6 (t 4) (t 15))])
 .ret)
 .skip)))))
 (.seq (.seq (.ops [o 16 (.fa 0 (t 2)),
 o 17 (.ld false 1 (t 16)),
 k 18 (.ca (.func 154) [(t 17)]),
 o 19 (.ln (t 18)),
 o 20 (.mv (i 0))])
 (.block 1 (.loop (.seq (.ops [o 21 (.bin .lss (t 20) (t 19))])
 (.seq (.cond (t 21)
 .skip
 (.exit 1))
 (.seq (.block 2 (.seq (.ops [o 22 (.ia 6 (t 18) (t 20)),
 o 23 (.ld true 6 (t 22)),
 k 6 (.al 34 [.int .i64 0, .bool false, .int .i64 0, .int .i64 0, .int .i64 0, .int .i64 0]),
 kn (.st [] 6 (t 6) (t 23))])
 (.seq (.ops [o 24 (.ld true 6 (t 2)),
 o 25 (.ld true 6 (t 6)),
 k 26 (.ca (.func 130) [(t 24), (t 25)]),
 o 27 (.mv (t 26)),
 og 28 27 true (.ld true 6 (t 3)),
 og 29 27 true (.ld true 6 (t 6)),
 ⟨some 30, some (27, true), .ca (.func 130) [(t 28), (t 29)]⟩,
 o 31 (.pick (t 27) (t 30) (b false))])
 (.cond (t 31)
 (.seq (.ops [o 32 (.ld true 6 (t 6)),
 kn (.st [] 6 (t 4) (t 32))])
 .ret)
 .skip))))
 (.ops [o 33 (.bin .add (t 20) (i 1)),
 o 20 (.mv (t 33))])))))))
 (.seq (.ops [o 34 (.fa 0 (t 2)),
 o 35 (.ld false 1 (t 34)),
 k 36 (.ca (.func 102) [(t 35)]),
 kn (.st [] 6 (t 4) (t 36))])
 .ret))))⟩
theorem e134 : slimF Try.prog Try.f134 [] = some c134 := by kernel_rfl
/-- cellar/word.Most -/
def c137 : SF := ⟨6, [.t 2], (.seq (.ops [o 2 (.mv (i 0))])
 (.seq (.ops [o 3 (.mv (t 0)),
 o 4 (.bin .shl (i 1) (t 3)),
 o 5 (.bin .sub (t 4) (i 1)),
 o 2 (.mv (t 5))])
 .ret))⟩
theorem e137 : slimF Try.prog Try.f137 [] = some c137 := by kernel_rfl
/-- cellar/val.From -/
def c140 : SF := ⟨44, [.t 4], (.seq (.ops [k 2 (.bx 34 (t 0)),
 o 4 (.mv (i 0))])
 (.seq (.seq (.ops [o 8 (.fa 1 (t 2)),
 o 9 (.ld false 1 (t 8)),
 o 10 (.mv (t 9)),
 og 11 10 false (.mv (t 1)),
 og 12 10 false (.fa 0 (t 2)),
 og 13 10 false (.ld false 1 (t 12)),
 ⟨some 14, some (10, false), .ca (.func 137) [(t 13)]⟩,
 og 15 10 false (.bin .gtr (t 11) (t 14)),
 o 16 (.pick (t 10) (b true) (t 15))])
 (.cond (t 16)
 (.seq (.ops [o 4 (.mv (i (-1)))])
 .ret)
 .skip))
 (.seq (.seq (.ops [o 17 (.ld true 6 (t 2)),
 k 18 (.ca (.func 155) [(t 17)]),
 o 19 (.ln (t 18)),
 o 20 (.mv (i 0))])
 (.block 0 (.loop (.seq (.ops [o 21 (.bin .lss (t 20) (t 19))])
 (.seq (.cond (t 21)
 .skip
 (.exit 0))
 (.seq (.block 1 (.seq (.ops [o 22 (.ia 2 (t 18) (t 20)),
 o 23 (.ld true 2 (t 22)),
 k 6 (.al 143 [.int .i64 0, .int .i64 0]),
 kn (.st [] 2 (t 6) (t 23))])
 (.seq (.seq (.ops [o 24 (.mv (t 1)),
 o 25 (.iaa 2 1 (t 6) (i 1)),
 o 26 (.ld false 1 (t 25)),
 o 27 (.bin .gtr (t 24) (t 26))])
 (.cond (t 27)
 (.exit 1)
 .skip))
 (.seq (.ops [o 28 (.ld true 6 (t 2)),
 o 29 (.mv (t 1)),
 o 30 (.iaa 2 1 (t 6) (i 0)),
 o 31 (.ld false 1 (t 30)),
 o 32 (.mx [(t 29), (t 31)]),
 k 33 (.ca (.func 156) [(t 28), (t 32)]),
 o 7 (.mv (t 33))])
 (.seq (.ops [o 34 (.mv (t 7)),
 o 35 (.bin .geq (t 34) (i 0)),
 o 36 (.mv (t 35)),
 og 37 36 true (.mv (t 7)),
 og 38 36 true (.iaa 2 1 (t 6) (i 1)),
 og 39 36 true (.ld false 1 (t 38)),
 og 40 36 true (.bin .leq (t 37) (t 39)),
 o 41 (.pick (t 36) (t 40) (b false))])
 (.cond (t 41)
 (.seq (.ops [o 42 (.mv (t 7)),
 o 4 (.mv (t 42))])
 .ret)
 .skip))))))
 (.ops [o 43 (.bin .add (t 20) (i 1)),
 o 20 (.mv (t 43))])))))))
 (.seq (.ops [o 4 (.mv (i (-1)))])
 .ret))))⟩
theorem e140 : slimF Try.prog Try.f140 [] = some c140 := by kernel_rfl
/-- cellar/val.within -/
def c142 : SF := ⟨30, [.t 4], (.seq (.ops [k 2 (.bx 34 (t 0)),
 o 4 (.mv (b false))])
 (.seq (.seq (.ops [o 5 (.fa 2 (t 2)),
 o 6 (.ld false 1 (t 5)),
 o 7 (.fa 3 (t 2)),
 o 8 (.ld false 1 (t 7)),
 o 9 (.bin .leq (t 6) (t 8))])
 (.cond (t 9)
 (.seq (.ops [o 10 (.mv (t 1)),
 o 11 (.fa 2 (t 2)),
 o 12 (.ld false 1 (t 11)),
 o 13 (.bin .geq (t 10) (t 12)),
 o 14 (.mv (t 13)),
 og 15 14 true (.mv (t 1)),
 og 16 14 true (.fa 3 (t 2)),
 og 17 14 true (.ld false 1 (t 16)),
 og 18 14 true (.bin .leq (t 15) (t 17)),
 o 19 (.pick (t 14) (t 18) (b false)),
 o 4 (.mv (t 19))])
 .ret)
 .skip))
 (.seq (.ops [o 20 (.mv (t 1)),
 o 21 (.fa 2 (t 2)),
 o 22 (.ld false 1 (t 21)),
 o 23 (.bin .geq (t 20) (t 22)),
 o 24 (.mv (t 23)),
 og 25 24 false (.mv (t 1)),
 og 26 24 false (.fa 3 (t 2)),
 og 27 24 false (.ld false 1 (t 26)),
 og 28 24 false (.bin .leq (t 25) (t 27)),
 o 29 (.pick (t 24) (b true) (t 28)),
 o 4 (.mv (t 29))])
 .ret)))⟩
theorem e142 : slimF Try.prog Try.f142 [] = some c142 := by kernel_rfl
/-- cellar/val.tidy -/
def c143 : SF := ⟨27, [.c true 6 2], (.seq (.ops [k 1 (.bx 34 (t 0)),
 k 2 (.al 34 [.int .i64 0, .bool false, .int .i64 0, .int .i64 0, .int .i64 0, .int .i64 0])])
 (.seq (.ops [o 6 (.ld true 6 (t 1)),
 k 7 (.ca (.func 123) [(t 6), (i 1)]),
 o 5 (.mv (t 7)),
 o 8 (.ex (t 5) 0),
 o 9 (.ex (t 5) 1),
 o 3 (.mv (t 8)),
 o 4 (.mv (t 9))])
 (.seq (.block 0 (.seq (.ops [o 11 (.mv (t 4)),
 o 12 (.un .not (t 11)),
 o 10 (.mv (t 12))])
 (.cond (t 10)
 (.seq (.ops [o 13 (.ld true 6 (t 1)),
 kn (.st [] 6 (t 2) (t 13))])
 .ret)
 (.seq (.ops [o 15 (.mv (t 3)),
 o 16 (.ln (t 15)),
 o 17 (.bin .eql (t 16) (i 0)),
 o 14 (.mv (t 17))])
 (.cond (t 14)
 (.seq (.ops [o 18 (.fa 0 (t 1)),
 o 19 (.ld false 1 (t 18)),
 k 20 (.ca (.func 115) [(t 19)]),
 kn (.st [] 6 (t 2) (t 20))])
 .ret)
 .skip)))))
 (.seq (.opq [o 21 (.fa 0 (t 1)),
 o 22 (.ld false 1 (t 21)),
 o 23 (.mv (t 3)),
 o 24 (.ia 1 (t 23) (i 0)),
 o 25 (.ld false 1 (t 24)),
 k 26 (.ca (.func 100) [(t 22), (t 25)]),
 kn (.st [] 6 (t 2) (t 26))])
 .ret))))⟩
theorem e143 : slimF Try.prog Try.f143 [[(0, []), (1, []), (2, []), (3, []), (4, []), (5, []), (6, [])]] = some c143 := by kernel_rfl
/-- cellar/val.cross -/
def c144 : SF := ⟨54, [.t 4, .t 5, .t 6], (.seq (.ops [k 2 (.bx 34 (t 0)),
 k 3 (.bx 34 (t 1)),
 o 4 (.mv (i 0)),
 o 5 (.mv (i 0)),
 o 6 (.mv (b false))])
 (.seq (.opd [o 9 (.ld true 6 (t 3)),
 o 10 (.fa 2 (t 2)),
 o 11 (.ld false 1 (t 10)),
 o 13 (.ld true 6 (t 3)),
 o 14 (.fa 3 (t 2)),
 o 15 (.ld false 1 (t 14)),
 k 12 (.ca (.func 142) [(t 9), (t 11)]),
 k 16 (.ca (.func 142) [(t 13), (t 15)]),
 o 7 (.mv (t 12)),
 o 8 (.mv (t 16))])
 (.seq (.block 0 (.seq (.ops [o 18 (.ld true 6 (t 2)),
 o 19 (.ld true 6 (t 3)),
 k 20 (.ca (.func 152) [(t 18), (t 19)]),
 o 17 (.mv (t 20))])
 (.cond (t 17)
 (.seq (.opq [o 21 (.fa 2 (t 2)),
 o 22 (.ld false 1 (t 21)),
 o 23 (.fa 3 (t 2)),
 o 24 (.ld false 1 (t 23)),
 o 4 (.mv (t 22)),
 o 5 (.mv (t 24)),
 o 6 (.mv (b true))])
 .ret)
 (.seq (.ops [o 26 (.ld true 6 (t 3)),
 o 27 (.ld true 6 (t 2)),
 k 28 (.ca (.func 152) [(t 26), (t 27)]),
 o 25 (.mv (t 28))])
 (.cond (t 25)
 (.seq (.opq [o 29 (.fa 2 (t 3)),
 o 30 (.ld false 1 (t 29)),
 o 31 (.fa 3 (t 3)),
 o 32 (.ld false 1 (t 31)),
 o 4 (.mv (t 30)),
 o 5 (.mv (t 32)),
 o 6 (.mv (b true))])
 .ret)
 (.seq (.ops [o 34 (.mv (t 7)),
 o 35 (.mv (t 34)),
 og 36 35 true (.mv (t 8)),
 o 37 (.pick (t 35) (t 36) (b false)),
 o 33 (.mv (t 37))])
 (.cond (t 33)
 (.seq (.opq [o 38 (.fa 2 (t 2)),
 o 39 (.ld false 1 (t 38)),
 o 40 (.fa 3 (t 2)),
 o 41 (.ld false 1 (t 40)),
 o 4 (.mv (t 39)),
 o 5 (.mv (t 41)),
 o 6 (.mv (b true))])
 .ret)
 (.seq (.ops [o 43 (.mv (t 7)),
 o 42 (.mv (t 43))])
 (.cond (t 42)
 (.seq (.opq [o 44 (.fa 2 (t 2)),
 o 45 (.ld false 1 (t 44)),
 o 46 (.fa 3 (t 3)),
 o 47 (.ld false 1 (t 46)),
 o 4 (.mv (t 45)),
 o 5 (.mv (t 47)),
 o 6 (.mv (b true))])
 .ret)
 (.seq (.ops [o 49 (.mv (t 8)),
 o 48 (.mv (t 49))])
 (.cond (t 48)
 (.seq (.opq [o 50 (.fa 2 (t 3)),
 o 51 (.ld false 1 (t 50)),
 o 52 (.fa 3 (t 2)),
 o 53 (.ld false 1 (t 52)),
 o 4 (.mv (t 51)),
 o 5 (.mv (t 53)),
 o 6 (.mv (b true))])
 .ret)
 .skip)))))))))))
 (.seq (.ops [o 4 (.mv (i 0)),
 o 5 (.mv (i 0)),
 o 6 (.mv (b false))])
 .ret))))⟩
theorem e144 : slimF Try.prog Try.f144 [[(0, []), (1, []), (2, []), (4, []), (5, []), (6, []), (3, []), (7, []), (8, []), (9, [])], [(0, []), (1, []), (2, []), (3, []), (4, []), (5, []), (6, [])], [(0, []), (1, []), (2, []), (3, []), (4, []), (5, []), (6, [])], [(0, []), (1, []), (2, []), (3, []), (4, []), (5, []), (6, [])], [(0, []), (1, []), (2, []), (3, []), (4, []), (5, []), (6, [])], [(0, []), (1, []), (2, []), (3, []), (4, []), (5, []), (6, [])]] = some c144 := by kernel_rfl
/-- cellar/word.Cut -/
def c145 : SF := ⟨9, [.t 4], (.seq (.ops [o 4 (.mv (i 0))])
 (.seq (.ops [o 5 (.mv (t 0)),
 o 6 (.mv (t 1)),
 k 7 (.ca (.func 137) [(t 6)]),
 o 8 (.bin .and (t 5) (t 7)),
 o 4 (.mv (t 8))])
 .ret))⟩
theorem e145 : slimF Try.prog Try.f145 [] = some c145 := by kernel_rfl
/-- cellar/alu.Most -/
def c146 : SF := ⟨18, [.t 2, .t 3], (.seq (.ops [o 2 (.mv (i 0)),
 o 3 (.mv (i 0))])
 (.seq (.ops [o 5 (.mv (t 0)),
 k 6 (.ca (.func 101) [(t 5)]),
 o 4 (.mv (t 6))])
 (.seq (.seq (.ops [o 7 (.mv (t 0)),
 k 8 (.ca (.func 157) [(t 7)])])
 (.cond (t 8)
 (.seq (.opq [o 9 (.mv (t 4)),
 o 10 (.bin .sub (t 9) (i 1)),
 o 11 (.bin .shl (i (-1)) (t 10)),
 o 12 (.mv (t 4)),
 o 13 (.bin .sub (t 12) (i 1)),
 o 14 (.bin .shl (i 1) (t 13)),
 o 15 (.bin .sub (t 14) (i 1)),
 o 2 (.mv (t 11)),
 o 3 (.mv (t 15))])
 .ret)
 .skip))
 (.seq (.ops [o 16 (.mv (t 4)),
 k 17 (.ca (.func 137) [(t 16)]),
 o 2 (.mv (i 0)),
 o 3 (.mv (t 17))])
 .ret))))⟩
theorem e146 : slimF Try.prog Try.f146 [[(0, []), (1, []), (2, []), (3, []), (4, []), (5, []), (6, []), (7, []), (8, [])]] = some c146 := by kernel_rfl
/-- cellar/maths.Seen -/
def c147 : SF := ⟨47, [.t 4, .t 5], (.seq (.ops [k 3 (.bx 34 (t 1)),
 o 4 (.mv (i 0)),
 o 5 (.mv (i 0))])
 (.seq (.seq (.ops [o 7 (.mv (t 0)),
 k 8 (.ca (.func 157) [(t 7)]),
 o 9 (.un .not (t 8))])
 (.cond (t 9)
 (.seq (.opd [o 10 (.ld true 6 (t 3)),
 o 12 (.ld true 6 (t 3)),
 o 13 (.fa 0 (t 3)),
 o 14 (.ld false 1 (t 13)),
 k 11 (.ca (.func 140) [(t 10), (i 0)]),
 k 15 (.ca (.func 137) [(t 14)]),
 k 16 (.ca (.func 158) [(t 12), (t 15)]),
 o 4 (.mv (t 11)),
 o 5 (.mv (t 16))])
 .ret)
 .skip))
 (.seq (.ops [o 17 (.fa 0 (t 3)),
 o 18 (.ld false 1 (t 17)),
 o 19 (.bin .sub (t 18) (i 1)),
 o 20 (.bin .shl (i 1) (t 19)),
 o 6 (.mv (t 20))])
 (.seq (.opd [o 21 (.ld true 6 (t 3)),
 o 22 (.mv (t 6)),
 o 24 (.ld true 6 (t 3)),
 o 25 (.mv (t 6)),
 o 26 (.bin .sub (t 25) (i 1)),
 k 23 (.ca (.func 140) [(t 21), (t 22)]),
 k 27 (.ca (.func 158) [(t 24), (t 26)]),
 o 4 (.mv (t 23)),
 o 5 (.mv (t 27))])
 (.seq (.seq (.ops [o 28 (.mv (t 4)),
 o 29 (.bin .lss (t 28) (i 0))])
 (.cond (t 29)
 (.ops [o 30 (.ld true 6 (t 3)),
 k 31 (.ca (.func 140) [(t 30), (i 0)]),
 o 4 (.mv (t 31))])
 .skip))
 (.seq (.seq (.ops [o 32 (.mv (t 5)),
 o 33 (.bin .lss (t 32) (i 0))])
 (.cond (t 33)
 (.opd [o 34 (.ld true 6 (t 3)),
 o 35 (.fa 0 (t 3)),
 o 36 (.ld false 1 (t 35)),
 k 37 (.ca (.func 137) [(t 36)]),
 k 38 (.ca (.func 158) [(t 34), (t 37)]),
 o 5 (.mv (t 38))])
 .skip))
 (.seq (.opd [o 39 (.mv (t 4)),
 o 40 (.fa 0 (t 3)),
 o 41 (.ld false 1 (t 40)),
 o 43 (.mv (t 5)),
 o 44 (.fa 0 (t 3)),
 o 45 (.ld false 1 (t 44)),
 k 42 (.ca (.func 159) [(t 39), (t 41)]),
 k 46 (.ca (.func 159) [(t 43), (t 45)]),
 o 4 (.mv (t 42)),
 o 5 (.mv (t 46))])
 .ret)))))))⟩
theorem e147 : slimF Try.prog Try.f147 [[(0, []), (2, []), (3, []), (4, []), (1, []), (5, []), (6, []), (7, []), (8, [])], [(0, []), (1, []), (3, []), (4, []), (5, []), (2, []), (6, []), (7, []), (8, [])], [(0, []), (1, []), (2, []), (3, []), (4, []), (5, [])], [(0, []), (1, []), (2, []), (4, []), (5, []), (6, []), (3, []), (7, []), (8, []), (9, [])]] = some c147 := by kernel_rfl
/-- cellar/filter.range1 -/
def c148 : SF := ⟨23, [.c true 6 6], (.seq (.ops [k 6 (.al 34 [.int .i64 0, .bool false, .int .i64 0, .int .i64 0, .int .i64 0, .int .i64 0])])
 (.seq (.ops [o 8 (.mv (t 0)),
 k 9 (.ca (.func 101) [(t 8)]),
 o 7 (.mv (t 9))])
 (.seq (.seq (.ops [o 10 (.mv (t 1)),
 o 11 (.mv (t 2)),
 o 12 (.bin .gtr (t 10) (t 11))])
 (.cond (t 12)
 (.seq (.ops [o 13 (.mv (t 7)),
 k 14 (.ca (.func 115) [(t 13)]),
 kn (.st [] 6 (t 6) (t 14))])
 .ret)
 .skip))
 (.seq (.ops [o 15 (.mv (t 7)),
 o 16 (.mv (t 1)),
 o 17 (.mv (t 7)),
 k 18 (.ca (.func 145) [(t 16), (t 17)]),
 o 19 (.mv (t 2)),
 o 20 (.mv (t 7)),
 k 21 (.ca (.func 145) [(t 19), (t 20)]),
 k 22 (.ca (.func 103) [(t 15), (t 18), (t 21)]),
 kn (.st [] 6 (t 6) (t 22))])
 .ret))))⟩
theorem e148 : slimF Try.prog Try.f148 [] = some c148 := by kernel_rfl
/-- cellar/word.Seen -/
def c149 : SF := ⟨12, [.t 4], (.seq (.ops [o 4 (.mv (i 0))])
 (.seq (.seq (.ops [o 5 (.mv (t 0)),
 k 6 (.ca (.func 157) [(t 5)])])
 (.cond (t 6)
 (.seq (.ops [o 7 (.mv (t 1)),
 o 8 (.mv (t 0)),
 k 9 (.ca (.func 101) [(t 8)]),
 k 10 (.ca (.func 159) [(t 7), (t 9)]),
 o 4 (.mv (t 10))])
 .ret)
 .skip))
 (.seq (.ops [o 11 (.mv (t 1)),
 o 4 (.mv (t 11))])
 .ret)))⟩
theorem e149 : slimF Try.prog Try.f149 [] = some c149 := by kernel_rfl
/-- cellar/val.cover -/
def c150 : SF := ⟨63, [.t 4, .t 5], (.seq (.ops [k 2 (.bx 34 (t 0)),
 k 3 (.bx 34 (t 1)),
 o 4 (.mv (i 0)),
 o 5 (.mv (i 0))])
 (.seq (.opd [o 12 (.fa 0 (t 2)),
 o 13 (.ld false 1 (t 12)),
 o 14 (.fa 0 (t 2)),
 o 15 (.ld false 1 (t 14)),
 k 16 (.ca (.func 137) [(t 15)]),
 o 17 (.bd [.int .i64 0, .bool false, .int .i64 0, .int .i64 0, .int .i64 0, .int .i64 0] [(0, 1, (t 13)), (3, 1, (t 16))]),
 k 6 (.al 34 [.int .i64 0, .bool false, .int .i64 0, .int .i64 0, .int .i64 0, .int .i64 0]),
 kn (.st [] 6 (t 6) (t 17))])
 (.seq (.seq (.ops [o 18 (.ld true 6 (t 2)),
 o 19 (.ld true 6 (t 3)),
 k 20 (.bs 34 2 [.int .i64 0, .bool false, .int .i64 0, .int .i64 0, .int .i64 0, .int .i64 0, .int .i64 0, .bool false, .int .i64 0, .int .i64 0, .int .i64 0, .int .i64 0] [(0, 6, (t 18)), (6, 6, (t 19))]),
 o 21 (.ln (t 20)),
 o 22 (.mv (i 0))])
 (.block 0 (.loop (.seq (.ops [o 23 (.bin .lss (t 22) (t 21))])
 (.seq (.cond (t 23)
 .skip
 (.exit 0))
 (.seq (.block 1 (.seq (.ops [o 24 (.ia 6 (t 20) (t 22)),
 o 25 (.ld true 6 (t 24)),
 k 8 (.al 34 [.int .i64 0, .bool false, .int .i64 0, .int .i64 0, .int .i64 0, .int .i64 0]),
 kn (.st [] 6 (t 8) (t 25))])
 (.seq (.ops [o 26 (.ld true 6 (t 2)),
 o 27 (.ld true 6 (t 3)),
 k 28 (.bs 34 2 [.int .i64 0, .bool false, .int .i64 0, .int .i64 0, .int .i64 0, .int .i64 0, .int .i64 0, .bool false, .int .i64 0, .int .i64 0, .int .i64 0, .int .i64 0] [(0, 6, (t 26)), (6, 6, (t 27))]),
 o 29 (.ln (t 28)),
 o 30 (.mv (i 0))])
 (.block 2 (.loop (.seq (.ops [o 31 (.bin .lss (t 30) (t 29))])
 (.seq (.cond (t 31)
 .skip
 (.exit 2))
 (.seq (.block 3 (.seq (.ops [o 32 (.ia 6 (t 28) (t 30)),
 o 33 (.ld true 6 (t 32)),
 k 10 (.al 34 [.int .i64 0, .bool false, .int .i64 0, .int .i64 0, .int .i64 0, .int .i64 0]),
 kn (.st [] 6 (t 10) (t 33))])
 (.seq (.ops [o 34 (.fa 0 (t 2)),
 o 35 (.ld false 1 (t 34)),
 o 36 (.fa 2 (t 8)),
 o 37 (.ld false 1 (t 36)),
 o 38 (.fa 3 (t 10)),
 o 39 (.ld false 1 (t 38)),
 o 40 (.bd [.int .i64 0, .bool false, .int .i64 0, .int .i64 0, .int .i64 0, .int .i64 0] [(0, 1, (t 35)), (2, 1, (t 37)), (3, 1, (t 39))]),
 k 11 (.al 34 [.int .i64 0, .bool false, .int .i64 0, .int .i64 0, .int .i64 0, .int .i64 0]),
 kn (.st [] 6 (t 11) (t 40))])
 (.seq (.opd [o 41 (.ld true 6 (t 2)),
 o 42 (.ld true 6 (t 11)),
 k 43 (.ca (.func 152) [(t 41), (t 42)]),
 o 44 (.mv (t 43)),
 og 45 44 true (.ld true 6 (t 3)),
 og 46 44 true (.ld true 6 (t 11)),
 ⟨some 47, some (44, true), .ca (.func 152) [(t 45), (t 46)]⟩,
 o 48 (.pick (t 44) (t 47) (b false)),
 o 49 (.mv (t 48)),
 og 50 49 true (.ld true 6 (t 11)),
 og 52 49 true (.ld true 6 (t 6)),
 ⟨some 51, some (49, true), .ca (.func 160) [(t 50)]⟩,
 ⟨some 53, some (49, true), .ca (.func 160) [(t 52)]⟩,
 og 54 49 true (.bin .lss (t 51) (t 53)),
 o 55 (.pick (t 49) (t 54) (b false))])
 (.cond (t 55)
 (.ops [o 56 (.ld true 6 (t 11)),
 kn (.st [] 6 (t 6) (t 56))])
 .skip)))))
 (.ops [o 57 (.bin .add (t 30) (i 1)),
 o 30 (.mv (t 57))])))))))))
 (.ops [o 58 (.bin .add (t 22) (i 1)),
 o 22 (.mv (t 58))])))))))
 (.seq (.opq [o 59 (.fa 2 (t 6)),
 o 60 (.ld false 1 (t 59)),
 o 61 (.fa 3 (t 6)),
 o 62 (.ld false 1 (t 61)),
 o 4 (.mv (t 60)),
 o 5 (.mv (t 62))])
 .ret))))⟩
theorem e150 : slimF Try.prog Try.f150 [[(0, []), (1, []), (2, []), (3, []), (4, []), (5, []), (6, []), (7, [])], [(0, []), (1, []), (2, []), (3, []), (4, []), (5, []), (6, []), (7, []), (8, []), (9, []), (11, []), (10, []), (12, []), (13, []), (14, [])], [(0, []), (1, []), (2, []), (3, []), (4, []), (5, [])]] = some c150 := by kernel_rfl
/-- cellar/val.inside -/
def c152 : SF := ⟨35, [.t 4], (.seq (.ops [k 2 (.bx 34 (t 0)),
 k 3 (.bx 34 (t 1)),
 o 4 (.mv (b false))])
 (.seq (.ops [o 6 (.fa 2 (t 2)),
 o 7 (.ld false 1 (t 6)),
 o 8 (.fa 2 (t 3)),
 o 9 (.ld false 1 (t 8)),
 o 10 (.bin .sub (t 7) (t 9)),
 o 11 (.fa 0 (t 2)),
 o 12 (.ld false 1 (t 11)),
 k 13 (.ca (.func 145) [(t 10), (t 12)]),
 o 5 (.mv (t 13))])
 (.seq (.opd [o 14 (.ld true 6 (t 3)),
 o 16 (.fa 0 (t 3)),
 o 17 (.ld false 1 (t 16)),
 k 15 (.ca (.func 160) [(t 14)]),
 k 18 (.ca (.func 137) [(t 17)]),
 o 19 (.bin .eql (t 15) (t 18)),
 o 20 (.mv (t 19)),
 og 21 20 false (.mv (t 5)),
 og 22 20 false (.ld true 6 (t 3)),
 ⟨some 23, some (20, false), .ca (.func 160) [(t 22)]⟩,
 og 24 20 false (.bin .leq (t 21) (t 23)),
 og 25 20 false (.mv (t 24)),
 og 26 25 true (.ld true 6 (t 2)),
 og 28 25 true (.ld true 6 (t 3)),
 og 30 25 true (.mv (t 5)),
 ⟨some 27, some (25, true), .ca (.func 160) [(t 26)]⟩,
 ⟨some 29, some (25, true), .ca (.func 160) [(t 28)]⟩,
 og 31 25 true (.bin .sub (t 29) (t 30)),
 og 32 25 true (.bin .leq (t 27) (t 31)),
 og 33 20 false (.pick (t 25) (t 32) (b false)),
 o 34 (.pick (t 20) (b true) (t 33)),
 o 4 (.mv (t 34))])
 .ret)))⟩
theorem e152 : slimF Try.prog Try.f152 [[(0, []), (2, []), (3, []), (1, []), (4, []), (5, []), (6, []), (7, []), (8, []), (9, []), (10, []), (11, []), (12, []), (14, []), (16, []), (13, []), (15, []), (17, []), (18, []), (19, []), (20, []), (21, [])]] = some c152 := by kernel_rfl
/-- cellar/grow.steps -/
def c154 : SF := ⟨37, [.t 2], (.seq (.ops [o 2 (.mv (.const (.slice none 0 0)))])
 (.seq (.seq (.ops [k 5 (.bs 3 7 [.int .i64 0, .int .i64 0, .int .i64 0, .int .i64 0, .int .i64 0, .int .i64 0, .int .i64 0] [(0, 1, (i 4)), (1, 1, (i 7)), (2, 1, (i 8)), (3, 1, (i 15)), (4, 1, (i 16)), (5, 1, (i 31)), (6, 1, (i 32))]),
 o 6 (.ln (t 5)),
 o 7 (.mv (i 0))])
 (.block 0 (.loop (.seq (.ops [o 8 (.bin .lss (t 7) (t 6))])
 (.seq (.cond (t 8)
 .skip
 (.exit 0))
 (.seq (.block 1 (.seq (.ops [o 9 (.ia 1 (t 5) (t 7)),
 o 10 (.ld false 1 (t 9)),
 o 4 (.mv (t 10))])
 (.seq (.seq (.ops [o 11 (.mv (t 4)),
 o 12 (.mv (t 0)),
 o 13 (.bin .geq (t 11) (t 12))])
 (.cond (t 13)
 (.exit 0)
 .skip))
 (.opq [o 14 (.mv (t 2)),
 o 15 (.mv (t 0)),
 o 16 (.mv (t 4)),
 o 17 (.bin .shl (i 1) (t 16)),
 o 18 (.bin .sub (t 17) (i 1)),
 o 20 (.mv (t 0)),
 o 21 (.mv (t 4)),
 o 22 (.bin .shl (i (-1)) (t 21)),
 o 23 (.mv (t 0)),
 o 25 (.mv (t 4)),
 o 26 (.bin .shl (i 1) (t 25)),
 o 27 (.bin .sub (t 26) (i 1)),
 k 19 (.ca (.func 103) [(t 15), (i 0), (t 18)]),
 k 24 (.ca (.func 145) [(t 22), (t 23)]),
 k 28 (.ca (.func 103) [(t 20), (t 24), (t 27)]),
 k 29 (.bs 34 2 [.int .i64 0, .bool false, .int .i64 0, .int .i64 0, .int .i64 0, .int .i64 0, .int .i64 0, .bool false, .int .i64 0, .int .i64 0, .int .i64 0, .int .i64 0] [(0, 6, (t 19)), (6, 6, (t 28))]),
 k 30 (.ap 34 6 48 (t 14) (t 29)),
 o 2 (.mv (t 30))]))))
 (.ops [o 31 (.bin .add (t 7) (i 1)),
 o 7 (.mv (t 31))])))))))
 (.seq (.ops [o 32 (.mv (t 2)),
 o 33 (.mv (t 0)),
 k 34 (.ca (.func 102) [(t 33)]),
 k 35 (.bs 34 1 [.int .i64 0, .bool false, .int .i64 0, .int .i64 0, .int .i64 0, .int .i64 0] [(0, 6, (t 34))]),
 k 36 (.ap 34 6 48 (t 32) (t 35)),
 o 2 (.mv (t 36))])
 .ret)))⟩
theorem e154 : slimF Try.prog Try.f154 [[(0, []), (1, []), (2, []), (3, []), (4, []), (6, []), (7, []), (8, []), (9, []), (11, []), (12, []), (13, []), (5, []), (10, []), (14, []), (15, []), (16, []), (17, [])]] = some c154 := by kernel_rfl
/-- cellar/val.parts -/
def c155 : SF := ⟨24, [.t 2], (.seq (.ops [k 1 (.bx 34 (t 0)),
 o 2 (.mv (.const (.slice none 0 0)))])
 (.seq (.seq (.ops [o 3 (.fa 2 (t 1)),
 o 4 (.ld false 1 (t 3)),
 o 5 (.fa 3 (t 1)),
 o 6 (.ld false 1 (t 5)),
 o 7 (.bin .leq (t 4) (t 6))])
 (.cond (t 7)
 (.seq (.ops [o 8 (.fa 2 (t 1)),
 o 9 (.ld false 1 (t 8)),
 o 10 (.fa 3 (t 1)),
 o 11 (.ld false 1 (t 10)),
 o 12 (.bd [.int .i64 0, .int .i64 0] [(0, 1, (t 9)), (1, 1, (t 11))]),
 k 13 (.bs 143 1 [.int .i64 0, .int .i64 0] [(0, 2, (t 12))]),
 o 2 (.mv (t 13))])
 .ret)
 .skip))
 (.seq (.opd [o 14 (.fa 3 (t 1)),
 o 15 (.ld false 1 (t 14)),
 o 16 (.bd [.int .i64 0, .int .i64 0] [(0, 1, (i 0)), (1, 1, (t 15))]),
 o 17 (.fa 2 (t 1)),
 o 18 (.ld false 1 (t 17)),
 o 19 (.fa 0 (t 1)),
 o 20 (.ld false 1 (t 19)),
 k 21 (.ca (.func 137) [(t 20)]),
 o 22 (.bd [.int .i64 0, .int .i64 0] [(0, 1, (t 18)), (1, 1, (t 21))]),
 k 23 (.bs 143 2 [.int .i64 0, .int .i64 0, .int .i64 0, .int .i64 0] [(0, 2, (t 16)), (2, 2, (t 22))]),
 o 2 (.mv (t 23))])
 .ret)))⟩
theorem e155 : slimF Try.prog Try.f155 [[(0, []), (1, []), (2, []), (3, []), (4, []), (5, []), (6, []), (7, []), (8, []), (9, []), (10, [])]] = some c155 := by kernel_rfl
/-- cellar/val.fill -/
def c156 : SF := ⟨54, [.t 4], (.seq (.ops [k 2 (.bx 34 (t 0)),
 o 4 (.mv (i 0))])
 (.seq (.seq (.ops [o 8 (.mv (t 1)),
 o 9 (.fa 4 (t 2)),
 o 10 (.ld false 1 (t 9)),
 o 11 (.bin .andNot (t 8) (t 10)),
 o 12 (.fa 5 (t 2)),
 o 13 (.ld false 1 (t 12)),
 o 14 (.bin .eql (t 11) (t 13))])
 (.cond (t 14)
 (.seq (.ops [o 15 (.mv (t 1)),
 o 4 (.mv (t 15))])
 .ret)
 .skip))
 (.seq (.seq (.ops [o 16 (.fa 0 (t 2)),
 o 17 (.ld false 1 (t 16)),
 o 18 (.mv (i 0))])
 (.block 0 (.loop (.seq (.ops [o 19 (.bin .lss (t 18) (t 17))])
 (.seq (.cond (t 19)
 .skip
 (.exit 0))
 (.seq (.block 1 (.seq (.ops [o 20 (.mv (t 18)),
 o 5 (.mv (t 20))])
 (.seq (.ops [o 21 (.mv (t 5)),
 o 22 (.bin .shl (i 1) (t 21)),
 o 6 (.mv (t 22))])
 (.seq (.seq (.ops [o 23 (.mv (t 1)),
 o 24 (.mv (t 6)),
 o 25 (.bin .and (t 23) (t 24)),
 o 26 (.bin .neq (t 25) (i 0))])
 (.cond (t 26)
 (.exit 1)
 .skip))
 (.seq (.ops [o 27 (.mv (t 1)),
 o 28 (.mv (t 6)),
 o 29 (.bin .sub (t 28) (i 1)),
 o 30 (.bin .andNot (t 27) (t 29)),
 o 31 (.mv (t 6)),
 o 32 (.bin .or (t 30) (t 31)),
 o 7 (.mv (t 32))])
 (.seq (.ops [o 33 (.mv (t 7)),
 o 34 (.fa 4 (t 2)),
 o 35 (.ld false 1 (t 34)),
 o 36 (.bin .andNot (t 33) (t 35)),
 o 37 (.mv (t 6)),
 o 38 (.bin .sub (t 37) (i 1)),
 o 39 (.bin .andNot (t 36) (t 38)),
 o 40 (.fa 5 (t 2)),
 o 41 (.ld false 1 (t 40)),
 o 42 (.mv (t 6)),
 o 43 (.bin .sub (t 42) (i 1)),
 o 44 (.bin .andNot (t 41) (t 43)),
 o 45 (.bin .eql (t 39) (t 44))])
 (.cond (t 45)
 (.seq (.ops [o 46 (.mv (t 7)),
 o 47 (.fa 5 (t 2)),
 o 48 (.ld false 1 (t 47)),
 o 49 (.mv (t 6)),
 o 50 (.bin .sub (t 49) (i 1)),
 o 51 (.bin .and (t 48) (t 50)),
 o 52 (.bin .or (t 46) (t 51)),
 o 4 (.mv (t 52))])
 .ret)
 .skip)))))))
 (.ops [o 53 (.bin .add (t 18) (i 1)),
 o 18 (.mv (t 53))])))))))
 (.seq (.ops [o 4 (.mv (i (-1)))])
 .ret))))⟩
theorem e156 : slimF Try.prog Try.f156 [] = some c156 := by kernel_rfl
/-- cellar/word.IsSigned -/
def c157 : SF := ⟨13, [.t 2], (.seq (.ops [o 2 (.mv (b false))])
 (.seq (.ops [o 3 (.mv (t 0)),
 o 4 (.bin .eql (t 3) (i 2)),
 o 5 (.mv (t 4)),
 og 6 5 false (.mv (t 0)),
 og 7 5 false (.bin .eql (t 6) (i 4)),
 o 8 (.pick (t 5) (b true) (t 7)),
 o 9 (.mv (t 8)),
 og 10 9 false (.mv (t 0)),
 og 11 9 false (.bin .eql (t 10) (i 6)),
 o 12 (.pick (t 9) (b true) (t 11)),
 o 2 (.mv (t 12))])
 .ret))⟩
theorem e157 : slimF Try.prog Try.f157 [] = some c157 := by kernel_rfl
/-- cellar/maths.last -/
def c158 : SF := ⟨43, [.t 4], (.seq (.ops [k 2 (.bx 34 (t 0)),
 o 4 (.mv (i 0))])
 (.seq (.ops [o 9 (.ld true 6 (t 2)),
 k 10 (.ca (.func 140) [(t 9), (i 0)]),
 o 11 (.mv (t 1)),
 o 12 (.bin .add (t 11) (i 1)),
 o 5 (.mv (t 10)),
 o 6 (.mv (t 12))])
 (.seq (.seq (.ops [o 13 (.mv (t 5)),
 o 14 (.bin .lss (t 13) (i 0)),
 o 15 (.mv (t 14)),
 og 16 15 false (.mv (t 5)),
 og 17 15 false (.mv (t 1)),
 og 18 15 false (.bin .gtr (t 16) (t 17)),
 o 19 (.pick (t 15) (b true) (t 18))])
 (.cond (t 19)
 (.seq (.ops [o 4 (.mv (i (-1)))])
 .ret)
 .skip))
 (.seq (.block 0 (.loop (.seq (.seq (.ops [o 20 (.mv (t 5)),
 o 21 (.bin .add (t 20) (i 1)),
 o 22 (.mv (t 6)),
 o 23 (.bin .lss (t 21) (t 22))])
 (.cond (t 23)
 .skip
 (.exit 0)))
 (.block 1 (.seq (.ops [o 24 (.mv (t 5)),
 o 25 (.mv (t 6)),
 o 26 (.mv (t 5)),
 o 27 (.bin .sub (t 25) (t 26)),
 o 28 (.bin .quo (t 27) (i 2)),
 o 29 (.bin .add (t 24) (t 28)),
 o 7 (.mv (t 29))])
 (.seq (.ops [o 30 (.ld true 6 (t 2)),
 o 31 (.mv (t 7)),
 k 32 (.ca (.func 140) [(t 30), (t 31)]),
 o 8 (.mv (t 32))])
 (.seq (.ops [o 33 (.mv (t 8)),
 o 34 (.bin .geq (t 33) (i 0)),
 o 35 (.mv (t 34)),
 og 36 35 true (.mv (t 8)),
 og 37 35 true (.mv (t 1)),
 og 38 35 true (.bin .leq (t 36) (t 37)),
 o 39 (.pick (t 35) (t 38) (b false))])
 (.cond (t 39)
 (.ops [o 40 (.mv (t 8)),
 o 5 (.mv (t 40))])
 (.ops [o 41 (.mv (t 7)),
 o 6 (.mv (t 41))])))))))))
 (.seq (.ops [o 42 (.mv (t 5)),
 o 4 (.mv (t 42))])
 .ret)))))⟩
theorem e158 : slimF Try.prog Try.f158 [] = some c158 := by kernel_rfl
/-- cellar/word.Look -/
def c159 : SF := ⟨15, [.t 4], (.seq (.ops [o 4 (.mv (i 0))])
 (.seq (.seq (.ops [o 5 (.mv (t 0)),
 o 6 (.mv (t 1)),
 o 7 (.bin .sub (t 6) (i 1)),
 o 8 (.bin .shl (i 1) (t 7)),
 o 9 (.bin .geq (t 5) (t 8))])
 (.cond (t 9)
 (.seq (.ops [o 10 (.mv (t 0)),
 o 11 (.mv (t 1)),
 o 12 (.bin .shl (i 1) (t 11)),
 o 13 (.bin .sub (t 10) (t 12)),
 o 4 (.mv (t 13))])
 .ret)
 .skip))
 (.seq (.ops [o 14 (.mv (t 0)),
 o 4 (.mv (t 14))])
 .ret)))⟩
theorem e159 : slimF Try.prog Try.f159 [] = some c159 := by kernel_rfl
/-- cellar/val.length -/
def c160 : SF := ⟨11, [.t 2], (.seq (.ops [k 1 (.bx 34 (t 0)),
 o 2 (.mv (i 0))])
 (.seq (.ops [o 3 (.fa 3 (t 1)),
 o 4 (.ld false 1 (t 3)),
 o 5 (.fa 2 (t 1)),
 o 6 (.ld false 1 (t 5)),
 o 7 (.bin .sub (t 4) (t 6)),
 o 8 (.fa 0 (t 1)),
 o 9 (.ld false 1 (t 8)),
 k 10 (.ca (.func 145) [(t 7), (t 9)]),
 o 2 (.mv (t 10))])
 .ret))⟩
theorem e160 : slimF Try.prog Try.f160 [] = some c160 := by kernel_rfl
end Go.Proofs.Try.S
