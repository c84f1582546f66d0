/- Parts K40to44: the machine's runs of small codes, contracts of functions, plain facts. -/
import Derived.Test.YtmaclakgkllojaaProg
import Derived.Test.YtmaclakgkllojaaK25to29
namespace Go.Proofs.Try.S
open Go Go.Ax Go.Ax.N
set_option maxRecDepth 100000

/-- cellar/abs.One -/
def c15 : SF := ⟨14, [.c true 7 4, .t 5], (.seq (.ops [k 3 (.bx 32 (t 1)),
 k 4 (.al 37 [.int .i64 0, .bool false, .int .i64 0, .int .i64 0, .int .i64 0, .int .i64 0, .slice none 0 0]),
 o 5 (.mv (i 0))])
 (.seq (.seq (.ops [o 6 (.mv (t 0)),
 o 7 (.ld true 4 (t 3)),
 k 8 (.ca (.func 60) [(t 6), (t 7)]),
 o 9 (.un .not (t 8))])
 (.cond (t 9)
 (.seq (.ops [o 10 (.bd [.int .i64 0, .bool false, .int .i64 0, .int .i64 0, .int .i64 0, .int .i64 0, .slice none 0 0] []),
 kn (.st [] 7 (t 4) (t 10)),
 o 5 (.mv (i 1))])
 .ret)
 .skip))
 (.seq (.ops [o 11 (.mv (t 0)),
 o 12 (.ld true 4 (t 3)),
 k 13 (.ca (.func 61) [(t 11), (t 12)]),
 kn (.st [] 7 (t 4) (t 13)),
 o 5 (.mv (i 0))])
 .ret)))⟩
theorem e15 : slimF Try.prog Try.f15 [] = some c15 := by kernel_rfl
/-- cellar/cellarref15.Scalar -/
def c16 : SF := ⟨13, [.t 4], (.seq (.ops [k 3 (.bx 32 (t 1)),
 o 4 (.mv (b false))])
 (.seq (.ops [o 5 (.mv (t 0)),
 o 6 (.ld true 4 (t 3)),
 k 7 (.ca (.func 58) [(t 5), (t 6)]),
 o 8 (.mv (t 7)),
 og 9 8 true (.fa 2 (t 3)),
 og 10 8 true (.ld false 1 (t 9)),
 og 11 8 true (.bin .leq (t 10) (i 6)),
 o 12 (.pick (t 8) (t 11) (b false)),
 o 4 (.mv (t 12))])
 .ret))⟩
theorem e16 : slimF Try.prog Try.f16 [] = some c16 := by kernel_rfl
/-- cellar/cellarlaw15.num -/
def c17 : SF := ⟨4, [.t 2], (.seq (.ops [o 2 (.mv (i 0))])
 (.seq (.ops [o 3 (.mv (t 0)),
 o 2 (.mv (t 3))])
 .ret))⟩
theorem e17 : slimF Try.prog Try.f17 [] = some c17 := by kernel_rfl
/-- cellar/cellarref15.Only -/
def c18 : SF := ⟨74, [.c true 4 4, .t 5], (.seq (.ops [k 3 (.bx 37 (t 1)),
 k 4 (.al 32 [.bool false, .int .i64 0, .int .i64 0, .int .i64 0]),
 o 5 (.mv (b false))])
 (.seq (.seq (.ops [o 13 (.mv (t 0)),
 o 14 (.bin .neq (t 13) (i 7))])
 (.cond (t 14)
 (.seq (.ops [o 16 (.fa 0 (t 3)),
 o 17 (.ld true 6 (t 16)),
 k 18 (.ca (.func 62) [(t 17)]),
 o 15 (.mv (t 18)),
 o 19 (.ex (t 15) 0),
 o 20 (.ex (t 15) 1),
 o 6 (.mv (t 19)),
 o 7 (.mv (t 20))])
 (.seq (.ops [o 21 (.mv (t 6)),
 o 22 (.bd [.bool false, .int .i64 0, .int .i64 0, .int .i64 0] [(1, 1, (t 21))]),
 o 23 (.mv (t 7)),
 kn (.st [] 4 (t 4) (t 22)),
 o 5 (.mv (t 23))])
 .ret))
 .skip))
 (.seq (.ops [k 8 (.al 32 [.bool false, .int .i64 0, .int .i64 0, .int .i64 0])])
 (.seq (.ops [o 9 (.mv (i 0))])
 (.seq (.seq (.ops [o 10 (.mv (i 0))])
 (.block 0 (.loop (.seq (.seq (.ops [o 24 (.mv (t 10)),
 o 25 (.fa 6 (t 3)),
 o 26 (.ld false 1 (t 25)),
 o 27 (.ln (t 26)),
 o 28 (.bin .lss (t 24) (t 27))])
 (.cond (t 28)
 .skip
 (.exit 0)))
 (.seq (.block 1 (.seq (.ops [o 31 (.fa 6 (t 3)),
 o 32 (.ld false 1 (t 31)),
 o 33 (.mv (t 10)),
 o 34 (.ia 7 (t 32) (t 33)),
 o 35 (.fa 1 (t 34)),
 o 36 (.ld true 6 (t 35)),
 k 37 (.ca (.func 41) [(t 36), (i 0)]),
 o 11 (.mv (t 37))])
 (.seq (.seq (.ops [o 38 (.mv (t 11)),
 o 39 (.bin .lss (t 38) (i 0)),
 o 40 (.mv (t 39)),
 og 41 40 false (.mv (t 11)),
 og 42 40 false (.bin .gtr (t 41) (i 32)),
 o 43 (.pick (t 40) (b true) (t 42))])
 (.cond (t 43)
 (.exit 1)
 .skip))
 (.seq (.ops [o 44 (.mv (t 9)),
 o 45 (.bin .add (t 44) (i 1)),
 o 9 (.mv (t 45))])
 (.seq (.ops [o 46 (.fa 6 (t 3)),
 o 47 (.ld false 1 (t 46)),
 o 48 (.mv (t 10)),
 o 49 (.ia 7 (t 47) (t 48)),
 o 50 (.fa 1 (t 49)),
 o 51 (.ld true 6 (t 50)),
 o 52 (.mv (t 11)),
 o 53 (.bin .add (t 52) (i 1)),
 k 54 (.ca (.func 41) [(t 51), (t 53)]),
 o 12 (.mv (t 54))])
 (.seq (.seq (.ops [o 55 (.mv (t 12)),
 o 56 (.bin .geq (t 55) (i 0)),
 o 57 (.mv (t 56)),
 og 58 57 true (.mv (t 12)),
 og 59 57 true (.bin .leq (t 58) (i 32)),
 o 60 (.pick (t 57) (t 59) (b false))])
 (.cond (t 60)
 (.ops [o 61 (.mv (t 9)),
 o 62 (.bin .add (t 61) (i 1)),
 o 9 (.mv (t 62))])
 .skip))
 (.ops [o 63 (.fa 6 (t 3)),
 o 64 (.ld false 1 (t 63)),
 o 65 (.mv (t 10)),
 o 66 (.ia 7 (t 64) (t 65)),
 o 67 (.fa 0 (t 66)),
 o 68 (.ld false 1 (t 67)),
 o 69 (.mv (t 11)),
 o 70 (.bd [.bool false, .int .i64 0, .int .i64 0, .int .i64 0] [(0, 1, (b true)), (2, 1, (t 68)), (3, 1, (t 69))]),
 kn (.st [] 4 (t 8) (t 70))])))))))
 (.ops [o 29 (.mv (t 10)),
 o 30 (.bin .add (t 29) (i 1)),
 o 10 (.mv (t 30))]))))))
 (.seq (.ops [o 71 (.ld true 4 (t 8)),
 o 72 (.mv (t 9)),
 o 73 (.bin .eql (t 72) (i 1)),
 kn (.st [] 4 (t 4) (t 71)),
 o 5 (.mv (t 73))])
 .ret))))))⟩
theorem e18 : slimF Try.prog Try.f18 [] = some c18 := by kernel_rfl
/-- cellar/cellarref15.Abs -/
def c19 : SF := ⟨39, [.t 4], (.seq (.ops [k 3 (.bx 37 (t 1)),
 o 4 (.mv (b false))])
 (.seq (.seq (.ops [o 6 (.mv (t 0)),
 o 7 (.bin .neq (t 6) (i 7))])
 (.cond (t 7)
 (.seq (.ops [o 8 (.mv (t 0)),
 k 9 (.ca (.func 46) [(t 8)]),
 o 5 (.mv (t 9))])
 (.seq (.ops [o 10 (.mv (t 5)),
 o 11 (.bin .gtr (t 10) (i 0)),
 o 12 (.mv (t 11)),
 og 13 12 true (.fa 0 (t 3)),
 og 14 12 true (.ld true 6 (t 13)),
 ⟨some 15, some (12, true), .ca (.func 36) [(t 14)]⟩,
 o 16 (.pick (t 12) (t 15) (b false)),
 o 17 (.mv (t 16)),
 og 18 17 true (.fa 0 (t 3)),
 og 19 17 true (.fa 0 (t 18)),
 og 20 17 true (.ld false 1 (t 19)),
 og 21 17 true (.mv (t 5)),
 og 22 17 true (.bin .eql (t 20) (t 21)),
 o 23 (.pick (t 17) (t 22) (b false)),
 o 24 (.mv (t 23)),
 og 25 24 true (.fa 6 (t 3)),
 og 26 24 true (.ld false 1 (t 25)),
 og 27 24 true (.ln (t 26)),
 og 28 24 true (.bin .eql (t 27) (i 0)),
 o 29 (.pick (t 24) (t 28) (b false)),
 o 4 (.mv (t 29))])
 .ret))
 .skip))
 (.seq (.ops [o 30 (.fa 0 (t 3)),
 o 31 (.ld true 6 (t 30)),
 o 32 (.bd [.int .i64 0, .bool false, .int .i64 0, .int .i64 0, .int .i64 0, .int .i64 0] []),
 o 33 (.eqs (.st [(false, 0, 1, .i), (false, 1, 1, .b), (false, 2, 1, .i), (false, 3, 1, .i), (false, 4, 1, .i), (false, 5, 1, .i)]) false (t 31) (t 32)),
 o 34 (.mv (t 33)),
 og 35 34 true (.fa 6 (t 3)),
 og 36 34 true (.ld false 1 (t 35)),
 ⟨some 37, some (34, true), .ca (.func 63) [(t 36)]⟩,
 o 38 (.pick (t 34) (t 37) (b false)),
 o 4 (.mv (t 38))])
 .ret)))⟩
theorem e19 : slimF Try.prog Try.f19 [] = some c19 := by kernel_rfl
/-- cellar/abs.All -/
def c20 : SF := ⟨21, [.c true 7 4, .t 5], (.seq (.ops [k 4 (.al 37 [.int .i64 0, .bool false, .int .i64 0, .int .i64 0, .int .i64 0, .int .i64 0, .slice none 0 0]),
 o 5 (.mv (i 0))])
 (.seq (.seq (.ops [o 6 (.mv (t 0)),
 k 7 (.ca (.func 64) [(t 6)]),
 o 8 (.un .not (t 7)),
 o 9 (.mv (t 8)),
 og 10 9 false (.mv (t 1)),
 og 11 9 false (.bin .lss (t 10) (i 0)),
 o 12 (.pick (t 9) (b true) (t 11)),
 o 13 (.mv (t 12)),
 og 14 13 false (.mv (t 1)),
 og 15 13 false (.bin .gtr (t 14) (i 6)),
 o 16 (.pick (t 13) (b true) (t 15))])
 (.cond (t 16)
 (.seq (.ops [o 17 (.bd [.int .i64 0, .bool false, .int .i64 0, .int .i64 0, .int .i64 0, .int .i64 0, .slice none 0 0] []),
 kn (.st [] 7 (t 4) (t 17)),
 o 5 (.mv (i 1))])
 .ret)
 .skip))
 (.seq (.ops [o 18 (.mv (t 0)),
 o 19 (.mv (t 1)),
 k 20 (.ca (.func 65) [(t 18), (t 19)]),
 kn (.st [] 7 (t 4) (t 20)),
 o 5 (.mv (i 0))])
 .ret)))⟩
theorem e20 : slimF Try.prog Try.f20 [] = some c20 := by kernel_rfl
/-- cellar/cellarref1.Kind -/
def c21 : SF := ⟨5, [.t 2], (.seq (.ops [o 2 (.mv (b false))])
 (.seq (.ops [o 3 (.mv (t 0)),
 k 4 (.ca (.func 66) [(t 3), (i 1), (i 7)]),
 o 2 (.mv (t 4))])
 .ret))⟩
theorem e21 : slimF Try.prog Try.f21 [] = some c21 := by kernel_rfl
/-- cellar/cellarref15.Has -/
def c23 : SF := ⟨21, [.t 6], (.seq (.ops [k 4 (.bx 37 (t 1)),
 k 5 (.bx 32 (t 2)),
 o 6 (.mv (b false))])
 (.seq (.seq (.ops [o 7 (.mv (t 0)),
 o 8 (.bin .neq (t 7) (i 7))])
 (.cond (t 8)
 (.seq (.ops [o 9 (.fa 0 (t 4)),
 o 10 (.ld true 6 (t 9)),
 o 11 (.fa 1 (t 5)),
 o 12 (.ld false 1 (t 11)),
 k 13 (.ca (.func 40) [(t 10), (t 12)]),
 o 6 (.mv (t 13))])
 .ret)
 .skip))
 (.seq (.ops [o 14 (.fa 6 (t 4)),
 o 15 (.ld false 1 (t 14)),
 o 16 (.fa 2 (t 5)),
 o 17 (.ld false 1 (t 16)),
 o 18 (.fa 3 (t 5)),
 o 19 (.ld false 1 (t 18)),
 k 20 (.ca (.func 67) [(t 15), (t 17), (t 19)]),
 o 6 (.mv (t 20))])
 .ret)))⟩
theorem e23 : slimF Try.prog Try.f23 [] = some c23 := by kernel_rfl
/-- cellar/cellarref7.Scalar -/
def c58 : SF := ⟨59, [.t 4], (.seq (.ops [k 3 (.bx 32 (t 1)),
 o 4 (.mv (b false))])
 (.seq (.seq (.ops [o 5 (.mv (t 0)),
 o 6 (.bin .eql (t 5) (i 7))])
 (.cond (t 6)
 (.seq (.ops [o 7 (.fa 0 (t 3)),
 o 8 (.ld false 1 (t 7)),
 o 9 (.mv (t 8)),
 og 10 9 true (.fa 1 (t 3)),
 og 11 9 true (.ld false 1 (t 10)),
 og 12 9 true (.bin .eql (t 11) (i 0)),
 o 13 (.pick (t 9) (t 12) (b false)),
 o 14 (.mv (t 13)),
 og 15 14 true (.fa 2 (t 3)),
 og 16 14 true (.ld false 1 (t 15)),
 ⟨some 17, some (14, true), .ca (.func 22) [(t 16), (i 32)]⟩,
 o 18 (.pick (t 14) (t 17) (b false)),
 o 19 (.mv (t 18)),
 og 20 19 true (.fa 3 (t 3)),
 og 21 19 true (.ld false 1 (t 20)),
 ⟨some 22, some (19, true), .ca (.func 22) [(t 21), (i 32)]⟩,
 o 23 (.pick (t 19) (t 22) (b false)),
 o 24 (.mv (t 23)),
 og 25 24 true (.fa 2 (t 3)),
 og 26 24 true (.ld false 1 (t 25)),
 og 27 24 true (.bin .gtr (t 26) (i 0)),
 og 28 24 true (.mv (t 27)),
 og 29 28 false (.fa 3 (t 3)),
 og 30 28 false (.ld false 1 (t 29)),
 og 31 28 false (.bin .eql (t 30) (i 0)),
 og 32 24 true (.pick (t 28) (b true) (t 31)),
 o 33 (.pick (t 24) (t 32) (b false)),
 o 4 (.mv (t 33))])
 .ret)
 .skip))
 (.seq (.opd [o 34 (.mv (t 0)),
 k 35 (.ca (.func 46) [(t 34)]),
 o 36 (.bin .gtr (t 35) (i 0)),
 o 37 (.mv (t 36)),
 og 38 37 true (.fa 0 (t 3)),
 og 39 37 true (.ld false 1 (t 38)),
 og 40 37 true (.un .not (t 39)),
 o 41 (.pick (t 37) (t 40) (b false)),
 o 42 (.mv (t 41)),
 og 43 42 true (.fa 2 (t 3)),
 og 44 42 true (.ld false 1 (t 43)),
 og 45 42 true (.bin .eql (t 44) (i 0)),
 o 46 (.pick (t 42) (t 45) (b false)),
 o 47 (.mv (t 46)),
 og 48 47 true (.fa 3 (t 3)),
 og 49 47 true (.ld false 1 (t 48)),
 og 50 47 true (.bin .eql (t 49) (i 0)),
 o 51 (.pick (t 47) (t 50) (b false)),
 o 52 (.mv (t 51)),
 og 53 52 true (.fa 1 (t 3)),
 og 54 52 true (.ld false 1 (t 53)),
 og 55 52 true (.mv (t 0)),
 ⟨some 56, some (52, true), .ca (.func 46) [(t 55)]⟩,
 ⟨some 57, some (52, true), .ca (.func 77) [(t 54), (t 56)]⟩,
 o 58 (.pick (t 52) (t 57) (b false)),
 o 4 (.mv (t 58))])
 .ret)))⟩
theorem e58 : slimF Try.prog Try.f58 [[(0, []), (1, []), (2, []), (3, []), (4, []), (5, []), (6, []), (7, []), (8, []), (9, []), (10, []), (11, []), (12, []), (13, []), (14, []), (15, []), (16, []), (17, []), (18, []), (19, []), (20, []), (21, []), (22, []), (23, []), (24, []), (25, [])]] = some c58 := by kernel_rfl
/-- cellar/abs.scalar -/
def c60 : SF := ⟨13, [.t 4], (.seq (.ops [k 3 (.bx 32 (t 1)),
 o 4 (.mv (b false))])
 (.seq (.ops [o 5 (.mv (t 0)),
 o 6 (.ld true 4 (t 3)),
 k 7 (.ca (.func 97) [(t 5), (t 6)]),
 o 8 (.mv (t 7)),
 og 9 8 true (.fa 2 (t 3)),
 og 10 8 true (.ld false 1 (t 9)),
 og 11 8 true (.bin .leq (t 10) (i 6)),
 o 12 (.pick (t 8) (t 11) (b false)),
 o 4 (.mv (t 12))])
 .ret))⟩
theorem e60 : slimF Try.prog Try.f60 [] = some c60 := by kernel_rfl
/-- cellar/abs.Just -/
def c61 : SF := ⟨18, [.c true 7 4], (.seq (.ops [k 3 (.bx 32 (t 1)),
 k 4 (.al 37 [.int .i64 0, .bool false, .int .i64 0, .int .i64 0, .int .i64 0, .int .i64 0, .slice none 0 0])])
 (.seq (.seq (.ops [o 5 (.mv (t 0)),
 o 6 (.bin .eql (t 5) (i 7))])
 (.cond (t 6)
 (.seq (.ops [o 7 (.fa 2 (t 3)),
 o 8 (.ld false 1 (t 7)),
 o 9 (.fa 3 (t 3)),
 o 10 (.ld false 1 (t 9)),
 k 11 (.ca (.func 98) [(t 8), (t 10)]),
 kn (.st [] 7 (t 4) (t 11))])
 .ret)
 .skip))
 (.seq (.opd [o 12 (.mv (t 0)),
 o 14 (.fa 1 (t 3)),
 o 15 (.ld false 1 (t 14)),
 k 13 (.ca (.func 101) [(t 12)]),
 k 16 (.ca (.func 100) [(t 13), (t 15)]),
 k 17 (.ca (.func 99) [(t 16)]),
 kn (.st [] 7 (t 4) (t 17))])
 .ret)))⟩
theorem e61 : slimF Try.prog Try.f61 [[(0, []), (2, []), (3, []), (1, []), (4, []), (5, []), (6, [])]] = some c61 := by kernel_rfl
/-- cellar/cellarref15.ptrs -/
def c63 : SF := ⟨68, [.t 2], (.seq (.ops [o 2 (.mv (b false))])
 (.seq (.seq (.ops [o 7 (.mv (t 0)),
 o 8 (.ln (t 7)),
 o 9 (.bin .gtr (t 8) (i 7))])
 (.cond (t 9)
 (.seq (.ops [o 2 (.mv (b false))])
 .ret)
 .skip))
 (.seq (.seq (.ops [o 3 (.mv (i 0))])
 (.block 0 (.loop (.seq (.seq (.ops [o 10 (.mv (t 3)),
 o 11 (.mv (t 0)),
 o 12 (.ln (t 11)),
 o 13 (.bin .lss (t 10) (t 12))])
 (.cond (t 13)
 .skip
 (.exit 0)))
 (.seq (.block 1 (.seq (.ops [o 16 (.mv (t 0)),
 o 17 (.mv (t 3)),
 o 18 (.ia 7 (t 16) (t 17)),
 o 19 (.ld true 7 (t 18)),
 k 4 (.al 87 [.int .i64 0, .int .i64 0, .bool false, .int .i64 0, .int .i64 0, .int .i64 0, .int .i64 0]),
 kn (.st [] 7 (t 4) (t 19))])
 (.seq (.seq (.opq [o 20 (.fa 0 (t 4)),
 o 21 (.ld false 1 (t 20)),
 k 22 (.ca (.func 22) [(t 21), (i 6)]),
 o 23 (.un .not (t 22)),
 o 24 (.mv (t 23)),
 og 25 24 false (.mv (t 3)),
 og 26 24 false (.bin .gtr (t 25) (i 0)),
 og 27 24 false (.mv (t 26)),
 og 28 27 true (.mv (t 0)),
 og 29 27 true (.mv (t 3)),
 og 30 27 true (.bin .sub (t 29) (i 1)),
 og 31 27 true (.ia 7 (t 28) (t 30)),
 og 32 27 true (.fa 0 (t 31)),
 og 33 27 true (.ld false 1 (t 32)),
 og 34 27 true (.fa 0 (t 4)),
 og 35 27 true (.ld false 1 (t 34)),
 og 36 27 true (.bin .geq (t 33) (t 35)),
 og 37 24 false (.pick (t 27) (t 36) (b false)),
 o 38 (.pick (t 24) (b true) (t 37)),
 o 39 (.mv (t 38)),
 og 40 39 false (.fa 1 (t 4)),
 og 41 39 false (.ld true 6 (t 40)),
 ⟨some 42, some (39, false), .ca (.func 36) [(t 41)]⟩,
 og 43 39 false (.un .not (t 42)),
 o 44 (.pick (t 39) (b true) (t 43)),
 o 45 (.mv (t 44)),
 og 46 45 false (.fa 1 (t 4)),
 og 47 45 false (.fa 0 (t 46)),
 og 48 45 false (.ld false 1 (t 47)),
 og 49 45 false (.bin .neq (t 48) (i 8)),
 o 50 (.pick (t 45) (b true) (t 49))])
 (.cond (t 50)
 (.seq (.ops [o 2 (.mv (b false))])
 .ret)
 .skip))
 (.seq (.ops [o 52 (.fa 1 (t 4)),
 o 53 (.ld true 6 (t 52)),
 k 54 (.ca (.func 62) [(t 53)]),
 o 51 (.mv (t 54)),
 o 55 (.ex (t 51) 0),
 o 56 (.ex (t 51) 1),
 o 5 (.mv (t 55)),
 o 6 (.mv (t 56))])
 (.seq (.ops [o 57 (.fa 0 (t 4)),
 o 58 (.ld false 1 (t 57)),
 o 59 (.bin .eql (t 58) (i 0)),
 o 60 (.mv (t 59)),
 og 61 60 true (.mv (t 6)),
 og 62 60 true (.un .not (t 61)),
 og 63 60 true (.mv (t 62)),
 og 64 63 false (.mv (t 5)),
 og 65 63 false (.bin .neq (t 64) (i 0)),
 og 66 60 true (.pick (t 63) (b true) (t 65)),
 o 67 (.pick (t 60) (t 66) (b false))])
 (.cond (t 67)
 (.seq (.ops [o 2 (.mv (b false))])
 .ret)
 .skip))))))
 (.ops [o 14 (.mv (t 3)),
 o 15 (.bin .add (t 14) (i 1)),
 o 3 (.mv (t 15))]))))))
 (.seq (.ops [o 2 (.mv (b true))])
 .ret))))⟩
theorem e63 : slimF Try.prog Try.f63 [[(0, []), (1, []), (2, []), (3, []), (4, []), (5, []), (6, []), (7, []), (8, []), (9, []), (10, []), (11, []), (12, []), (13, []), (14, []), (15, []), (16, []), (17, []), (18, []), (19, []), (20, []), (21, []), (22, []), (23, []), (24, []), (25, []), (26, []), (27, []), (28, []), (29, []), (30, [])]] = some c63 := by kernel_rfl
/-- cellar/word.IsScalar -/
def c64 : SF := ⟨9, [.t 2], (.seq (.ops [o 2 (.mv (b false))])
 (.seq (.ops [o 3 (.mv (t 0)),
 o 4 (.bin .geq (t 3) (i 1)),
 o 5 (.mv (t 4)),
 og 6 5 true (.mv (t 0)),
 og 7 5 true (.bin .leq (t 6) (i 7)),
 o 8 (.pick (t 5) (t 7) (b false)),
 o 2 (.mv (t 8))])
 .ret))⟩
theorem e64 : slimF Try.prog Try.f64 [] = some c64 := by kernel_rfl
/-- cellar/abs.Whole -/
def c65 : SF := ⟨29, [.c true 7 4], (.seq (.ops [k 4 (.al 37 [.int .i64 0, .bool false, .int .i64 0, .int .i64 0, .int .i64 0, .int .i64 0, .slice none 0 0])])
 (.seq (.seq (.ops [o 7 (.mv (t 0)),
 o 8 (.bin .neq (t 7) (i 7))])
 (.cond (t 8)
 (.seq (.ops [o 9 (.mv (t 0)),
 k 10 (.ca (.func 101) [(t 9)]),
 k 11 (.ca (.func 102) [(t 10)]),
 k 12 (.ca (.func 99) [(t 11)]),
 kn (.st [] 7 (t 4) (t 12))])
 .ret)
 .skip))
 (.seq (.ops [k 13 (.ca (.func 98) [(i 0), (i 0)]),
 k 5 (.al 37 [.int .i64 0, .bool false, .int .i64 0, .int .i64 0, .int .i64 0, .int .i64 0, .slice none 0 0]),
 kn (.st [] 7 (t 5) (t 13))])
 (.seq (.seq (.ops [o 14 (.mv (t 1)),
 o 15 (.mv (i 0))])
 (.block 0 (.loop (.seq (.ops [o 16 (.bin .lss (t 15) (t 14))])
 (.seq (.cond (t 16)
 .skip
 (.exit 0))
 (.seq (.block 1 (.seq (.ops [o 17 (.mv (t 15)),
 o 6 (.mv (t 17))])
 (.opd [o 18 (.fa 6 (t 5)),
 o 19 (.ld false 1 (t 18)),
 o 20 (.mv (t 6)),
 o 21 (.bin .add (t 20) (i 1)),
 k 22 (.ca (.func 103) [(i 8), (i 0), (i 32)]),
 o 23 (.bd [.int .i64 0, .int .i64 0, .bool false, .int .i64 0, .int .i64 0, .int .i64 0, .int .i64 0] [(0, 1, (t 21)), (1, 6, (t 22))]),
 k 24 (.bs 87 1 [.int .i64 0, .int .i64 0, .bool false, .int .i64 0, .int .i64 0, .int .i64 0, .int .i64 0] [(0, 7, (t 23))]),
 k 25 (.ap 87 7 56 (t 19) (t 24)),
 o 26 (.fa 6 (t 5)),
 kn (.st [] 1 (t 26) (t 25))])))
 (.ops [o 27 (.bin .add (t 15) (i 1)),
 o 15 (.mv (t 27))])))))))
 (.seq (.ops [o 28 (.ld true 7 (t 5)),
 kn (.st [] 7 (t 4) (t 28))])
 .ret)))))⟩
theorem e65 : slimF Try.prog Try.f65 [[(0, []), (1, []), (2, []), (3, []), (4, []), (5, []), (6, []), (7, []), (8, []), (9, [])]] = some c65 := by kernel_rfl
/-- cellar/cellarref15.points -/
def c67 : SF := ⟨30, [.t 6], (.seq (.ops [o 6 (.mv (b false))])
 (.seq (.seq (.ops [o 7 (.mv (i 0))])
 (.block 0 (.loop (.seq (.seq (.ops [o 8 (.mv (t 7)),
 o 9 (.mv (t 0)),
 o 10 (.ln (t 9)),
 o 11 (.bin .lss (t 8) (t 10))])
 (.cond (t 11)
 .skip
 (.exit 0)))
 (.seq (.block 1 (.seq (.ops [o 14 (.mv (t 0)),
 o 15 (.mv (t 7)),
 o 16 (.ia 7 (t 14) (t 15)),
 o 17 (.fa 0 (t 16)),
 o 18 (.ld false 1 (t 17)),
 o 19 (.mv (t 1)),
 o 20 (.bin .eql (t 18) (t 19)),
 o 21 (.mv (t 20)),
 og 22 21 true (.mv (t 0)),
 og 23 21 true (.mv (t 7)),
 og 24 21 true (.ia 7 (t 22) (t 23)),
 og 25 21 true (.fa 1 (t 24)),
 og 26 21 true (.ld true 6 (t 25)),
 og 27 21 true (.mv (t 2)),
 ⟨some 28, some (21, true), .ca (.func 40) [(t 26), (t 27)]⟩,
 o 29 (.pick (t 21) (t 28) (b false))])
 (.cond (t 29)
 (.seq (.ops [o 6 (.mv (b true))])
 .ret)
 .skip)))
 (.ops [o 12 (.mv (t 7)),
 o 13 (.bin .add (t 12) (i 1)),
 o 7 (.mv (t 13))]))))))
 (.seq (.ops [o 6 (.mv (b false))])
 .ret)))⟩
theorem e67 : slimF Try.prog Try.f67 [] = some c67 := by kernel_rfl
/-- cellar/abs.Holds -/
def c72 : SF := ⟨21, [.t 6], (.seq (.ops [k 4 (.bx 37 (t 1)),
 k 5 (.bx 32 (t 2)),
 o 6 (.mv (b false))])
 (.seq (.seq (.ops [o 7 (.mv (t 0)),
 o 8 (.bin .eql (t 7) (i 7))])
 (.cond (t 8)
 (.seq (.ops [o 9 (.fa 6 (t 4)),
 o 10 (.ld false 1 (t 9)),
 o 11 (.fa 2 (t 5)),
 o 12 (.ld false 1 (t 11)),
 o 13 (.fa 3 (t 5)),
 o 14 (.ld false 1 (t 13)),
 k 15 (.ca (.func 112) [(t 10), (t 12), (t 14)]),
 o 6 (.mv (t 15))])
 .ret)
 .skip))
 (.seq (.ops [o 16 (.fa 0 (t 4)),
 o 17 (.ld true 6 (t 16)),
 o 18 (.fa 1 (t 5)),
 o 19 (.ld false 1 (t 18)),
 k 20 (.ca (.func 113) [(t 17), (t 19)]),
 o 6 (.mv (t 20))])
 .ret)))⟩
theorem e72 : slimF Try.prog Try.f72 [] = some c72 := by kernel_rfl
/-- cellar/bytes.May -/
def c97 : SF := ⟨58, [.t 4], (.seq (.ops [k 3 (.bx 32 (t 1)),
 o 4 (.mv (b false))])
 (.seq (.block 0 (.seq (.ops [o 6 (.mv (t 0)),
 k 7 (.ca (.func 104) [(t 6)]),
 o 5 (.mv (t 7))])
 (.cond (t 5)
 (.seq (.opd [o 8 (.fa 0 (t 3)),
 o 9 (.ld false 1 (t 8)),
 o 10 (.un .not (t 9)),
 o 11 (.mv (t 10)),
 og 12 11 true (.fa 1 (t 3)),
 og 13 11 true (.ld false 1 (t 12)),
 og 14 11 true (.mv (t 0)),
 ⟨some 15, some (11, true), .ca (.func 101) [(t 14)]⟩,
 ⟨some 16, some (11, true), .ca (.func 116) [(t 13), (t 15)]⟩,
 o 17 (.pick (t 11) (t 16) (b false)),
 o 18 (.mv (t 17)),
 og 19 18 true (.fa 2 (t 3)),
 og 20 18 true (.ld false 1 (t 19)),
 og 21 18 true (.bin .eql (t 20) (i 0)),
 o 22 (.pick (t 18) (t 21) (b false)),
 o 23 (.mv (t 22)),
 og 24 23 true (.fa 3 (t 3)),
 og 25 23 true (.ld false 1 (t 24)),
 og 26 23 true (.bin .eql (t 25) (i 0)),
 o 27 (.pick (t 23) (t 26) (b false)),
 o 4 (.mv (t 27))])
 .ret)
 (.seq (.ops [o 29 (.mv (t 0)),
 o 30 (.bin .eql (t 29) (i 7)),
 o 28 (.mv (t 30))])
 (.cond (t 28)
 (.seq (.ops [o 31 (.fa 0 (t 3)),
 o 32 (.ld false 1 (t 31)),
 o 33 (.mv (t 32)),
 og 34 33 true (.fa 1 (t 3)),
 og 35 33 true (.ld false 1 (t 34)),
 og 36 33 true (.bin .eql (t 35) (i 0)),
 o 37 (.pick (t 33) (t 36) (b false)),
 o 38 (.mv (t 37)),
 og 39 38 true (.fa 2 (t 3)),
 og 40 38 true (.ld false 1 (t 39)),
 ⟨some 41, some (38, true), .ca (.func 136) [(t 40), (i 32)]⟩,
 o 42 (.pick (t 38) (t 41) (b false)),
 o 43 (.mv (t 42)),
 og 44 43 true (.fa 3 (t 3)),
 og 45 43 true (.ld false 1 (t 44)),
 ⟨some 46, some (43, true), .ca (.func 136) [(t 45), (i 32)]⟩,
 o 47 (.pick (t 43) (t 46) (b false)),
 o 48 (.mv (t 47)),
 og 49 48 true (.fa 2 (t 3)),
 og 50 48 true (.ld false 1 (t 49)),
 og 51 48 true (.bin .gtr (t 50) (i 0)),
 og 52 48 true (.mv (t 51)),
 og 53 52 false (.fa 3 (t 3)),
 og 54 52 false (.ld false 1 (t 53)),
 og 55 52 false (.bin .eql (t 54) (i 0)),
 og 56 48 true (.pick (t 52) (b true) (t 55)),
 o 57 (.pick (t 48) (t 56) (b false)),
 o 4 (.mv (t 57))])
 .ret)
 .skip)))))
 (.seq (.ops [o 4 (.mv (b false))])
 .ret)))⟩
theorem e97 : slimF Try.prog Try.f97 [[(0, []), (1, []), (2, []), (3, []), (4, []), (5, []), (6, []), (7, []), (8, []), (9, []), (10, []), (11, []), (12, []), (13, []), (14, []), (15, []), (16, []), (17, []), (18, []), (19, []), (20, [])]] = some c97 := by kernel_rfl
/-- cellar/abs.Point -/
def c98 : SF := ⟨11, [.c true 7 4], (.seq (.ops [k 4 (.al 37 [.int .i64 0, .bool false, .int .i64 0, .int .i64 0, .int .i64 0, .int .i64 0, .slice none 0 0])])
 (.seq (.ops [o 5 (.mv (t 0)),
 o 6 (.mv (t 1)),
 k 7 (.ca (.func 100) [(i 8), (t 6)]),
 o 8 (.bd [.int .i64 0, .int .i64 0, .bool false, .int .i64 0, .int .i64 0, .int .i64 0, .int .i64 0] [(0, 1, (t 5)), (1, 6, (t 7))]),
 k 9 (.bs 87 1 [.int .i64 0, .int .i64 0, .bool false, .int .i64 0, .int .i64 0, .int .i64 0, .int .i64 0] [(0, 7, (t 8))]),
 o 10 (.bd [.int .i64 0, .bool false, .int .i64 0, .int .i64 0, .int .i64 0, .int .i64 0, .slice none 0 0] [(6, 1, (t 9))]),
 kn (.st [] 7 (t 4) (t 10))])
 .ret))⟩
theorem e98 : slimF Try.prog Try.f98 [] = some c98 := by kernel_rfl
/-- cellar/abs.Num -/
def c99 : SF := ⟨5, [.c true 7 2], (.seq (.ops [k 1 (.bx 34 (t 0)),
 k 2 (.al 37 [.int .i64 0, .bool false, .int .i64 0, .int .i64 0, .int .i64 0, .int .i64 0, .slice none 0 0])])
 (.seq (.ops [o 3 (.ld true 6 (t 1)),
 o 4 (.bd [.int .i64 0, .bool false, .int .i64 0, .int .i64 0, .int .i64 0, .int .i64 0, .slice none 0 0] [(0, 6, (t 3))]),
 kn (.st [] 7 (t 2) (t 4))])
 .ret))⟩
theorem e99 : slimF Try.prog Try.f99 [] = some c99 := by kernel_rfl
/-- slices.ContainsFunc[[]cellar/api.Base,cellar/api.Base] -/
def c106 : SF := ⟨9, [.t 4], (.seq (.ops [o 4 (.mv (b false))])
 (.seq (.ops [o 5 (.mv (t 0)),
 o 6 (.mv (t 1)),
 k 7 (.ca (.func 139) [(t 5), (t 6)]),
 o 8 (.bin .geq (t 7) (i 0)),
 o 4 (.mv (t 8))])
 .ret))⟩
theorem e106 : slimF Try.prog Try.f106 [] = some c106 := by kernel_rfl
/-- cellar/abs.Points -/
def c112 : SF := ⟨14, [.t 6], (.seq (.ops [k 4 (.bx 3 (t 1)),
 k 5 (.bx 3 (t 2)),
 o 6 (.mv (b false))])
 (.seq (.ops [o 7 (.ld false 1 (t 5)),
 o 8 (.bin .leq (t 7) (i 32)),
 o 9 (.mv (t 8)),
 og 10 9 true (.mv (t 0)),
 og 11 9 true (.mf (.func 141) [] [(t 4), (t 5)]),
 ⟨some 12, some (9, true), .ca (.func 106) [(t 10), (t 11)]⟩,
 o 13 (.pick (t 9) (t 12) (b false)),
 o 6 (.mv (t 13))])
 .ret))⟩
theorem e112 : slimF Try.prog Try.f112 [] = some c112 := by kernel_rfl
/-- cellar/bytes.up -/
def c136 : SF := ⟨12, [.t 4], (.seq (.ops [o 4 (.mv (b false))])
 (.seq (.ops [o 5 (.mv (t 0)),
 o 6 (.bin .geq (t 5) (i 0)),
 o 7 (.mv (t 6)),
 og 8 7 true (.mv (t 0)),
 og 9 7 true (.mv (t 1)),
 og 10 7 true (.bin .leq (t 8) (t 9)),
 o 11 (.pick (t 7) (t 10) (b false)),
 o 4 (.mv (t 11))])
 .ret))⟩
theorem e136 : slimF Try.prog Try.f136 [] = some c136 := by kernel_rfl
/-- cellar/abs.base -/
def c138 : SF := ⟨41, [.t 2], (.seq (.ops [k 1 (.bx 87 (t 0)),
 o 2 (.mv (b false))])
 (.seq (.seq (.ops [o 5 (.fa 0 (t 1)),
 o 6 (.ld false 1 (t 5)),
 o 7 (.bin .lss (t 6) (i 0)),
 o 8 (.mv (t 7)),
 og 9 8 false (.fa 0 (t 1)),
 og 10 8 false (.ld false 1 (t 9)),
 og 11 8 false (.bin .gtr (t 10) (i 6)),
 o 12 (.pick (t 8) (b true) (t 11)),
 o 13 (.mv (t 12)),
 og 14 13 false (.fa 1 (t 1)),
 og 15 13 false (.fa 0 (t 14)),
 og 16 13 false (.ld false 1 (t 15)),
 og 17 13 false (.bin .neq (t 16) (i 8)),
 o 18 (.pick (t 13) (b true) (t 17)),
 o 19 (.mv (t 18)),
 og 20 19 false (.fa 1 (t 1)),
 og 21 19 false (.ld true 6 (t 20)),
 ⟨some 22, some (19, false), .ca (.func 74) [(t 21)]⟩,
 og 23 19 false (.un .not (t 22)),
 o 24 (.pick (t 19) (b true) (t 23))])
 (.cond (t 24)
 (.seq (.ops [o 2 (.mv (b false))])
 .ret)
 .skip))
 (.seq (.ops [o 26 (.fa 1 (t 1)),
 o 27 (.ld true 6 (t 26)),
 k 28 (.ca (.func 110) [(t 27)]),
 o 25 (.mv (t 28)),
 o 29 (.ex (t 25) 0),
 o 30 (.ex (t 25) 1),
 o 3 (.mv (t 29)),
 o 4 (.mv (t 30))])
 (.seq (.ops [o 31 (.fa 0 (t 1)),
 o 32 (.ld false 1 (t 31)),
 o 33 (.bin .gtr (t 32) (i 0)),
 o 34 (.mv (t 33)),
 og 35 34 false (.mv (t 4)),
 og 36 34 false (.mv (t 35)),
 og 37 36 true (.mv (t 3)),
 og 38 36 true (.bin .eql (t 37) (i 0)),
 og 39 34 false (.pick (t 36) (t 38) (b false)),
 o 40 (.pick (t 34) (b true) (t 39)),
 o 2 (.mv (t 40))])
 .ret))))⟩
theorem e138 : slimF Try.prog Try.f138 [] = some c138 := by kernel_rfl
/-- slices.IndexFunc[[]cellar/api.Base,cellar/api.Base] -/
def c139 : SF := ⟨19, [.t 4], (.seq (.ops [o 4 (.mv (i 0))])
 (.seq (.seq (.ops [o 6 (.mv (t 0)),
 o 7 (.ln (t 6)),
 o 8 (.mv (i 0))])
 (.block 0 (.loop (.seq (.ops [o 9 (.bin .lss (t 8) (t 7))])
 (.seq (.cond (t 9)
 .skip
 (.exit 0))
 (.seq (.block 1 (.seq (.ops [o 10 (.mv (t 8)),
 o 5 (.mv (t 10))])
 (.seq (.ops [o 11 (.mv (t 1)),
 o 12 (.mv (t 0)),
 o 13 (.mv (t 5)),
 o 14 (.ia 7 (t 12) (t 13)),
 o 15 (.ld true 7 (t 14)),
 k 16 (.ca (t 11) [(t 15)])])
 (.cond (t 16)
 (.seq (.ops [o 17 (.mv (t 5)),
 o 4 (.mv (t 17))])
 .ret)
 .skip))))
 (.ops [o 18 (.bin .add (t 8) (i 1)),
 o 8 (.mv (t 18))])))))))
 (.seq (.ops [o 4 (.mv (i (-1)))])
 .ret)))⟩
theorem e139 : slimF Try.prog Try.f139 [] = some c139 := by kernel_rfl
/-- cellar/abs.Points$1 -/
def c141 : SF := ⟨15, [.t 4], (.seq (.ops [k 3 (.bx 87 (t 0)),
 o 4 (.mv (b false))])
 (.seq (.ops [o 5 (.fa 0 (t 3)),
 o 6 (.ld false 1 (t 5)),
 o 7 (.ld false 1 (t 1)),
 o 8 (.bin .eql (t 6) (t 7)),
 o 9 (.mv (t 8)),
 og 10 9 true (.fa 1 (t 3)),
 og 11 9 true (.ld true 6 (t 10)),
 og 12 9 true (.ld false 1 (t 2)),
 ⟨some 13, some (9, true), .ca (.func 113) [(t 11), (t 12)]⟩,
 o 14 (.pick (t 9) (t 13) (b false)),
 o 4 (.mv (t 14))])
 .ret))⟩
theorem e141 : slimF Try.prog Try.f141 [] = some c141 := by kernel_rfl
end Go.Proofs.Try.S
/- Contracts: which scalars may be; sets of one, of all. -/
namespace Go.Proofs.Try.K
open Go Go.Ax Go.Proofs.Try.S
set_option maxRecDepth 100000
set_option linter.unusedSimpArgs false
set_option linter.unusedVariables false
variable (F : Fz) (M : Hp)

theorem k17 (n : Int) : CallsA Try.prog 17 [.int .i64 n] F M (Same F M (.int .i64 n)) := by
  refine callsA_of hm Try.func17 e17 (Nat.le_of_ble_eq_true rfl) ?_
  simp only [c17, go_sem, reduceCtorEq, reduceIte, Nat.reduceEqDiff, Nat.reduceAdd, Nat.reduceLeDiff, Nat.reduceMul, Int.reduceLT, Int.reduceLE, Int.reduceAdd, Int.reduceSub, Int.reduceMul, Int.reduceNeg, Int.reduceToNat, Int.reduceEq]
  exact endK_same ⟨rfl, rfl, rfl⟩
theorem k64 (k : Int) : CallsA Try.prog 64 [.int .i64 k] F M (Same F M (.bool (isS k))) := by
  refine callsA_of hm Try.func64 e64 (Nat.le_of_ble_eq_true rfl) ?_
  by_cases h1 : 1 ≤ k
  · simp only [c64, go_sem, reduceCtorEq, reduceIte, Nat.reduceEqDiff, Nat.reduceAdd, Nat.reduceLeDiff, Nat.reduceMul, Int.reduceLT, Int.reduceLE, Int.reduceAdd, Int.reduceSub, Int.reduceMul, Int.reduceNeg, Int.reduceToNat, Int.reduceEq, h1]
    exact endK_same ⟨by simp [isS, h1], rfl, rfl⟩
  · simp only [c64, go_sem, reduceCtorEq, reduceIte, Nat.reduceEqDiff, Nat.reduceAdd, Nat.reduceLeDiff, Nat.reduceMul, Int.reduceLT, Int.reduceLE, Int.reduceAdd, Int.reduceSub, Int.reduceMul, Int.reduceNeg, Int.reduceToNat, Int.reduceEq, h1]
    exact endK_same ⟨by simp [isS, h1], rfl, rfl⟩
theorem k21 (k : Int) : CallsA Try.prog 21 [.int .i64 k] F M (Same F M (.bool (isS k))) := by
  refine callsA_of hm Try.func21 e21 (Nat.le_of_ble_eq_true rfl) ?_
  simp only [c21, go_sem, reduceCtorEq, reduceIte, Nat.reduceEqDiff, Nat.reduceAdd, Nat.reduceLeDiff, Nat.reduceMul, Int.reduceLT, Int.reduceLE, Int.reduceAdd, Int.reduceSub, Int.reduceMul, Int.reduceNeg, Int.reduceToNat, Int.reduceEq]
  refine callK_same (k66 _ _ k 1 7) ?_
  simp only [go_sem, reduceCtorEq, reduceIte, Nat.reduceEqDiff, Nat.reduceAdd, Nat.reduceLeDiff, Nat.reduceMul, Int.reduceLT, Int.reduceLE, Int.reduceAdd, Int.reduceSub, Int.reduceMul, Int.reduceNeg, Int.reduceToNat, Int.reduceEq]
  exact endK_same ⟨rfl, rfl, rfl⟩
theorem k136 (n m : Int) : CallsA Try.prog 136 [.int .i64 n, .int .i64 m] F M (Same F M (.bool (decide (0 ≤ n) && decide (n ≤ m)))) := by
  refine callsA_of hm Try.func136 e136 (Nat.le_of_ble_eq_true rfl) ?_
  by_cases h1 : 0 ≤ n
  · simp only [c136, go_sem, reduceCtorEq, reduceIte, Nat.reduceEqDiff, Nat.reduceAdd, Nat.reduceLeDiff, Nat.reduceMul, Int.reduceLT, Int.reduceLE, Int.reduceAdd, Int.reduceSub, Int.reduceMul, Int.reduceNeg, Int.reduceToNat, Int.reduceEq, h1]
    exact endK_same ⟨by simp [h1], rfl, rfl⟩
  · simp only [c136, go_sem, reduceCtorEq, reduceIte, Nat.reduceEqDiff, Nat.reduceAdd, Nat.reduceLeDiff, Nat.reduceMul, Int.reduceLT, Int.reduceLE, Int.reduceAdd, Int.reduceSub, Int.reduceMul, Int.reduceNeg, Int.reduceToNat, Int.reduceEq, h1]
    exact endK_same ⟨by simp [h1], rfl, rfl⟩
theorem not_isK7 : isK 7 = false := by decide
theorem k97 (k : Int) (s : Sc) : CallsA Try.prog 97 [.int .i64 k, s.val] F M (Same F M (.bool (scB k s))) := by
  refine callsA_of hm Try.func97 e97 (Nat.le_of_ble_eq_true rfl) ?_
  simp only [c97, go_sem, reduceCtorEq, reduceIte, Nat.reduceEqDiff, Nat.reduceAdd, Nat.reduceLeDiff, Nat.reduceMul, Int.reduceLT, Int.reduceLE, Int.reduceAdd, Int.reduceSub, Int.reduceMul, Int.reduceNeg, Int.reduceToNat, Int.reduceEq]
  intro r hF hM
  simp only [go_sem, reduceCtorEq, reduceIte, Nat.reduceEqDiff, Nat.reduceAdd, Nat.reduceLeDiff, Nat.reduceMul, Int.reduceLT, Int.reduceLE, Int.reduceAdd, Int.reduceSub, Int.reduceMul, Int.reduceNeg, Int.reduceToNat, Int.reduceEq]
  refine callK_same (k104 _ _ k) ?_
  cases hk : isK k
  · by_cases h7 : k = 7
    · simp only [go_sem, reduceCtorEq, reduceIte, Nat.reduceEqDiff, Nat.reduceAdd, Nat.reduceLeDiff, Nat.reduceMul, Int.reduceLT, Int.reduceLE, Int.reduceAdd, Int.reduceSub, Int.reduceMul, Int.reduceNeg, Int.reduceToNat, Int.reduceEq, h7]
      cases hp : s.p
      · simp only [go_sem, reduceCtorEq, reduceIte, Nat.reduceEqDiff, Nat.reduceAdd, Nat.reduceLeDiff, Nat.reduceMul, Int.reduceLT, Int.reduceLE, Int.reduceAdd, Int.reduceSub, Int.reduceMul, Int.reduceNeg, Int.reduceToNat, Int.reduceEq, hp]
        exact endK_drop hM (endK_same ⟨by simp [scB, hp], rfl, rfl⟩)
      by_cases hn : s.n = 0
      rotate_left
      · simp only [go_sem, reduceCtorEq, reduceIte, Nat.reduceEqDiff, Nat.reduceAdd, Nat.reduceLeDiff, Nat.reduceMul, Int.reduceLT, Int.reduceLE, Int.reduceAdd, Int.reduceSub, Int.reduceMul, Int.reduceNeg, Int.reduceToNat, Int.reduceEq, hp, hn]
        exact endK_drop hM (endK_same ⟨by simp [scB, hp, hn], rfl, rfl⟩)
      simp only [go_sem, reduceCtorEq, reduceIte, Nat.reduceEqDiff, Nat.reduceAdd, Nat.reduceLeDiff, Nat.reduceMul, Int.reduceLT, Int.reduceLE, Int.reduceAdd, Int.reduceSub, Int.reduceMul, Int.reduceNeg, Int.reduceToNat, Int.reduceEq, hp, hn]
      refine callK_same (k136 _ _ s.b 32) ?_
      cases hb : (decide (0 ≤ s.b) && decide (s.b ≤ 32))
      · simp only [go_sem, reduceCtorEq, reduceIte, Nat.reduceEqDiff, Nat.reduceAdd, Nat.reduceLeDiff, Nat.reduceMul, Int.reduceLT, Int.reduceLE, Int.reduceAdd, Int.reduceSub, Int.reduceMul, Int.reduceNeg, Int.reduceToNat, Int.reduceEq, hp, hn]
        exact endK_drop hM (endK_same ⟨by simp only [scB, hp, hn, hb]; simp, rfl, rfl⟩)
      simp only [go_sem, reduceCtorEq, reduceIte, Nat.reduceEqDiff, Nat.reduceAdd, Nat.reduceLeDiff, Nat.reduceMul, Int.reduceLT, Int.reduceLE, Int.reduceAdd, Int.reduceSub, Int.reduceMul, Int.reduceNeg, Int.reduceToNat, Int.reduceEq, hp, hn]
      refine callK_same (k136 _ _ s.o 32) ?_
      cases ho : (decide (0 ≤ s.o) && decide (s.o ≤ 32))
      · simp only [go_sem, reduceCtorEq, reduceIte, Nat.reduceEqDiff, Nat.reduceAdd, Nat.reduceLeDiff, Nat.reduceMul, Int.reduceLT, Int.reduceLE, Int.reduceAdd, Int.reduceSub, Int.reduceMul, Int.reduceNeg, Int.reduceToNat, Int.reduceEq, hp, hn]
        exact endK_drop hM (endK_same ⟨by simp only [scB, hp, hn, hb, ho]; simp, rfl, rfl⟩)
      by_cases hb0 : 0 < s.b
      · simp only [go_sem, reduceCtorEq, reduceIte, Nat.reduceEqDiff, Nat.reduceAdd, Nat.reduceLeDiff, Nat.reduceMul, Int.reduceLT, Int.reduceLE, Int.reduceAdd, Int.reduceSub, Int.reduceMul, Int.reduceNeg, Int.reduceToNat, Int.reduceEq, hp, hn, hb0]
        exact endK_drop hM (endK_same ⟨by simp only [scB, hp, hn, hb, ho]; simp [hb0], rfl, rfl⟩)
      · simp only [go_sem, reduceCtorEq, reduceIte, Nat.reduceEqDiff, Nat.reduceAdd, Nat.reduceLeDiff, Nat.reduceMul, Int.reduceLT, Int.reduceLE, Int.reduceAdd, Int.reduceSub, Int.reduceMul, Int.reduceNeg, Int.reduceToNat, Int.reduceEq, hp, hn, hb0]
        exact endK_drop hM (endK_same ⟨by simp only [scB, hp, hn, hb, ho]; simp [hb0], rfl, rfl⟩)
    · simp only [go_sem, reduceCtorEq, reduceIte, Nat.reduceEqDiff, Nat.reduceAdd, Nat.reduceLeDiff, Nat.reduceMul, Int.reduceLT, Int.reduceLE, Int.reduceAdd, Int.reduceSub, Int.reduceMul, Int.reduceNeg, Int.reduceToNat, Int.reduceEq, h7]
      exact endK_drop hM (endK_same ⟨by simp [scB, h7, hk], rfl, rfl⟩)
  · have h7 : ¬ k = 7 := by rintro rfl; rw [not_isK7] at hk; cases hk
    have lw := isW_le (ofW_isW k)
    cases hp : s.p
    rotate_left
    · simp only [go_sem, reduceCtorEq, reduceIte, Nat.reduceEqDiff, Nat.reduceAdd, Nat.reduceLeDiff, Nat.reduceMul, Int.reduceLT, Int.reduceLE, Int.reduceAdd, Int.reduceSub, Int.reduceMul, Int.reduceNeg, Int.reduceToNat, Int.reduceEq, hp]
      exact endK_drop hM (endK_same ⟨by simp [scB, h7, hp], rfl, rfl⟩)
    simp only [go_sem, reduceCtorEq, reduceIte, Nat.reduceEqDiff, Nat.reduceAdd, Nat.reduceLeDiff, Nat.reduceMul, Int.reduceLT, Int.reduceLE, Int.reduceAdd, Int.reduceSub, Int.reduceMul, Int.reduceNeg, Int.reduceToNat, Int.reduceEq, hp]
    refine callK_same (k101 _ _ k hk) ?_
    simp only [go_sem, reduceCtorEq, reduceIte, Nat.reduceEqDiff, Nat.reduceAdd, Nat.reduceLeDiff, Nat.reduceMul, Int.reduceLT, Int.reduceLE, Int.reduceAdd, Int.reduceSub, Int.reduceMul, Int.reduceNeg, Int.reduceToNat, Int.reduceEq, hp]
    refine callK_same (k116 _ _ s.n (ofW k) lw.1 lw.2) ?_
    cases hn : isN s.n (ofW k)
    · simp only [go_sem, reduceCtorEq, reduceIte, Nat.reduceEqDiff, Nat.reduceAdd, Nat.reduceLeDiff, Nat.reduceMul, Int.reduceLT, Int.reduceLE, Int.reduceAdd, Int.reduceSub, Int.reduceMul, Int.reduceNeg, Int.reduceToNat, Int.reduceEq, hp]
      exact endK_drop hM (endK_same ⟨by simp [scB, h7, hn], rfl, rfl⟩)
    by_cases hb : s.b = 0
    rotate_left
    · simp only [go_sem, reduceCtorEq, reduceIte, Nat.reduceEqDiff, Nat.reduceAdd, Nat.reduceLeDiff, Nat.reduceMul, Int.reduceLT, Int.reduceLE, Int.reduceAdd, Int.reduceSub, Int.reduceMul, Int.reduceNeg, Int.reduceToNat, Int.reduceEq, hp, hb]
      exact endK_drop hM (endK_same ⟨by simp [scB, h7, hb], rfl, rfl⟩)
    simp only [go_sem, reduceCtorEq, reduceIte, Nat.reduceEqDiff, Nat.reduceAdd, Nat.reduceLeDiff, Nat.reduceMul, Int.reduceLT, Int.reduceLE, Int.reduceAdd, Int.reduceSub, Int.reduceMul, Int.reduceNeg, Int.reduceToNat, Int.reduceEq, hp, hb]
    exact endK_drop hM (endK_same ⟨by simp [scB, h7, hk, hp, hn, hb], rfl, rfl⟩)
theorem k60 (k : Int) (s : Sc) : CallsA Try.prog 60 [.int .i64 k, s.val] F M (Same F M (.bool (sc6B k s))) := by
  refine callsA_of hm Try.func60 e60 (Nat.le_of_ble_eq_true rfl) ?_
  simp only [c60, go_sem, reduceCtorEq, reduceIte, Nat.reduceEqDiff, Nat.reduceAdd, Nat.reduceLeDiff, Nat.reduceMul, Int.reduceLT, Int.reduceLE, Int.reduceAdd, Int.reduceSub, Int.reduceMul, Int.reduceNeg, Int.reduceToNat, Int.reduceEq]
  intro r hF hM
  simp only [go_sem, reduceCtorEq, reduceIte, Nat.reduceEqDiff, Nat.reduceAdd, Nat.reduceLeDiff, Nat.reduceMul, Int.reduceLT, Int.reduceLE, Int.reduceAdd, Int.reduceSub, Int.reduceMul, Int.reduceNeg, Int.reduceToNat, Int.reduceEq]
  refine callK_same (k97 _ _ k s) ?_
  cases hb : scB k s
  · simp only [go_sem, reduceCtorEq, reduceIte, Nat.reduceEqDiff, Nat.reduceAdd, Nat.reduceLeDiff, Nat.reduceMul, Int.reduceLT, Int.reduceLE, Int.reduceAdd, Int.reduceSub, Int.reduceMul, Int.reduceNeg, Int.reduceToNat, Int.reduceEq]
    exact endK_drop hM (endK_same ⟨by simp [sc6B, hb], rfl, rfl⟩)
  · simp only [go_sem, reduceCtorEq, reduceIte, Nat.reduceEqDiff, Nat.reduceAdd, Nat.reduceLeDiff, Nat.reduceMul, Int.reduceLT, Int.reduceLE, Int.reduceAdd, Int.reduceSub, Int.reduceMul, Int.reduceNeg, Int.reduceToNat, Int.reduceEq]
    exact endK_drop hM (endK_same ⟨by simp [sc6B, hb], rfl, rfl⟩)
theorem k58 (k : Int) (s : Sc) : CallsA Try.prog 58 [.int .i64 k, s.val] F M (Same F M (.bool (scB k s))) := by
  refine callsA_of hm Try.func58 e58 (Nat.le_of_ble_eq_true rfl) ?_
  simp only [c58, go_sem, reduceCtorEq, reduceIte, Nat.reduceEqDiff, Nat.reduceAdd, Nat.reduceLeDiff, Nat.reduceMul, Int.reduceLT, Int.reduceLE, Int.reduceAdd, Int.reduceSub, Int.reduceMul, Int.reduceNeg, Int.reduceToNat, Int.reduceEq]
  intro r hF hM
  by_cases h7 : k = 7
  · simp only [go_sem, reduceCtorEq, reduceIte, Nat.reduceEqDiff, Nat.reduceAdd, Nat.reduceLeDiff, Nat.reduceMul, Int.reduceLT, Int.reduceLE, Int.reduceAdd, Int.reduceSub, Int.reduceMul, Int.reduceNeg, Int.reduceToNat, Int.reduceEq, h7]
    cases hp : s.p
    · simp only [go_sem, reduceCtorEq, reduceIte, Nat.reduceEqDiff, Nat.reduceAdd, Nat.reduceLeDiff, Nat.reduceMul, Int.reduceLT, Int.reduceLE, Int.reduceAdd, Int.reduceSub, Int.reduceMul, Int.reduceNeg, Int.reduceToNat, Int.reduceEq, hp]
      exact endK_drop hM (endK_same ⟨by simp [scB, hp], rfl, rfl⟩)
    by_cases hn : s.n = 0
    rotate_left
    · simp only [go_sem, reduceCtorEq, reduceIte, Nat.reduceEqDiff, Nat.reduceAdd, Nat.reduceLeDiff, Nat.reduceMul, Int.reduceLT, Int.reduceLE, Int.reduceAdd, Int.reduceSub, Int.reduceMul, Int.reduceNeg, Int.reduceToNat, Int.reduceEq, hp, hn]
      exact endK_drop hM (endK_same ⟨by simp [scB, hp, hn], rfl, rfl⟩)
    simp only [go_sem, reduceCtorEq, reduceIte, Nat.reduceEqDiff, Nat.reduceAdd, Nat.reduceLeDiff, Nat.reduceMul, Int.reduceLT, Int.reduceLE, Int.reduceAdd, Int.reduceSub, Int.reduceMul, Int.reduceNeg, Int.reduceToNat, Int.reduceEq, hp, hn]
    refine callK_same (k22 _ _ s.b 32) ?_
    cases hb : (decide (0 ≤ s.b) && decide (s.b ≤ 32))
    · simp only [go_sem, reduceCtorEq, reduceIte, Nat.reduceEqDiff, Nat.reduceAdd, Nat.reduceLeDiff, Nat.reduceMul, Int.reduceLT, Int.reduceLE, Int.reduceAdd, Int.reduceSub, Int.reduceMul, Int.reduceNeg, Int.reduceToNat, Int.reduceEq, hp, hn]
      exact endK_drop hM (endK_same ⟨by simp only [scB, hp, hn, hb]; simp, rfl, rfl⟩)
    simp only [go_sem, reduceCtorEq, reduceIte, Nat.reduceEqDiff, Nat.reduceAdd, Nat.reduceLeDiff, Nat.reduceMul, Int.reduceLT, Int.reduceLE, Int.reduceAdd, Int.reduceSub, Int.reduceMul, Int.reduceNeg, Int.reduceToNat, Int.reduceEq, hp, hn]
    refine callK_same (k22 _ _ s.o 32) ?_
    cases ho : (decide (0 ≤ s.o) && decide (s.o ≤ 32))
    · simp only [go_sem, reduceCtorEq, reduceIte, Nat.reduceEqDiff, Nat.reduceAdd, Nat.reduceLeDiff, Nat.reduceMul, Int.reduceLT, Int.reduceLE, Int.reduceAdd, Int.reduceSub, Int.reduceMul, Int.reduceNeg, Int.reduceToNat, Int.reduceEq, hp, hn]
      exact endK_drop hM (endK_same ⟨by simp only [scB, hp, hn, hb, ho]; simp, rfl, rfl⟩)
    by_cases hb0 : 0 < s.b
    · simp only [go_sem, reduceCtorEq, reduceIte, Nat.reduceEqDiff, Nat.reduceAdd, Nat.reduceLeDiff, Nat.reduceMul, Int.reduceLT, Int.reduceLE, Int.reduceAdd, Int.reduceSub, Int.reduceMul, Int.reduceNeg, Int.reduceToNat, Int.reduceEq, hp, hn, hb0]
      exact endK_drop hM (endK_same ⟨by simp only [scB, hp, hn, hb, ho]; simp [hb0], rfl, rfl⟩)
    · simp only [go_sem, reduceCtorEq, reduceIte, Nat.reduceEqDiff, Nat.reduceAdd, Nat.reduceLeDiff, Nat.reduceMul, Int.reduceLT, Int.reduceLE, Int.reduceAdd, Int.reduceSub, Int.reduceMul, Int.reduceNeg, Int.reduceToNat, Int.reduceEq, hp, hn, hb0]
      exact endK_drop hM (endK_same ⟨by simp only [scB, hp, hn, hb, ho]; simp [hb0], rfl, rfl⟩)
  · simp only [go_sem, reduceCtorEq, reduceIte, Nat.reduceEqDiff, Nat.reduceAdd, Nat.reduceLeDiff, Nat.reduceMul, Int.reduceLT, Int.reduceLE, Int.reduceAdd, Int.reduceSub, Int.reduceMul, Int.reduceNeg, Int.reduceToNat, Int.reduceEq, h7]
    refine callK_same (k46 _ _ k) ?_
    by_cases hk : isK k = true
    rotate_left
    · have e0 : wK k = 0 := by simp [wK, hk]
      simp only [go_sem, reduceCtorEq, reduceIte, Nat.reduceEqDiff, Nat.reduceAdd, Nat.reduceLeDiff, Nat.reduceMul, Int.reduceLT, Int.reduceLE, Int.reduceAdd, Int.reduceSub, Int.reduceMul, Int.reduceNeg, Int.reduceToNat, Int.reduceEq, e0]
      exact endK_drop hM (endK_same ⟨by simp [scB, h7, hk], rfl, rfl⟩)
    have e0 : wK k = ofW k := wK_of hk
    have hpw := pow_w (ofW_isW k)
    have lw := isW_le (ofW_isW k)
    have e1 : (0 : Int) < ofW k := by omega
    cases hp : s.p
    rotate_left
    · simp only [go_sem, reduceCtorEq, reduceIte, Nat.reduceEqDiff, Nat.reduceAdd, Nat.reduceLeDiff, Nat.reduceMul, Int.reduceLT, Int.reduceLE, Int.reduceAdd, Int.reduceSub, Int.reduceMul, Int.reduceNeg, Int.reduceToNat, Int.reduceEq, e0, e1, hp]
      exact endK_drop hM (endK_same ⟨by simp [scB, h7, hp], rfl, rfl⟩)
    by_cases hb : s.b = 0
    rotate_left
    · simp only [go_sem, reduceCtorEq, reduceIte, Nat.reduceEqDiff, Nat.reduceAdd, Nat.reduceLeDiff, Nat.reduceMul, Int.reduceLT, Int.reduceLE, Int.reduceAdd, Int.reduceSub, Int.reduceMul, Int.reduceNeg, Int.reduceToNat, Int.reduceEq, e0, e1, hp, hb]
      exact endK_drop hM (endK_same ⟨by simp [scB, h7, hb], rfl, rfl⟩)
    by_cases ho : s.o = 0
    rotate_left
    · simp only [go_sem, reduceCtorEq, reduceIte, Nat.reduceEqDiff, Nat.reduceAdd, Nat.reduceLeDiff, Nat.reduceMul, Int.reduceLT, Int.reduceLE, Int.reduceAdd, Int.reduceSub, Int.reduceMul, Int.reduceNeg, Int.reduceToNat, Int.reduceEq, e0, e1, hp, hb, ho]
      exact endK_drop hM (endK_same ⟨by simp [scB, h7, ho], rfl, rfl⟩)
    simp only [go_sem, reduceCtorEq, reduceIte, Nat.reduceEqDiff, Nat.reduceAdd, Nat.reduceLeDiff, Nat.reduceMul, Int.reduceLT, Int.reduceLE, Int.reduceAdd, Int.reduceSub, Int.reduceMul, Int.reduceNeg, Int.reduceToNat, Int.reduceEq, e0, e1, hp, hb, ho]
    refine callK_same (k46 _ _ k) ?_
    simp only [go_sem, reduceCtorEq, reduceIte, Nat.reduceEqDiff, Nat.reduceAdd, Nat.reduceLeDiff, Nat.reduceMul, Int.reduceLT, Int.reduceLE, Int.reduceAdd, Int.reduceSub, Int.reduceMul, Int.reduceNeg, Int.reduceToNat, Int.reduceEq, e0, e1, hp, hb, ho]
    refine callK_same (k77 _ _ s.n (ofW k) lw.1 lw.2) ?_
    simp only [go_sem, reduceCtorEq, reduceIte, Nat.reduceEqDiff, Nat.reduceAdd, Nat.reduceLeDiff, Nat.reduceMul, Int.reduceLT, Int.reduceLE, Int.reduceAdd, Int.reduceSub, Int.reduceMul, Int.reduceNeg, Int.reduceToNat, Int.reduceEq]
    exact endK_drop hM (endK_same ⟨by simp [scB, h7, hk, hp, hb, ho], rfl, rfl⟩)
theorem k16 (k : Int) (s : Sc) : CallsA Try.prog 16 [.int .i64 k, s.val] F M (Same F M (.bool (sc6B k s))) := by
  refine callsA_of hm Try.func16 e16 (Nat.le_of_ble_eq_true rfl) ?_
  simp only [c16, go_sem, reduceCtorEq, reduceIte, Nat.reduceEqDiff, Nat.reduceAdd, Nat.reduceLeDiff, Nat.reduceMul, Int.reduceLT, Int.reduceLE, Int.reduceAdd, Int.reduceSub, Int.reduceMul, Int.reduceNeg, Int.reduceToNat, Int.reduceEq]
  intro r hF hM
  simp only [go_sem, reduceCtorEq, reduceIte, Nat.reduceEqDiff, Nat.reduceAdd, Nat.reduceLeDiff, Nat.reduceMul, Int.reduceLT, Int.reduceLE, Int.reduceAdd, Int.reduceSub, Int.reduceMul, Int.reduceNeg, Int.reduceToNat, Int.reduceEq]
  refine callK_same (k58 _ _ k s) ?_
  cases hb : scB k s
  · simp only [go_sem, reduceCtorEq, reduceIte, Nat.reduceEqDiff, Nat.reduceAdd, Nat.reduceLeDiff, Nat.reduceMul, Int.reduceLT, Int.reduceLE, Int.reduceAdd, Int.reduceSub, Int.reduceMul, Int.reduceNeg, Int.reduceToNat, Int.reduceEq]
    exact endK_drop hM (endK_same ⟨by simp [sc6B, hb], rfl, rfl⟩)
  · simp only [go_sem, reduceCtorEq, reduceIte, Nat.reduceEqDiff, Nat.reduceAdd, Nat.reduceLeDiff, Nat.reduceMul, Int.reduceLT, Int.reduceLE, Int.reduceAdd, Int.reduceSub, Int.reduceMul, Int.reduceNeg, Int.reduceToNat, Int.reduceEq]
    exact endK_drop hM (endK_same ⟨by simp [sc6B, hb], rfl, rfl⟩)
theorem k99 (v : V) : CallsA Try.prog 99 [v.val] F M (Same F M (abV v (.slice none 0 0))) := by
  refine callsA_of hm Try.func99 e99 (Nat.le_of_ble_eq_true rfl) ?_
  simp only [c99, go_sem, reduceCtorEq, reduceIte, Nat.reduceEqDiff, Nat.reduceAdd, Nat.reduceLeDiff, Nat.reduceMul, Int.reduceLT, Int.reduceLE, Int.reduceAdd, Int.reduceSub, Int.reduceMul, Int.reduceNeg, Int.reduceToNat, Int.reduceEq]
  intro r1 hF1 hM1
  simp only [go_sem, reduceCtorEq, reduceIte, Nat.reduceEqDiff, Nat.reduceAdd, Nat.reduceLeDiff, Nat.reduceMul, Int.reduceLT, Int.reduceLE, Int.reduceAdd, Int.reduceSub, Int.reduceMul, Int.reduceNeg, Int.reduceToNat, Int.reduceEq]
  intro r2 hF2 hM2
  have g := fresh_of hM2
  simp only [go_sem, reduceCtorEq, reduceIte, Nat.reduceEqDiff, Nat.reduceAdd, Nat.reduceLeDiff, Nat.reduceMul, Int.reduceLT, Int.reduceLE, Int.reduceAdd, Int.reduceSub, Int.reduceMul, Int.reduceNeg, Int.reduceToNat, Int.reduceEq, g]
  exact endK_drop hM2 (endK_drop hM1 (endK_same ⟨rfl, rfl, rfl⟩))
theorem k98 (b o : Int) : CallsA Try.prog 98 [.int .i64 b, .int .i64 o] F M (abR 87 V.zero [⟨b, V.just 8 o⟩] F M) := by
  refine callsA_of hm Try.func98 e98 (Nat.le_of_ble_eq_true rfl) ?_
  simp only [c98, go_sem, reduceCtorEq, reduceIte, Nat.reduceEqDiff, Nat.reduceAdd, Nat.reduceLeDiff, Nat.reduceMul, Int.reduceLT, Int.reduceLE, Int.reduceAdd, Int.reduceSub, Int.reduceMul, Int.reduceNeg, Int.reduceToNat, Int.reduceEq]
  intro r4 hF4 hM4
  simp only [go_sem, reduceCtorEq, reduceIte, Nat.reduceEqDiff, Nat.reduceAdd, Nat.reduceLeDiff, Nat.reduceMul, Int.reduceLT, Int.reduceLE, Int.reduceAdd, Int.reduceSub, Int.reduceMul, Int.reduceNeg, Int.reduceToNat, Int.reduceEq]
  refine callK_same (k100 _ _ 8 o) ?_
  simp only [go_sem, reduceCtorEq, reduceIte, Nat.reduceEqDiff, Nat.reduceAdd, Nat.reduceLeDiff, Nat.reduceMul, Int.reduceLT, Int.reduceLE, Int.reduceAdd, Int.reduceSub, Int.reduceMul, Int.reduceNeg, Int.reduceToNat, Int.reduceEq]
  intro g hFg hMg
  have gg := fresh_of hMg
  simp only [go_sem, reduceCtorEq, reduceIte, Nat.reduceEqDiff, Nat.reduceAdd, Nat.reduceLeDiff, Nat.reduceMul, Int.reduceLT, Int.reduceLE, Int.reduceAdd, Int.reduceSub, Int.reduceMul, Int.reduceNeg, Int.reduceToNat, Int.reduceEq, gg]
  refine endK_keep (M := M.upd g ⟨[Ba.mk b (V.just 8 o)].flatMap Ba.cs, 87, 1 * 7⟩) ?_ ⟨rfl, .inr ⟨g, 1, hFg, gg.2.2, rfl, ⟨by simp, by decide⟩, rfl⟩⟩
  exact ((Keep.refl M).new hM4).both
theorem k61 (k : Int) (s : Sc) (hk : k = 7 ∨ isK k = true) : CallsA Try.prog 61 [.int .i64 k, s.val] F M (abR 87 (if k = 7 then V.zero else V.just (ofW k) s.n) (if k = 7 then [⟨s.b, V.just 8 s.o⟩] else []) F M) := by
  refine callsA_of hm Try.func61 e61 (Nat.le_of_ble_eq_true rfl) ?_
  simp only [c61, go_sem, reduceCtorEq, reduceIte, Nat.reduceEqDiff, Nat.reduceAdd, Nat.reduceLeDiff, Nat.reduceMul, Int.reduceLT, Int.reduceLE, Int.reduceAdd, Int.reduceSub, Int.reduceMul, Int.reduceNeg, Int.reduceToNat, Int.reduceEq]
  intro r3 hF3 hM3
  simp only [go_sem, reduceCtorEq, reduceIte, Nat.reduceEqDiff, Nat.reduceAdd, Nat.reduceLeDiff, Nat.reduceMul, Int.reduceLT, Int.reduceLE, Int.reduceAdd, Int.reduceSub, Int.reduceMul, Int.reduceNeg, Int.reduceToNat, Int.reduceEq]
  intro r4 hF4 hM4
  have g4 := fresh_of hM4
  by_cases h7 : k = 7
  · simp only [go_sem, reduceCtorEq, reduceIte, Nat.reduceEqDiff, Nat.reduceAdd, Nat.reduceLeDiff, Nat.reduceMul, Int.reduceLT, Int.reduceLE, Int.reduceAdd, Int.reduceSub, Int.reduceMul, Int.reduceNeg, Int.reduceToNat, Int.reduceEq, g4, h7]
    refine callK_of (k98 _ _ s.b s.o) ?_
    rintro u G M' ⟨hG, ⟨h, _⟩ | ⟨g, cap, hFg, hMg, rfl, hcap, hM'⟩⟩
    · cases h
    rw [hG, hM']
    refine ⟨(fun h => by cases h), ?_⟩
    have g1 := fresh_of hMg
    have g2 := fresh_of g1.2.2
    simp only [go_sem, reduceCtorEq, reduceIte, Nat.reduceEqDiff, Nat.reduceAdd, Nat.reduceLeDiff, Nat.reduceMul, Int.reduceLT, Int.reduceLE, Int.reduceAdd, Int.reduceSub, Int.reduceMul, Int.reduceNeg, Int.reduceToNat, Int.reduceEq, g4, g1, g2]
    refine endK_keep (M := M.upd g ⟨[Ba.mk s.b (V.just 8 s.o)].flatMap Ba.cs, 87, cap * 7⟩) ?_ ⟨rfl, .inr ⟨g, cap, hFg, g2.2.2, rfl, hcap, rfl⟩⟩
    exact (((Keep.refl M).new hM3).new g4.2.2).both
  · have hk' : isK k = true := by rcases hk with h | h; exact absurd h h7; exact h
    simp only [go_sem, reduceCtorEq, reduceIte, Nat.reduceEqDiff, Nat.reduceAdd, Nat.reduceLeDiff, Nat.reduceMul, Int.reduceLT, Int.reduceLE, Int.reduceAdd, Int.reduceSub, Int.reduceMul, Int.reduceNeg, Int.reduceToNat, Int.reduceEq, g4, h7]
    refine callK_same (k101 _ _ k hk') ?_
    simp only [go_sem, reduceCtorEq, reduceIte, Nat.reduceEqDiff, Nat.reduceAdd, Nat.reduceLeDiff, Nat.reduceMul, Int.reduceLT, Int.reduceLE, Int.reduceAdd, Int.reduceSub, Int.reduceMul, Int.reduceNeg, Int.reduceToNat, Int.reduceEq, g4]
    refine callK_same (k100 _ _ (ofW k) s.n) ?_
    simp only [go_sem, reduceCtorEq, reduceIte, Nat.reduceEqDiff, Nat.reduceAdd, Nat.reduceLeDiff, Nat.reduceMul, Int.reduceLT, Int.reduceLE, Int.reduceAdd, Int.reduceSub, Int.reduceMul, Int.reduceNeg, Int.reduceToNat, Int.reduceEq, g4]
    refine callK_same (k99 _ _ _) ?_
    simp only [go_sem, reduceCtorEq, reduceIte, Nat.reduceEqDiff, Nat.reduceAdd, Nat.reduceLeDiff, Nat.reduceMul, Int.reduceLT, Int.reduceLE, Int.reduceAdd, Int.reduceSub, Int.reduceMul, Int.reduceNeg, Int.reduceToNat, Int.reduceEq, g4]
    exact endK_keep (M := M) (((Keep.refl M).new hM3).new g4.2.2) ⟨rfl, .inl ⟨rfl, rfl, rfl⟩⟩
theorem sc_kind {k : Int} {s : Sc} (h : sc6B k s = true) : k = 7 ∨ isK k = true := by
  by_cases h7 : k = 7
  · exact .inl h7
  · simp [sc6B, scB, h7] at h; exact .inr h.1.1.1.1.1
/-- One scalar's set, or that there is none. -/
def oneR (k : Int) (s : Sc) (F : Fz) (M : Hp) (u : Value) (F' : Fz) (M' : Hp) : Prop :=
  (sc6B k s = true ∧ ∃ w, u = .tuple #[w, .int .i64 0] ∧ abR 87 (if k = 7 then V.zero else V.just (ofW k) s.n) (if k = 7 then [⟨s.b, V.just 8 s.o⟩] else []) F M w F' M') ∨
  (sc6B k s = false ∧ u = .tuple #[abV V.zero (.slice none 0 0), .int .i64 1] ∧ F' = F ∧ M' = M)
theorem abR.end2 {e : TypeId} {num : V} {l : List Ba} {F : Fz} {M M1 : Hp} {w : Value} {F' : Fz} {M2 : Hp} (h : abR e num l F M1 w F' M2) (k : Keep M M1) : ∃ M3, abR e num l F M w F M3 ∧ Keep M3 M2 ∧ ∀ r x, M r = none → M1 r = some x → M3 r = none := by
  obtain ⟨rfl, ⟨h1, h2, rfl⟩ | ⟨g, cap, h1, h2, h3, h4, rfl⟩⟩ := h
  · exact ⟨M, ⟨rfl, .inl ⟨h1, h2, rfl⟩⟩, k, fun r x h _ => h⟩
  · exact ⟨_, ⟨rfl, .inr ⟨g, cap, h1, k.free h2, h3, h4, rfl⟩⟩, k.both, fun r x hr hx => by
      rw [Hp.upd_ne' (ne_of_none h2 hx).1]; exact hr⟩
theorem k15 (k : Int) (s : Sc) : CallsA Try.prog 15 [.int .i64 k, s.val] F M (oneR k s F M) := by
  refine callsA_of hm Try.func15 e15 (Nat.le_of_ble_eq_true rfl) ?_
  simp only [c15, go_sem, reduceCtorEq, reduceIte, Nat.reduceEqDiff, Nat.reduceAdd, Nat.reduceLeDiff, Nat.reduceMul, Int.reduceLT, Int.reduceLE, Int.reduceAdd, Int.reduceSub, Int.reduceMul, Int.reduceNeg, Int.reduceToNat, Int.reduceEq]
  intro r3 hF3 hM3
  simp only [go_sem, reduceCtorEq, reduceIte, Nat.reduceEqDiff, Nat.reduceAdd, Nat.reduceLeDiff, Nat.reduceMul, Int.reduceLT, Int.reduceLE, Int.reduceAdd, Int.reduceSub, Int.reduceMul, Int.reduceNeg, Int.reduceToNat, Int.reduceEq]
  intro r4 hF4 hM4
  have g4 := fresh_of hM4
  simp only [go_sem, reduceCtorEq, reduceIte, Nat.reduceEqDiff, Nat.reduceAdd, Nat.reduceLeDiff, Nat.reduceMul, Int.reduceLT, Int.reduceLE, Int.reduceAdd, Int.reduceSub, Int.reduceMul, Int.reduceNeg, Int.reduceToNat, Int.reduceEq, g4]
  refine callK_same (k60 _ _ k s) ?_
  cases hs : sc6B k s
  · simp only [go_sem, reduceCtorEq, reduceIte, Nat.reduceEqDiff, Nat.reduceAdd, Nat.reduceLeDiff, Nat.reduceMul, Int.reduceLT, Int.reduceLE, Int.reduceAdd, Int.reduceSub, Int.reduceMul, Int.reduceNeg, Int.reduceToNat, Int.reduceEq, g4]
    exact endK_keep (M := M) (((Keep.refl M).new hM3).new g4.2.2) (.inr ⟨hs, rfl, rfl, rfl⟩)
  simp only [go_sem, reduceCtorEq, reduceIte, Nat.reduceEqDiff, Nat.reduceAdd, Nat.reduceLeDiff, Nat.reduceMul, Int.reduceLT, Int.reduceLE, Int.reduceAdd, Int.reduceSub, Int.reduceMul, Int.reduceNeg, Int.reduceToNat, Int.reduceEq, g4]
  refine callK_of (k61 _ _ k s (sc_kind hs)) ?_
  rintro w G M' ha
  have hle := ha.le
  rw [hle.1] at ha ⊢
  refine ⟨fun _ => hle.2.1, ?_⟩
  obtain ⟨a, n, c, rfl, _⟩ := hle.2.2.2.2
  have f4 : M' r4 = some ⟨abCs V.zero (.slice none 0 0), 37, 7⟩ := hle.2.2.1 _ _ (Hp.upd_same _ _ _)
  obtain ⟨M3, h3, k3, n3⟩ := abR.end2 ha (((Keep.refl M).new hM3).new g4.2.2)
  have n4 := n3 r4 _ g4.2.2 (Hp.upd_same _ _ _)
  simp only [go_sem, reduceCtorEq, reduceIte, Nat.reduceEqDiff, Nat.reduceAdd, Nat.reduceLeDiff, Nat.reduceMul, Int.reduceLT, Int.reduceLE, Int.reduceAdd, Int.reduceSub, Int.reduceMul, Int.reduceNeg, Int.reduceToNat, Int.reduceEq, g4, f4]
  simp only [setH, go_sem, reduceCtorEq, reduceIte, Nat.reduceEqDiff, Nat.reduceAdd, Nat.reduceLeDiff, Nat.reduceMul, Int.reduceLT, Int.reduceLE, Int.reduceAdd, Int.reduceSub, Int.reduceMul, Int.reduceNeg, Int.reduceToNat, Int.reduceEq]
  exact endK_keep (M := M3) (k3.new n4) (.inl ⟨hs, _, rfl, h3⟩)
end Go.Proofs.Try.K

/- Contracts: the set of all scalars. -/
namespace Go.Proofs.Try.K
open Go Go.Ax Go.Proofs.Try.S
set_option maxRecDepth 100000
set_option linter.unusedSimpArgs false
set_option linter.unusedVariables false
variable (F : Fz) (M : Hp)

def whI (n : Nat) (F0 : Fz) (M0 : Hp) (r4 r5 : Nat) (m : Nat) (σ : Env) (F : Fz) (M : Hp) : Prop :=
  F = F0 ∧ Keep M0 M ∧ M0 r5 = none ∧ M0 r4 = none ∧ ¬ r4 = r5 ∧ M r4 = some ⟨abCs V.zero (.slice none 0 0), 37, 7⟩ ∧
  Ax.look σ 4 = some (.pointer (some ⟨r4, 0, none⟩)) ∧ Ax.look σ 5 = some (.pointer (some ⟨r5, 0, none⟩)) ∧ Ax.look σ 14 = some (.int .i64 n) ∧
  ∃ (i g cap : Nat), i + m = n ∧ Ax.look σ 15 = some (.int .i64 i) ∧ M r5 = some ⟨abCs V.zero (.slice (some ⟨g, 0, none⟩) (wholeL i).length cap), 37, 7⟩ ∧
    OwnG 7 Ba.cs 87 F0 M (.slice (some ⟨g, 0, none⟩) (wholeL i).length cap) (wholeL i) ∧ M0 g = none
theorem k65 (k : Int) (n : Nat) (hn : n ≤ 6) (hk : k = 7 ∨ isK k = true) : CallsA Try.prog 65 [.int .i64 k, .int .i64 n] F M (abR 87 (if k = 7 then V.zero else V.whole (ofW k)) (if k = 7 then wholeL n else []) F M) := by
  refine callsA_of hm Try.func65 e65 (Nat.le_of_ble_eq_true rfl) ?_
  simp only [c65, go_sem, reduceCtorEq, reduceIte, Nat.reduceEqDiff, Nat.reduceAdd, Nat.reduceLeDiff, Nat.reduceMul, Int.reduceLT, Int.reduceLE, Int.reduceAdd, Int.reduceSub, Int.reduceMul, Int.reduceNeg, Int.reduceToNat, Int.reduceEq]
  intro r4 hF4 hM4
  by_cases h7 : k = 7
  rotate_left
  · have hk' : isK k = true := by rcases hk with h | h; exact absurd h h7; exact h
    have lw := isW_le (ofW_isW k)
    simp only [go_sem, reduceCtorEq, reduceIte, Nat.reduceEqDiff, Nat.reduceAdd, Nat.reduceLeDiff, Nat.reduceMul, Int.reduceLT, Int.reduceLE, Int.reduceAdd, Int.reduceSub, Int.reduceMul, Int.reduceNeg, Int.reduceToNat, Int.reduceEq, h7]
    refine callK_same (k101 _ _ k hk') ?_
    simp only [go_sem, reduceCtorEq, reduceIte, Nat.reduceEqDiff, Nat.reduceAdd, Nat.reduceLeDiff, Nat.reduceMul, Int.reduceLT, Int.reduceLE, Int.reduceAdd, Int.reduceSub, Int.reduceMul, Int.reduceNeg, Int.reduceToNat, Int.reduceEq]
    refine callK_same (k102 _ _ (ofW k) lw.1 lw.2) ?_
    simp only [go_sem, reduceCtorEq, reduceIte, Nat.reduceEqDiff, Nat.reduceAdd, Nat.reduceLeDiff, Nat.reduceMul, Int.reduceLT, Int.reduceLE, Int.reduceAdd, Int.reduceSub, Int.reduceMul, Int.reduceNeg, Int.reduceToNat, Int.reduceEq]
    refine callK_same (k99 _ _ _) ?_
    simp only [go_sem, reduceCtorEq, reduceIte, Nat.reduceEqDiff, Nat.reduceAdd, Nat.reduceLeDiff, Nat.reduceMul, Int.reduceLT, Int.reduceLE, Int.reduceAdd, Int.reduceSub, Int.reduceMul, Int.reduceNeg, Int.reduceToNat, Int.reduceEq]
    exact endK_drop hM4 (endK_same ⟨rfl, .inl ⟨rfl, rfl, rfl⟩⟩)
  simp only [go_sem, reduceCtorEq, reduceIte, Nat.reduceEqDiff, Nat.reduceAdd, Nat.reduceLeDiff, Nat.reduceMul, Int.reduceLT, Int.reduceLE, Int.reduceAdd, Int.reduceSub, Int.reduceMul, Int.reduceNeg, Int.reduceToNat, Int.reduceEq, h7]
  refine callK_of (k98 _ _ 0 0) ?_
  rintro u G M' ⟨hG, ⟨h, _⟩ | ⟨g, cap, hFg, hMg, rfl, hcap, hM'⟩⟩
  · cases h
  rw [hG, hM']
  refine ⟨(fun h => by cases h), ?_⟩
  have g1 := fresh_of hMg
  simp only [go_sem, reduceCtorEq, reduceIte, Nat.reduceEqDiff, Nat.reduceAdd, Nat.reduceLeDiff, Nat.reduceMul, Int.reduceLT, Int.reduceLE, Int.reduceAdd, Int.reduceSub, Int.reduceMul, Int.reduceNeg, Int.reduceToNat, Int.reduceEq, g1]
  intro r5 hF5 hM5
  have g5 := fresh_of hM5
  have g52 := fresh_of g5.2.2
  simp only [go_sem, reduceCtorEq, reduceIte, Nat.reduceEqDiff, Nat.reduceAdd, Nat.reduceLeDiff, Nat.reduceMul, Int.reduceLT, Int.reduceLE, Int.reduceAdd, Int.reduceSub, Int.reduceMul, Int.reduceNeg, Int.reduceToNat, Int.reduceEq, g1, g5, g52]
  refine loop_of (whI n F M r4 r5) n ?_ ?_
  · refine ⟨rfl, (((Keep.refl M).new hM4).new g1.2.2).new g52.2.2, g52.2.2, hM4, g52.2.1, ?_, by simp only [go_sem, reduceCtorEq, reduceIte, Nat.reduceEqDiff], by simp only [go_sem, reduceCtorEq, reduceIte, Nat.reduceEqDiff], by simp only [go_sem, reduceCtorEq, reduceIte, Nat.reduceEqDiff], 0, g, cap, by omega, by simp only [go_sem, reduceCtorEq, reduceIte, Nat.reduceEqDiff] <;> rfl, Hp.upd_same _ _ _, .inr ⟨g, cap, rfl, hFg, ?_, hcap.1, hcap.2⟩, g1.2.2⟩
    · rw [Hp.upd_ne' g52.2.1, Hp.upd_ne' g1.2.1]; exact Hp.upd_same _ _ _
    · rw [Hp.upd_ne' g5.2.1]; exact Hp.upd_same _ _ _
  clear g1 g5 g52 hMg hFg hM5 hF5 hM4 hF4 hcap hM' hG
  clear g cap
  rintro m σ F' M2 ⟨rfl, kp, n5, n4, n45, f4, q4, q5, q14, i, g, cap, hi, q15, f5, own, ng⟩
  have b5 := blk_M (F := F') f5
  by_cases hil : (i : Int) < n
  · have ei : IntKind.i64.wrap ((i : Int) + 1) = i + 1 := w64 (by omega) (by omega)
    simp only [go_sem, reduceCtorEq, reduceIte, Nat.reduceEqDiff, Nat.reduceAdd, Nat.reduceLeDiff, Nat.reduceMul, Int.reduceLT, Int.reduceLE, Int.reduceAdd, Int.reduceSub, Int.reduceMul, Int.reduceNeg, Int.reduceToNat, Int.reduceEq, q4, q5, q14, q15, hil, b5, ei]
    refine callK_same (k103 _ _ 8 0 32 (by decide) (by decide)) ?_
    simp only [go_sem, reduceCtorEq, reduceIte, Nat.reduceEqDiff, Nat.reduceAdd, Nat.reduceLeDiff, Nat.reduceMul, Int.reduceLT, Int.reduceLE, Int.reduceAdd, Int.reduceSub, Int.reduceMul, Int.reduceNeg, Int.reduceToNat, Int.reduceEq, q4, q5, q14, q15]
    intro rb hFb hMb
    have gb5 := ne_of_none hMb f5
    have gb4 := ne_of_none hMb f4
    simp only [go_sem, reduceCtorEq, reduceIte, Nat.reduceEqDiff, Nat.reduceAdd, Nat.reduceLeDiff, Nat.reduceMul, Int.reduceLT, Int.reduceLE, Int.reduceAdd, Int.reduceSub, Int.reduceMul, Int.reduceNeg, Int.reduceToNat, Int.reduceEq, q4, q5, q14, q15]
    have hl := wholeL_len i
    refine apG_of (fun x => rfl) Ba.plain (by decide) (own.new hMb) (ys := [⟨(i : Int) + 1, V.span 8 0 32⟩]) ⟨rfl, .inr ⟨⟨rb, 0, none⟩, 1, rfl, .inr ⟨rb, 0, _, rfl, blk_upd_same, by simp [Ba.cs, V.cs]⟩⟩⟩ (by simp) (by simp; omega) ?_
    rintro g' cap' M3 hgo hF' rfl own2
    rw [← wholeL_succ] at own2 ⊢
    have ne5 : ¬ r5 = g' := by
      rcases hgo with h | ⟨c, h⟩
      · exact (ne_of_none (fresh_of h).2.2 f5).1
      · cases h; exact own.ne f5 (by simp)
    have ne4 : ¬ r4 = g' := by
      rcases hgo with h | ⟨c, h⟩
      · exact (ne_of_none (fresh_of h).2.2 f4).1
      · cases h; exact own.ne f4 (by simp)
    have n0 : M g' = none := by
      rcases hgo with h | ⟨c, h⟩
      · exact kp.free (fresh_of h).2.2
      · cases h; exact ng
    simp only [go_sem, reduceCtorEq, reduceIte, Nat.reduceEqDiff, Nat.reduceAdd, Nat.reduceLeDiff, Nat.reduceMul, Int.reduceLT, Int.reduceLE, Int.reduceAdd, Int.reduceSub, Int.reduceMul, Int.reduceNeg, Int.reduceToNat, Int.reduceEq, q4, q5, q14, q15, ne5, gb5, f5, ei]
    simp only [setH, ab_set6, go_sem, reduceCtorEq, reduceIte, Nat.reduceEqDiff, Nat.reduceAdd, Nat.reduceLeDiff, Nat.reduceMul, Int.reduceLT, Int.reduceLE, Int.reduceAdd, Int.reduceSub, Int.reduceMul, Int.reduceNeg, Int.reduceToNat, Int.reduceEq]
    have hcc : (wholeL (i + 1)).length ≤ cap' ∧ cap' ≤ maxLen := by
      rcases own2 with ⟨h, _⟩ | ⟨g2, cap2, h, _, _, hc1, hc2⟩
      · cases h
      · cases h; exact ⟨hc1, hc2⟩
    exact ⟨m - 1, by omega, rfl, ((kp.new n5).new (kp.free hMb)).new n0, n5, n4, n45, by rw [Hp.upd_ne' ne4, Hp.upd_ne' gb4.1, Hp.upd_ne' n45]; exact f4, by simp only [go_sem, reduceCtorEq, reduceIte, Nat.reduceEqDiff, q4], by simp only [go_sem, reduceCtorEq, reduceIte, Nat.reduceEqDiff, q5], by simp only [go_sem, reduceCtorEq, reduceIte, Nat.reduceEqDiff, q14], i + 1, g', cap', by omega, by simp only [go_sem, reduceCtorEq, reduceIte, Nat.reduceEqDiff]; rfl, by rw [Hp.upd_ne' ne5, Hp.upd_ne' gb5.1]; exact Hp.upd_same _ _ _, .inr ⟨g', cap', rfl, hF', Hp.upd_same _ _ _, hcc.1, hcc.2⟩, n0⟩
  · have hin : i = n := by omega
    subst hin
    simp only [go_sem, reduceCtorEq, reduceIte, Nat.reduceEqDiff, Nat.reduceAdd, Nat.reduceLeDiff, Nat.reduceMul, Int.reduceLT, Int.reduceLE, Int.reduceAdd, Int.reduceSub, Int.reduceMul, Int.reduceNeg, Int.reduceToNat, Int.reduceEq, q4, q5, q14, q15, hil, b5, f4]
    simp only [setH, go_sem, reduceCtorEq, reduceIte, Nat.reduceEqDiff, Nat.reduceAdd, Nat.reduceLeDiff, Nat.reduceMul, Int.reduceLT, Int.reduceLE, Int.reduceAdd, Int.reduceSub, Int.reduceMul, Int.reduceNeg, Int.reduceToNat, Int.reduceEq]
    rcases own with ⟨h, _⟩ | ⟨g2, cap2, h, hFg2, fg, hc1, hc2⟩
    · cases h
    cases h
    refine endK_keep (M := M.upd g ⟨(wholeL i).flatMap Ba.cs, 87, cap * 7⟩) ?_ ⟨rfl, .inr ⟨g, cap, hFg2, ng, rfl, ⟨hc1, hc2⟩, rfl⟩⟩
    have hk1 : Keep (M.upd g ⟨(wholeL i).flatMap Ba.cs, 87, cap * 7⟩) M2 := kp.one fg
    refine hk1.new ?_
    have : ¬ r4 = g := by
      rintro rfl; rw [f4] at fg; cases fg
    rw [Hp.upd_ne' this]; exact n4
/-- All scalars' set, or that there is none. -/
def allR (k n : Int) (F : Fz) (M : Hp) (u : Value) (F' : Fz) (M' : Hp) : Prop :=
  ((isS k && (decide (0 ≤ n) && decide (n ≤ 6))) = true ∧ ∃ w, u = .tuple #[w, .int .i64 0] ∧ abR 87 (if k = 7 then V.zero else V.whole (ofW k)) (if k = 7 then wholeL n.toNat else []) F M w F' M') ∨
    ((isS k && (decide (0 ≤ n) && decide (n ≤ 6))) = false ∧ u = .tuple #[abV V.zero (.slice none 0 0), .int .i64 1] ∧ F' = F ∧ M' = M)
theorem isS_kind {k : Int} (h : isS k = true) : k = 7 ∨ isK k = true := by
  simp [isS] at h; simp [isK]; omega
theorem k20 (k n : Int) : CallsA Try.prog 20 [.int .i64 k, .int .i64 n] F M (allR k n F M) := by
  refine callsA_of hm Try.func20 e20 (Nat.le_of_ble_eq_true rfl) ?_
  simp only [c20, go_sem, reduceCtorEq, reduceIte, Nat.reduceEqDiff, Nat.reduceAdd, Nat.reduceLeDiff, Nat.reduceMul, Int.reduceLT, Int.reduceLE, Int.reduceAdd, Int.reduceSub, Int.reduceMul, Int.reduceNeg, Int.reduceToNat, Int.reduceEq]
  intro r4 hF4 hM4
  simp only [go_sem, reduceCtorEq, reduceIte, Nat.reduceEqDiff, Nat.reduceAdd, Nat.reduceLeDiff, Nat.reduceMul, Int.reduceLT, Int.reduceLE, Int.reduceAdd, Int.reduceSub, Int.reduceMul, Int.reduceNeg, Int.reduceToNat, Int.reduceEq]
  refine callK_same (k64 _ _ k) ?_
  cases hk : isS k
  · simp only [go_sem, reduceCtorEq, reduceIte, Nat.reduceEqDiff, Nat.reduceAdd, Nat.reduceLeDiff, Nat.reduceMul, Int.reduceLT, Int.reduceLE, Int.reduceAdd, Int.reduceSub, Int.reduceMul, Int.reduceNeg, Int.reduceToNat, Int.reduceEq]
    exact endK_drop hM4 (endK_same (.inr ⟨by simp [hk], rfl, rfl, rfl⟩))
  by_cases h0 : n < 0
  · simp only [go_sem, reduceCtorEq, reduceIte, Nat.reduceEqDiff, Nat.reduceAdd, Nat.reduceLeDiff, Nat.reduceMul, Int.reduceLT, Int.reduceLE, Int.reduceAdd, Int.reduceSub, Int.reduceMul, Int.reduceNeg, Int.reduceToNat, Int.reduceEq, h0]
    exact endK_drop hM4 (endK_same (.inr ⟨by simp [hk]; omega, rfl, rfl, rfl⟩))
  by_cases h6 : 6 < n
  · simp only [go_sem, reduceCtorEq, reduceIte, Nat.reduceEqDiff, Nat.reduceAdd, Nat.reduceLeDiff, Nat.reduceMul, Int.reduceLT, Int.reduceLE, Int.reduceAdd, Int.reduceSub, Int.reduceMul, Int.reduceNeg, Int.reduceToNat, Int.reduceEq, h0, h6]
    exact endK_drop hM4 (endK_same (.inr ⟨by simp [hk]; omega, rfl, rfl, rfl⟩))
  have ok : (isS k && (decide (0 ≤ n) && decide (n ≤ 6))) = true := by simp [hk]; omega
  simp only [go_sem, reduceCtorEq, reduceIte, Nat.reduceEqDiff, Nat.reduceAdd, Nat.reduceLeDiff, Nat.reduceMul, Int.reduceLT, Int.reduceLE, Int.reduceAdd, Int.reduceSub, Int.reduceMul, Int.reduceNeg, Int.reduceToNat, Int.reduceEq, h0, h6]
  have hw := k65 F (M.upd r4 ⟨abCs V.zero (.slice none 0 0), 37, 7⟩) k n.toNat (by omega) (isS_kind hk)
  have en : ((n.toNat : Nat) : Int) = n := by omega
  rw [en] at hw
  refine callK_of hw ?_
  rintro w G M' ha
  have hle := ha.le
  have hG := hle.1
  subst hG
  refine ⟨fun _ => hle.2.1, ?_⟩
  obtain ⟨a, m, c, rfl, _⟩ := hle.2.2.2.2
  have f4 : M' r4 = some ⟨abCs V.zero (.slice none 0 0), 37, 7⟩ := hle.2.2.1 _ _ (Hp.upd_same _ _ _)
  obtain ⟨M3, h3, k3, n3⟩ := abR.end2 ha ((Keep.refl M).new hM4)
  have n4 := n3 r4 _ hM4 (Hp.upd_same _ _ _)
  simp only [go_sem, reduceCtorEq, reduceIte, Nat.reduceEqDiff, Nat.reduceAdd, Nat.reduceLeDiff, Nat.reduceMul, Int.reduceLT, Int.reduceLE, Int.reduceAdd, Int.reduceSub, Int.reduceMul, Int.reduceNeg, Int.reduceToNat, Int.reduceEq, f4]
  simp only [setH, go_sem, reduceCtorEq, reduceIte, Nat.reduceEqDiff, Nat.reduceAdd, Nat.reduceLeDiff, Nat.reduceMul, Int.reduceLT, Int.reduceLE, Int.reduceAdd, Int.reduceSub, Int.reduceMul, Int.reduceNeg, Int.reduceToNat, Int.reduceEq]
  exact endK_keep (M := M3) (k3.new n4) (.inl ⟨ok, _, rfl, h3⟩)
end Go.Proofs.Try.K

/- Contracts: the page's own asking of sets of scalars. -/
namespace Go.Proofs.Try.K
open Go Go.Ax Go.Proofs.Try.S
set_option maxRecDepth 100000
set_option linter.unusedSimpArgs false
set_option linter.unusedVariables false
variable (F : Fz) (M : Hp)

def pnI (l : List Ba) (u : Value) (b o : Int) (F0 : Fz) (M0 : Hp) (m : Nat) (σ : Env) (F : Fz) (M : Hp) : Prop :=
  F = F0 ∧ M = M0 ∧ Ax.look σ 0 = some u ∧ Ax.look σ 1 = some (.int .i64 b) ∧ Ax.look σ 2 = some (.int .i64 o) ∧ ∃ i : Nat, i + m = l.length ∧ Ax.look σ 7 = some (.int .i64 i) ∧ pointsB l b o = pointsB (l.drop i) b o
theorem k67 (u : Value) (l : List Ba) (b o : Int) (h : RdG 7 Ba.cs F M u l) : CallsA Try.prog 67 [u, .int .i64 b, .int .i64 o] F M (Same F M (.bool (pointsB l b o))) := by
  refine callsA_of hm Try.func67 e67 (Nat.le_of_ble_eq_true rfl) ?_
  obtain ⟨hl, ad, cap, hlc, rfl, h⟩ := h
  simp only [c67, go_sem, reduceCtorEq, reduceIte, Nat.reduceEqDiff, Nat.reduceAdd, Nat.reduceLeDiff, Nat.reduceMul, Int.reduceLT, Int.reduceLE, Int.reduceAdd, Int.reduceSub, Int.reduceMul, Int.reduceNeg, Int.reduceToNat, Int.reduceEq]
  refine loop_of (pnI l (.slice ad l.length cap) b o F M) l.length ?_ ?_
  · exact ⟨rfl, rfl, by simp only [go_sem, reduceCtorEq, reduceIte, Nat.reduceEqDiff], by simp only [go_sem, reduceCtorEq, reduceIte, Nat.reduceEqDiff], by simp only [go_sem, reduceCtorEq, reduceIte, Nat.reduceEqDiff], 0, by omega, by simp only [go_sem, reduceCtorEq, reduceIte, Nat.reduceEqDiff] <;> rfl, rfl⟩
  rintro m σ F' M' ⟨rfl, rfl, h0, h1, h2, i, hi, h7, ha⟩
  by_cases hil : (i : Int) < l.length
  · have hi0 : (0 : Int) ≤ i := by omega
    have hil' : i < l.length := by omega
    have ei : IntKind.i64.wrap ((i : Int) + 1) = i + 1 := w64 (by omega) (by omega)
    rcases h with h | ⟨g, p, cs, rfl, hb, hc⟩
    · rw [h] at hil'; simp at hil'
    obtain ⟨d1, d2⟩ := hc i hil'
    unfold pointsB at ha
    rw [List.drop_eq_getElem_cons hil', List.any_cons] at ha
    generalize l[i] = x at *
    obtain ⟨r1, r2, r3, r4⟩ := ba_row d1 d2
    by_cases hx : x.b = b
    · simp only [go_sem, reduceCtorEq, reduceIte, Nat.reduceEqDiff, Nat.reduceAdd, Nat.reduceLeDiff, Nat.reduceMul, Int.reduceLT, Int.reduceLE, Int.reduceAdd, Int.reduceSub, Int.reduceMul, Int.reduceNeg, Int.reduceToNat, Int.reduceEq, h0, h1, h2, h7, hil, hi0, Int.toNat_natCast, Nat.add_zero, hb, r1, r2, r3, r4, hx]
      refine callK_same (k40 _ _ x.v o) ?_
      cases hh : x.v.has o
      · simp only [go_sem, reduceCtorEq, reduceIte, Nat.reduceEqDiff, Nat.reduceAdd, Nat.reduceLeDiff, Nat.reduceMul, Int.reduceLT, Int.reduceLE, Int.reduceAdd, Int.reduceSub, Int.reduceMul, Int.reduceNeg, Int.reduceToNat, Int.reduceEq, h0, h1, h2, h7, ei]
        exact ⟨m - 1, by omega, rfl, rfl, by simp only [go_sem, reduceCtorEq, reduceIte, Nat.reduceEqDiff, h0], by simp only [go_sem, reduceCtorEq, reduceIte, Nat.reduceEqDiff, h1], by simp only [go_sem, reduceCtorEq, reduceIte, Nat.reduceEqDiff, h2], i + 1, by omega, by simp only [go_sem, reduceCtorEq, reduceIte, Nat.reduceEqDiff]; rfl, by unfold pointsB; rw [ha, hh]; simp⟩
      · simp only [go_sem, reduceCtorEq, reduceIte, Nat.reduceEqDiff, Nat.reduceAdd, Nat.reduceLeDiff, Nat.reduceMul, Int.reduceLT, Int.reduceLE, Int.reduceAdd, Int.reduceSub, Int.reduceMul, Int.reduceNeg, Int.reduceToNat, Int.reduceEq, h0, h1, h2, h7]
        exact endK_same ⟨by unfold pointsB; rw [ha, hh]; simp [hx], rfl, rfl⟩
    · simp only [go_sem, reduceCtorEq, reduceIte, Nat.reduceEqDiff, Nat.reduceAdd, Nat.reduceLeDiff, Nat.reduceMul, Int.reduceLT, Int.reduceLE, Int.reduceAdd, Int.reduceSub, Int.reduceMul, Int.reduceNeg, Int.reduceToNat, Int.reduceEq, h0, h1, h2, h7, hil, hi0, Int.toNat_natCast, Nat.add_zero, hb, r1, r2, r3, r4, hx, ei]
      exact ⟨m - 1, by omega, rfl, rfl, by simp only [go_sem, reduceCtorEq, reduceIte, Nat.reduceEqDiff, h0], by simp only [go_sem, reduceCtorEq, reduceIte, Nat.reduceEqDiff, h1], by simp only [go_sem, reduceCtorEq, reduceIte, Nat.reduceEqDiff, h2], i + 1, by omega, by simp only [go_sem, reduceCtorEq, reduceIte, Nat.reduceEqDiff]; rfl, by unfold pointsB; rw [ha]; simp [hx]⟩
  · have : l.drop i = [] := List.drop_eq_nil_of_le (by omega)
    rw [this] at ha
    simp only [go_sem, reduceCtorEq, reduceIte, Nat.reduceEqDiff, Nat.reduceAdd, Nat.reduceLeDiff, Nat.reduceMul, Int.reduceLT, Int.reduceLE, Int.reduceAdd, Int.reduceSub, Int.reduceMul, Int.reduceNeg, Int.reduceToNat, Int.reduceEq, h0, h1, h2, h7, hil]
    exact endK_same ⟨by rw [ha]; rfl, rfl, rfl⟩
theorem k23 (k : Int) (v : V) (u : Value) (l : List Ba) (s : Sc) (h : RdG 7 Ba.cs F M u l) : CallsA Try.prog 23 [.int .i64 k, abV v u, s.val] F M (Same F M (.bool (hasB k v l s))) := by
  refine callsA_of hm Try.func23 e23 (Nat.le_of_ble_eq_true rfl) ?_
  have h' := h
  obtain ⟨_, ad, cap, _, rfl, _⟩ := h
  simp only [c23, go_sem, reduceCtorEq, reduceIte, Nat.reduceEqDiff, Nat.reduceAdd, Nat.reduceLeDiff, Nat.reduceMul, Int.reduceLT, Int.reduceLE, Int.reduceAdd, Int.reduceSub, Int.reduceMul, Int.reduceNeg, Int.reduceToNat, Int.reduceEq]
  intro r4 hF4 hM4
  simp only [go_sem, reduceCtorEq, reduceIte, Nat.reduceEqDiff, Nat.reduceAdd, Nat.reduceLeDiff, Nat.reduceMul, Int.reduceLT, Int.reduceLE, Int.reduceAdd, Int.reduceSub, Int.reduceMul, Int.reduceNeg, Int.reduceToNat, Int.reduceEq]
  intro r5 hF5 hM5
  have g5 := fresh_of hM5
  have h2 := (h'.new hF4 hM4 (e := ⟨abCs v (.slice ad l.length cap), 37, 7⟩)).new hF5 hM5 (e := ⟨s.cs, 32, 4⟩)
  by_cases h7 : k = 7
  · simp only [go_sem, reduceCtorEq, reduceIte, Nat.reduceEqDiff, Nat.reduceAdd, Nat.reduceLeDiff, Nat.reduceMul, Int.reduceLT, Int.reduceLE, Int.reduceAdd, Int.reduceSub, Int.reduceMul, Int.reduceNeg, Int.reduceToNat, Int.reduceEq, g5, h7]
    refine callK_same (k67 _ _ _ l s.b s.o h2) ?_
    simp only [go_sem, reduceCtorEq, reduceIte, Nat.reduceEqDiff, Nat.reduceAdd, Nat.reduceLeDiff, Nat.reduceMul, Int.reduceLT, Int.reduceLE, Int.reduceAdd, Int.reduceSub, Int.reduceMul, Int.reduceNeg, Int.reduceToNat, Int.reduceEq, g5]
    exact endK_drop hM5 (endK_drop hM4 (endK_same ⟨by simp [hasB], rfl, rfl⟩))
  · simp only [go_sem, reduceCtorEq, reduceIte, Nat.reduceEqDiff, Nat.reduceAdd, Nat.reduceLeDiff, Nat.reduceMul, Int.reduceLT, Int.reduceLE, Int.reduceAdd, Int.reduceSub, Int.reduceMul, Int.reduceNeg, Int.reduceToNat, Int.reduceEq, g5, h7]
    refine callK_same (k40 _ _ v s.n) ?_
    simp only [go_sem, reduceCtorEq, reduceIte, Nat.reduceEqDiff, Nat.reduceAdd, Nat.reduceLeDiff, Nat.reduceMul, Int.reduceLT, Int.reduceLE, Int.reduceAdd, Int.reduceSub, Int.reduceMul, Int.reduceNeg, Int.reduceToNat, Int.reduceEq, g5]
    exact endK_drop hM5 (endK_drop hM4 (endK_same ⟨by simp [hasB, h7], rfl, rfl⟩))
/-- What could be read can be read. -/
def Old' (F : Fz) (M0 M : Hp) : Prop := ∀ {u : Value} {l : List Ba}, RdG 7 Ba.cs F M0 u l → RdG 7 Ba.cs F M u l
def ptI (l : List Ba) (u : Value) (F0 : Fz) (M0 : Hp) (m : Nat) (σ : Env) (F : Fz) (M : Hp) : Prop :=
  F = F0 ∧ Keep M0 M ∧ Old' F0 M0 M ∧ Ax.look σ 0 = some u ∧ ∃ i : Nat, i + m = l.length ∧ Ax.look σ 3 = some (.int .i64 i) ∧ ∀ j, j < i → okAt l j = true
theorem k63 (u : Value) (l : List Ba) (h : RdG 7 Ba.cs F M u l) : CallsA Try.prog 63 [u] F M (Same F M (.bool (ptrsB l))) := by
  refine callsA_of hm Try.func63 e63 (Nat.le_of_ble_eq_true rfl) ?_
  have h' := h
  obtain ⟨hl, ad, cap, hlc, rfl, _⟩ := h
  simp only [c63, go_sem, reduceCtorEq, reduceIte, Nat.reduceEqDiff, Nat.reduceAdd, Nat.reduceLeDiff, Nat.reduceMul, Int.reduceLT, Int.reduceLE, Int.reduceAdd, Int.reduceSub, Int.reduceMul, Int.reduceNeg, Int.reduceToNat, Int.reduceEq]
  by_cases hl7 : (7 : Int) < l.length
  · simp only [go_sem, reduceCtorEq, reduceIte, Nat.reduceEqDiff, Nat.reduceAdd, Nat.reduceLeDiff, Nat.reduceMul, Int.reduceLT, Int.reduceLE, Int.reduceAdd, Int.reduceSub, Int.reduceMul, Int.reduceNeg, Int.reduceToNat, Int.reduceEq, hl7]
    exact endK_same ⟨by simp [ptrsB]; omega, rfl, rfl⟩
  simp only [go_sem, reduceCtorEq, reduceIte, Nat.reduceEqDiff, Nat.reduceAdd, Nat.reduceLeDiff, Nat.reduceMul, Int.reduceLT, Int.reduceLE, Int.reduceAdd, Int.reduceSub, Int.reduceMul, Int.reduceNeg, Int.reduceToNat, Int.reduceEq, hl7]
  refine loop_of (ptI l (.slice ad l.length cap) F M) l.length ?_ ?_
  · exact ⟨rfl, Keep.refl _, fun h => h, by simp only [go_sem, reduceCtorEq, reduceIte, Nat.reduceEqDiff], 0, by omega, by simp only [go_sem, reduceCtorEq, reduceIte, Nat.reduceEqDiff] <;> rfl, by omega⟩
  rintro m σ F' M' ⟨rfl, kp, ro, h0, i, hi, h3, hok⟩
  by_cases hil : (i : Int) < l.length
  rotate_left
  · simp only [go_sem, reduceCtorEq, reduceIte, Nat.reduceEqDiff, Nat.reduceAdd, Nat.reduceLeDiff, Nat.reduceMul, Int.reduceLT, Int.reduceLE, Int.reduceAdd, Int.reduceSub, Int.reduceMul, Int.reduceNeg, Int.reduceToNat, Int.reduceEq, h0, h3, hil]
    exact endK_keep kp ⟨by rw [ptrs_yes (by omega) (fun j hj => hok j (by omega))], rfl, rfl⟩
  have hi0 : (0 : Int) ≤ i := by omega
  have hil' : i < l.length := by omega
  have ei : IntKind.i64.wrap ((i : Int) + 1) = i + 1 := w64 (by omega) (by omega)
  have ei1 : IntKind.i64.wrap ((i : Int) - 1) = i - 1 := w64 (by omega) (by omega)
  obtain ⟨_, _, _, _, eu, hrd⟩ := ro h'
  cases eu
  rcases hrd with h | ⟨g, p, cs, rfl, hb, hc⟩
  · rw [h] at hil'; simp at hil'
  obtain ⟨d1, d2⟩ := hc i hil'
  have hget : l[i]? = some l[i] := by simp
  obtain ⟨r1, r2, r3, r4⟩ := ba_row d1 d2
  simp only [go_sem, reduceCtorEq, reduceIte, Nat.reduceEqDiff, Nat.reduceAdd, Nat.reduceLeDiff, Nat.reduceMul, Int.reduceLT, Int.reduceLE, Int.reduceAdd, Int.reduceSub, Int.reduceMul, Int.reduceNeg, Int.reduceToNat, Int.reduceEq, h0, h3, hil, hi0, Int.toNat_natCast, hb, d1, d2]
  intro r hF hM
  have bg := blk_ne hb hF hM
  have no : okAt l i = false → ptrsB l = false := fun h => ptrs_no hil' h
  have kp2 : ∀ e, Keep M (M'.upd r e) := fun e => kp.new (kp.free hM)
  have ok1 : okAt l i = (baseB l[i] && (decide (i = 0) || match l[i - 1]? with | none => true | some y => decide (y.b < l[i].b))) := by
    unfold okAt; rw [hget]; rfl
  simp only [go_sem, reduceCtorEq, reduceIte, Nat.reduceEqDiff, Nat.reduceAdd, Nat.reduceLeDiff, Nat.reduceMul, Int.reduceLT, Int.reduceLE, Int.reduceAdd, Int.reduceSub, Int.reduceMul, Int.reduceNeg, Int.reduceToNat, Int.reduceEq, h0, h3]
  refine callK_same (k22 _ _ l[i].b 6) ?_
  cases hn : (decide (0 ≤ l[i].b) && decide (l[i].b ≤ 6))
  · have hno : ptrsB l = false := no (by rw [ok1]; simp only [baseB, hn]; simp)
    simp only [go_sem, reduceCtorEq, reduceIte, Nat.reduceEqDiff, Nat.reduceAdd, Nat.reduceLeDiff, Nat.reduceMul, Int.reduceLT, Int.reduceLE, Int.reduceAdd, Int.reduceSub, Int.reduceMul, Int.reduceNeg, Int.reduceToNat, Int.reduceEq, h0, h3]
    exact endK_keep (kp2 _) ⟨by rw [hno], rfl, rfl⟩
  -- the one ahead
  have prev : (0 : Int) < i → ∃ y, l[i - 1]? = some y ∧ cs[p + (i - 1) * 7]? = some (.int .i64 y.b) := by
    intro hi1
    obtain ⟨e1, e2⟩ := hc (i - 1) (by omega)
    exact ⟨l[i - 1], List.getElem?_eq_getElem (by omega), (ba_row e1 e2).1⟩
  have rest : ∀ (b2 : Bool), (decide (i = 0) || match l[i - 1]? with | none => true | some y => decide (y.b < l[i].b)) = b2 → okAt l i = (baseB l[i] && b2) := fun b2 h => by rw [ok1, h]
  have tail : ∀ (b2 : Bool), (decide (i = 0) || match l[i - 1]? with | none => true | some y => decide (y.b < l[i].b)) = b2 → (b2 = false → ptrsB l = false) ∧ (b2 = true → okAt l i = baseB l[i]) := fun b2 h => ⟨fun hb => no (by rw [rest b2 h, hb]; simp), fun hb => by rw [rest b2 h, hb]; simp⟩
  have nxt : ∀ σ' e, Ax.look σ' 0 = some (.slice (some ⟨g, p, none⟩) l.length cap) → Ax.look σ' 3 = some (.int .i64 (i + 1)) → okAt l i = true → ∃ m', m' < m ∧ ptI l (.slice (some ⟨g, p, none⟩) l.length cap) F' M m' σ' F' (M'.upd r e) := by
    intro σ' e q0 q3 hk
    refine ⟨m - 1, by omega, rfl, kp2 e, fun h => (ro h).new hF hM, q0, i + 1, by omega, q3, fun j hj => ?_⟩
    rcases Nat.lt_or_ge j i with h | h
    · exact hok j h
    · have : j = i := by omega
      rw [this]; exact hk
  generalize l[i] = x at *
  by_cases hi1 : (0 : Int) < i
  · obtain ⟨y, y1, y2⟩ := prev hi1
    have i1 : (0 : Int) ≤ (i : Int) - 1 := by omega
    have i2 : (i : Int) - 1 < l.length := by omega
    have i3 : ((i : Int) - 1).toNat = i - 1 := by omega
    have hi0' : ¬ i = 0 := by omega
    rw [y1] at tail
    by_cases hyx : x.b ≤ y.b
    · have hno := (tail false (by simp [hi0']; omega)).1 rfl
      simp only [go_sem, reduceCtorEq, reduceIte, Nat.reduceEqDiff, Nat.reduceAdd, Nat.reduceLeDiff, Nat.reduceMul, Int.reduceLT, Int.reduceLE, Int.reduceAdd, Int.reduceSub, Int.reduceMul, Int.reduceNeg, Int.reduceToNat, Int.reduceEq, h0, h3, hi1, ei1, i1, i2, i3, bg, hb, y2, Nat.add_zero, hyx]
      exact endK_keep (kp2 _) ⟨by rw [hno], rfl, rfl⟩
    · have hk := (tail true (by simp; omega)).2 rfl
      simp only [go_sem, reduceCtorEq, reduceIte, Nat.reduceEqDiff, Nat.reduceAdd, Nat.reduceLeDiff, Nat.reduceMul, Int.reduceLT, Int.reduceLE, Int.reduceAdd, Int.reduceSub, Int.reduceMul, Int.reduceNeg, Int.reduceToNat, Int.reduceEq, h0, h3, hi1, ei1, i1, i2, i3, bg, hb, y2, Nat.add_zero, hyx]
      refine callK_same (k36 _ _ x.v) ?_
      cases hv : x.v.ok
      · have hno : ptrsB l = false := no (by rw [hk]; simp [baseB, hv])
        simp only [go_sem, reduceCtorEq, reduceIte, Nat.reduceEqDiff, Nat.reduceAdd, Nat.reduceLeDiff, Nat.reduceMul, Int.reduceLT, Int.reduceLE, Int.reduceAdd, Int.reduceSub, Int.reduceMul, Int.reduceNeg, Int.reduceToNat, Int.reduceEq, h0, h3]
        exact endK_keep (kp2 _) ⟨by rw [hno], rfl, rfl⟩
      by_cases hw : x.v.w = 8
      rotate_left
      · have hno : ptrsB l = false := no (by rw [hk]; simp [baseB, hw])
        simp only [go_sem, reduceCtorEq, reduceIte, Nat.reduceEqDiff, Nat.reduceAdd, Nat.reduceLeDiff, Nat.reduceMul, Int.reduceLT, Int.reduceLE, Int.reduceAdd, Int.reduceSub, Int.reduceMul, Int.reduceNeg, Int.reduceToNat, Int.reduceEq, h0, h3, hw]
        exact endK_keep (kp2 _) ⟨by rw [hno], rfl, rfl⟩
      simp only [go_sem, reduceCtorEq, reduceIte, Nat.reduceEqDiff, Nat.reduceAdd, Nat.reduceLeDiff, Nat.reduceMul, Int.reduceLT, Int.reduceLE, Int.reduceAdd, Int.reduceSub, Int.reduceMul, Int.reduceNeg, Int.reduceToNat, Int.reduceEq, h0, h3, hw]
      refine callK_same (k62 _ _ x.v hv) ?_
      by_cases hb0 : x.b = 0
      rotate_left
      · simp only [onlyA_eq, go_sem, reduceCtorEq, reduceIte, Nat.reduceEqDiff, Nat.reduceAdd, Nat.reduceLeDiff, Nat.reduceMul, Int.reduceLT, Int.reduceLE, Int.reduceAdd, Int.reduceSub, Int.reduceMul, Int.reduceNeg, Int.reduceToNat, Int.reduceEq, h0, h3, hb0, ei]
        exact nxt _ _ (by simp only [go_sem, reduceCtorEq, reduceIte, Nat.reduceEqDiff, h0]) (by simp only [go_sem, reduceCtorEq, reduceIte, Nat.reduceEqDiff]) (by rw [hk]; simp only [baseB, hn, hv, hw]; simp [hb0])
      cases h1 : x.v.is1
      · have hno : ptrsB l = false := no (by rw [hk]; simp [baseB, hb0, h1])
        simp only [onlyA_eq, go_sem, reduceCtorEq, reduceIte, Nat.reduceEqDiff, Nat.reduceAdd, Nat.reduceLeDiff, Nat.reduceMul, Int.reduceLT, Int.reduceLE, Int.reduceAdd, Int.reduceSub, Int.reduceMul, Int.reduceNeg, Int.reduceToNat, Int.reduceEq, h0, h3, hb0, h1]
        exact endK_keep (kp2 _) ⟨by rw [hno], rfl, rfl⟩
      by_cases hn0 : x.v.nextR 0 = 0
      rotate_left
      · have hno : ptrsB l = false := no (by rw [hk]; simp [baseB, hb0, hn0])
        simp only [onlyA_eq, go_sem, reduceCtorEq, reduceIte, Nat.reduceEqDiff, Nat.reduceAdd, Nat.reduceLeDiff, Nat.reduceMul, Int.reduceLT, Int.reduceLE, Int.reduceAdd, Int.reduceSub, Int.reduceMul, Int.reduceNeg, Int.reduceToNat, Int.reduceEq, h0, h3, hb0, h1, hn0]
        exact endK_keep (kp2 _) ⟨by rw [hno], rfl, rfl⟩
      simp only [onlyA_eq, go_sem, reduceCtorEq, reduceIte, Nat.reduceEqDiff, Nat.reduceAdd, Nat.reduceLeDiff, Nat.reduceMul, Int.reduceLT, Int.reduceLE, Int.reduceAdd, Int.reduceSub, Int.reduceMul, Int.reduceNeg, Int.reduceToNat, Int.reduceEq, h0, h3, hb0, h1, hn0, ei]
      exact nxt _ _ (by simp only [go_sem, reduceCtorEq, reduceIte, Nat.reduceEqDiff, h0]) (by simp only [go_sem, reduceCtorEq, reduceIte, Nat.reduceEqDiff]) (by rw [hk]; simp only [baseB, hn, hv, hw, h1, hn0]; simp)
  · have hi0' : i = 0 := by omega
    have hk := (tail true (by simp [hi0'])).2 rfl
    simp only [go_sem, reduceCtorEq, reduceIte, Nat.reduceEqDiff, Nat.reduceAdd, Nat.reduceLeDiff, Nat.reduceMul, Int.reduceLT, Int.reduceLE, Int.reduceAdd, Int.reduceSub, Int.reduceMul, Int.reduceNeg, Int.reduceToNat, Int.reduceEq, h0, h3, hi1]
    refine callK_same (k36 _ _ x.v) ?_
    cases hv : x.v.ok
    · have hno : ptrsB l = false := no (by rw [hk]; simp [baseB, hv])
      simp only [go_sem, reduceCtorEq, reduceIte, Nat.reduceEqDiff, Nat.reduceAdd, Nat.reduceLeDiff, Nat.reduceMul, Int.reduceLT, Int.reduceLE, Int.reduceAdd, Int.reduceSub, Int.reduceMul, Int.reduceNeg, Int.reduceToNat, Int.reduceEq, h0, h3]
      exact endK_keep (kp2 _) ⟨by rw [hno], rfl, rfl⟩
    by_cases hw : x.v.w = 8
    rotate_left
    · have hno : ptrsB l = false := no (by rw [hk]; simp [baseB, hw])
      simp only [go_sem, reduceCtorEq, reduceIte, Nat.reduceEqDiff, Nat.reduceAdd, Nat.reduceLeDiff, Nat.reduceMul, Int.reduceLT, Int.reduceLE, Int.reduceAdd, Int.reduceSub, Int.reduceMul, Int.reduceNeg, Int.reduceToNat, Int.reduceEq, h0, h3, hw]
      exact endK_keep (kp2 _) ⟨by rw [hno], rfl, rfl⟩
    simp only [go_sem, reduceCtorEq, reduceIte, Nat.reduceEqDiff, Nat.reduceAdd, Nat.reduceLeDiff, Nat.reduceMul, Int.reduceLT, Int.reduceLE, Int.reduceAdd, Int.reduceSub, Int.reduceMul, Int.reduceNeg, Int.reduceToNat, Int.reduceEq, h0, h3, hw]
    refine callK_same (k62 _ _ x.v hv) ?_
    by_cases hb0 : x.b = 0
    rotate_left
    · simp only [onlyA_eq, go_sem, reduceCtorEq, reduceIte, Nat.reduceEqDiff, Nat.reduceAdd, Nat.reduceLeDiff, Nat.reduceMul, Int.reduceLT, Int.reduceLE, Int.reduceAdd, Int.reduceSub, Int.reduceMul, Int.reduceNeg, Int.reduceToNat, Int.reduceEq, h0, h3, hb0, ei]
      exact nxt _ _ (by simp only [go_sem, reduceCtorEq, reduceIte, Nat.reduceEqDiff, h0]) (by simp only [go_sem, reduceCtorEq, reduceIte, Nat.reduceEqDiff]) (by rw [hk]; simp only [baseB, hn, hv, hw]; simp [hb0])
    cases h1 : x.v.is1
    · have hno : ptrsB l = false := no (by rw [hk]; simp [baseB, hb0, h1])
      simp only [onlyA_eq, go_sem, reduceCtorEq, reduceIte, Nat.reduceEqDiff, Nat.reduceAdd, Nat.reduceLeDiff, Nat.reduceMul, Int.reduceLT, Int.reduceLE, Int.reduceAdd, Int.reduceSub, Int.reduceMul, Int.reduceNeg, Int.reduceToNat, Int.reduceEq, h0, h3, hb0, h1]
      exact endK_keep (kp2 _) ⟨by rw [hno], rfl, rfl⟩
    by_cases hn0 : x.v.nextR 0 = 0
    rotate_left
    · have hno : ptrsB l = false := no (by rw [hk]; simp [baseB, hb0, hn0])
      simp only [onlyA_eq, go_sem, reduceCtorEq, reduceIte, Nat.reduceEqDiff, Nat.reduceAdd, Nat.reduceLeDiff, Nat.reduceMul, Int.reduceLT, Int.reduceLE, Int.reduceAdd, Int.reduceSub, Int.reduceMul, Int.reduceNeg, Int.reduceToNat, Int.reduceEq, h0, h3, hb0, h1, hn0]
      exact endK_keep (kp2 _) ⟨by rw [hno], rfl, rfl⟩
    simp only [onlyA_eq, go_sem, reduceCtorEq, reduceIte, Nat.reduceEqDiff, Nat.reduceAdd, Nat.reduceLeDiff, Nat.reduceMul, Int.reduceLT, Int.reduceLE, Int.reduceAdd, Int.reduceSub, Int.reduceMul, Int.reduceNeg, Int.reduceToNat, Int.reduceEq, h0, h3, hb0, h1, hn0, ei]
    exact nxt _ _ (by simp only [go_sem, reduceCtorEq, reduceIte, Nat.reduceEqDiff, h0]) (by simp only [go_sem, reduceCtorEq, reduceIte, Nat.reduceEqDiff]) (by rw [hk]; simp only [baseB, hn, hv, hw, h1, hn0]; simp)
theorem k19 (k : Int) (v : V) (u : Value) (l : List Ba) (h : RdG 7 Ba.cs F M u l) : CallsA Try.prog 19 [.int .i64 k, abV v u] F M (Same F M (.bool (absB k v l))) := by
  refine callsA_of hm Try.func19 e19 (Nat.le_of_ble_eq_true rfl) ?_
  have h' := h
  obtain ⟨hl, ad, cap, _, rfl, _⟩ := h
  simp only [c19, go_sem, reduceCtorEq, reduceIte, Nat.reduceEqDiff, Nat.reduceAdd, Nat.reduceLeDiff, Nat.reduceMul, Int.reduceLT, Int.reduceLE, Int.reduceAdd, Int.reduceSub, Int.reduceMul, Int.reduceNeg, Int.reduceToNat, Int.reduceEq]
  intro r3 hF3 hM3
  have h2 := h'.new hF3 hM3 (e := ⟨abCs v (.slice ad l.length cap), 37, 7⟩)
  by_cases h7 : k = 7
  · simp only [go_sem, reduceCtorEq, reduceIte, Nat.reduceEqDiff, Nat.reduceAdd, Nat.reduceLeDiff, Nat.reduceMul, Int.reduceLT, Int.reduceLE, Int.reduceAdd, Int.reduceSub, Int.reduceMul, Int.reduceNeg, Int.reduceToNat, Int.reduceEq, h7]
    cases hv : decide (v = V.zero)
    · simp only [go_sem, reduceCtorEq, reduceIte, Nat.reduceEqDiff, Nat.reduceAdd, Nat.reduceLeDiff, Nat.reduceMul, Int.reduceLT, Int.reduceLE, Int.reduceAdd, Int.reduceSub, Int.reduceMul, Int.reduceNeg, Int.reduceToNat, Int.reduceEq]
      exact endK_drop hM3 (endK_same ⟨by simp only [absB, hv]; simp, rfl, rfl⟩)
    simp only [go_sem, reduceCtorEq, reduceIte, Nat.reduceEqDiff, Nat.reduceAdd, Nat.reduceLeDiff, Nat.reduceMul, Int.reduceLT, Int.reduceLE, Int.reduceAdd, Int.reduceSub, Int.reduceMul, Int.reduceNeg, Int.reduceToNat, Int.reduceEq]
    refine callK_same (k63 _ _ _ l h2) ?_
    simp only [go_sem, reduceCtorEq, reduceIte, Nat.reduceEqDiff, Nat.reduceAdd, Nat.reduceLeDiff, Nat.reduceMul, Int.reduceLT, Int.reduceLE, Int.reduceAdd, Int.reduceSub, Int.reduceMul, Int.reduceNeg, Int.reduceToNat, Int.reduceEq]
    exact endK_drop hM3 (endK_same ⟨by simp only [absB, hv]; simp, rfl, rfl⟩)
  · simp only [go_sem, reduceCtorEq, reduceIte, Nat.reduceEqDiff, Nat.reduceAdd, Nat.reduceLeDiff, Nat.reduceMul, Int.reduceLT, Int.reduceLE, Int.reduceAdd, Int.reduceSub, Int.reduceMul, Int.reduceNeg, Int.reduceToNat, Int.reduceEq, h7]
    refine callK_same (k46 _ _ k) ?_
    by_cases hw : 0 < wK k
    rotate_left
    · simp only [go_sem, reduceCtorEq, reduceIte, Nat.reduceEqDiff, Nat.reduceAdd, Nat.reduceLeDiff, Nat.reduceMul, Int.reduceLT, Int.reduceLE, Int.reduceAdd, Int.reduceSub, Int.reduceMul, Int.reduceNeg, Int.reduceToNat, Int.reduceEq, hw]
      exact endK_drop hM3 (endK_same ⟨by simp [absB, h7, hw], rfl, rfl⟩)
    simp only [go_sem, reduceCtorEq, reduceIte, Nat.reduceEqDiff, Nat.reduceAdd, Nat.reduceLeDiff, Nat.reduceMul, Int.reduceLT, Int.reduceLE, Int.reduceAdd, Int.reduceSub, Int.reduceMul, Int.reduceNeg, Int.reduceToNat, Int.reduceEq, hw]
    refine callK_same (k36 _ _ v) ?_
    cases hv : v.ok
    · simp only [go_sem, reduceCtorEq, reduceIte, Nat.reduceEqDiff, Nat.reduceAdd, Nat.reduceLeDiff, Nat.reduceMul, Int.reduceLT, Int.reduceLE, Int.reduceAdd, Int.reduceSub, Int.reduceMul, Int.reduceNeg, Int.reduceToNat, Int.reduceEq, hw]
      exact endK_drop hM3 (endK_same ⟨by simp [absB, h7, hv], rfl, rfl⟩)
    by_cases hvw : v.w = wK k
    rotate_left
    · simp only [go_sem, reduceCtorEq, reduceIte, Nat.reduceEqDiff, Nat.reduceAdd, Nat.reduceLeDiff, Nat.reduceMul, Int.reduceLT, Int.reduceLE, Int.reduceAdd, Int.reduceSub, Int.reduceMul, Int.reduceNeg, Int.reduceToNat, Int.reduceEq, hw, hvw]
      exact endK_drop hM3 (endK_same ⟨by simp [absB, h7, hvw], rfl, rfl⟩)
    by_cases hl0 : (l.length : Int) = 0
    · simp only [go_sem, reduceCtorEq, reduceIte, Nat.reduceEqDiff, Nat.reduceAdd, Nat.reduceLeDiff, Nat.reduceMul, Int.reduceLT, Int.reduceLE, Int.reduceAdd, Int.reduceSub, Int.reduceMul, Int.reduceNeg, Int.reduceToNat, Int.reduceEq, hw, hvw, hl0]
      have hd : decide (l.length = 0) = true := by rw [decide_eq_true_eq]; omega
      exact endK_drop hM3 (endK_same ⟨by unfold absB; rw [if_neg h7, hv, hd]; simp [hw, hvw], rfl, rfl⟩)
    · simp only [go_sem, reduceCtorEq, reduceIte, Nat.reduceEqDiff, Nat.reduceAdd, Nat.reduceLeDiff, Nat.reduceMul, Int.reduceLT, Int.reduceLE, Int.reduceAdd, Int.reduceSub, Int.reduceMul, Int.reduceNeg, Int.reduceToNat, Int.reduceEq, hw, hvw, hl0]
      have hd : decide (l.length = 0) = false := by rw [decide_eq_false_iff_not]; omega
      exact endK_drop hM3 (endK_same ⟨by unfold absB; rw [if_neg h7, hv, hd]; simp, rfl, rfl⟩)
end Go.Proofs.Try.K

/- Contracts: the page's only member of a set of scalars; what the program has of one. -/
namespace Go.Proofs.Try.K
open Go Go.Ax Go.Proofs.Try.S
set_option maxRecDepth 100000
set_option linter.unusedSimpArgs false
set_option linter.unusedVariables false
variable (F : Fz) (M : Hp)

def onI (l : List Ba) (ad : Option Addr) (cap : Nat) (v : V) (F0 : Fz) (M0 : Hp) (r3 r4 r8 : Nat) (m : Nat) (σ : Env) (F : Fz) (M : Hp) : Prop :=
  F = F0 ∧ Keep M0 M ∧ M0 r8 = none ∧ M0 r4 = none ∧ ¬ r3 = r8 ∧ ¬ r4 = r8 ∧ M r3 = some ⟨abCs v (.slice ad l.length cap), 37, 7⟩ ∧ M r4 = some ⟨(Sc.mk false 0 0 0).cs, 32, 4⟩ ∧
  (l = [] ∨ ∃ g p cs, ad = some ⟨g, p, none⟩ ∧ blk F0 M g = some cs ∧ ¬ g = r8 ∧ ∀ i (hi : i < l.length), p + i * 7 + 7 ≤ cs.length ∧ (cs.drop (p + i * 7)).take 7 = (l[i]).cs) ∧
  Ax.look σ 3 = some (.pointer (some ⟨r3, 0, none⟩)) ∧ Ax.look σ 4 = some (.pointer (some ⟨r4, 0, none⟩)) ∧ Ax.look σ 8 = some (.pointer (some ⟨r8, 0, none⟩)) ∧
  ∃ (i : Nat) (acc : Sc × Nat), i + m = l.length ∧ Ax.look σ 10 = some (.int .i64 i) ∧ Ax.look σ 9 = some (.int .i64 acc.2) ∧ M r8 = some ⟨acc.1.cs, 32, 4⟩ ∧ acc.2 ≤ 2 * i ∧ onlyP l = (l.drop i).foldl onlyStep acc
theorem k18 (k : Int) (v : V) (u : Value) (l : List Ba) (h : RdG 7 Ba.cs F M u l) (hs7 : l.length ≤ 1000000) (hv : ¬ k = 7 → v.ok = true) (hl : ∀ x ∈ l, 0 ≤ x.v.w ∧ x.v.w ≤ 62 ∧ x.v.ok = true) :
    CallsA Try.prog 18 [.int .i64 k, abV v u] F M (Same F M (.tuple #[(onlyB k v l).1.val, .bool (onlyB k v l).2])) := by
  refine callsA_of hm Try.func18 e18 (Nat.le_of_ble_eq_true rfl) ?_
  have h' := h
  obtain ⟨hle, ad, cap, _, rfl, _⟩ := h
  simp only [c18, go_sem, reduceCtorEq, reduceIte, Nat.reduceEqDiff, Nat.reduceAdd, Nat.reduceLeDiff, Nat.reduceMul, Int.reduceLT, Int.reduceLE, Int.reduceAdd, Int.reduceSub, Int.reduceMul, Int.reduceNeg, Int.reduceToNat, Int.reduceEq]
  intro r3 hF3 hM3
  simp only [go_sem, reduceCtorEq, reduceIte, Nat.reduceEqDiff, Nat.reduceAdd, Nat.reduceLeDiff, Nat.reduceMul, Int.reduceLT, Int.reduceLE, Int.reduceAdd, Int.reduceSub, Int.reduceMul, Int.reduceNeg, Int.reduceToNat, Int.reduceEq]
  intro r4 hF4 hM4
  have g4 := fresh_of hM4
  have h2 := (h'.new hF3 hM3 (e := ⟨abCs v (.slice ad l.length cap), 37, 7⟩)).new hF4 hM4 (e := ⟨(Sc.mk false 0 0 0).cs, 32, 4⟩)
  by_cases h7 : k = 7
  rotate_left
  · simp only [go_sem, reduceCtorEq, reduceIte, Nat.reduceEqDiff, Nat.reduceAdd, Nat.reduceLeDiff, Nat.reduceMul, Int.reduceLT, Int.reduceLE, Int.reduceAdd, Int.reduceSub, Int.reduceMul, Int.reduceNeg, Int.reduceToNat, Int.reduceEq, g4, h7]
    refine callK_same (k62 _ _ v (hv h7)) ?_
    simp only [onlyA_eq, go_sem, reduceCtorEq, reduceIte, Nat.reduceEqDiff, Nat.reduceAdd, Nat.reduceLeDiff, Nat.reduceMul, Int.reduceLT, Int.reduceLE, Int.reduceAdd, Int.reduceSub, Int.reduceMul, Int.reduceNeg, Int.reduceToNat, Int.reduceEq, g4]
    exact endK_keep (M := M) (((Keep.refl M).new hM3).new g4.2.2) ⟨by simp [onlyB, h7], rfl, rfl⟩
  simp only [go_sem, reduceCtorEq, reduceIte, Nat.reduceEqDiff, Nat.reduceAdd, Nat.reduceLeDiff, Nat.reduceMul, Int.reduceLT, Int.reduceLE, Int.reduceAdd, Int.reduceSub, Int.reduceMul, Int.reduceNeg, Int.reduceToNat, Int.reduceEq, g4, h7]
  intro r8 hF8 hM8
  have g8 := fresh_of hM8
  have g82 := fresh_of g8.2.2
  simp only [go_sem, reduceCtorEq, reduceIte, Nat.reduceEqDiff, Nat.reduceAdd, Nat.reduceLeDiff, Nat.reduceMul, Int.reduceLT, Int.reduceLE, Int.reduceAdd, Int.reduceSub, Int.reduceMul, Int.reduceNeg, Int.reduceToNat, Int.reduceEq, g4, g8, g82]
  refine loop_of (onI l ad cap v F M r3 r4 r8) l.length ?_ ?_
  · refine ⟨rfl, (((Keep.refl M).new hM3).new g4.2.2).new g82.2.2, g82.2.2, g4.2.2, g82.2.1, g8.2.1, ?_, ?_, ?_, by simp only [go_sem, reduceCtorEq, reduceIte, Nat.reduceEqDiff], by simp only [go_sem, reduceCtorEq, reduceIte, Nat.reduceEqDiff], by simp only [go_sem, reduceCtorEq, reduceIte, Nat.reduceEqDiff], 0, (⟨false, 0, 0, 0⟩, 0), by omega, by simp only [go_sem, reduceCtorEq, reduceIte, Nat.reduceEqDiff] <;> rfl, by simp only [go_sem, reduceCtorEq, reduceIte, Nat.reduceEqDiff] <;> rfl, Hp.upd_same _ _ _, by omega, rfl⟩
    · rw [Hp.upd_ne' g82.2.1, Hp.upd_ne' g4.2.1]; exact Hp.upd_same _ _ _
    · rw [Hp.upd_ne' g8.2.1]; exact Hp.upd_same _ _ _
    · obtain ⟨_, ad', cap', _, e, h3⟩ := h2
      cases e
      rcases h3 with h3 | ⟨b, o, cs, e1, e2, e3⟩
      · exact .inl h3
      · have := blk_ne e2 hF8 (by rw [upd_none]; exact ⟨g8.1, by rw [upd_none]; exact ⟨g82.1, g82.2.2⟩⟩)
        exact .inr ⟨b, o, cs, e1, by rw [blk_upd_ne this]; exact e2, this, e3⟩
  clear g4 g8 g82 h2 hM8 hM4 hM3 hF8 hF4 hF3
  rintro m σ F' M' ⟨rfl, kp, n8, n4, n38, n48, f3, f4, hrow, q3, q4, q8, i, acc, hi, q10, q9, f8, ha2, hf⟩
  have b3 := blk_M (F := F') f3
  have b8 := blk_M (F := F') f8
  by_cases hil : (i : Int) < l.length
  · have hi0 : (0 : Int) ≤ i := by omega
    have hil' : i < l.length := by omega
    have ei : IntKind.i64.wrap ((i : Int) + 1) = i + 1 := w64 (by omega) (by omega)
    rcases hrow with hr | ⟨g, p, cs, rfl, hb, ng, hc⟩
    · rw [hr] at hil'; simp at hil'
    obtain ⟨d1, d2⟩ := hc i hil'
    obtain ⟨w0, w1, xok⟩ := hl l[i] (List.getElem_mem _)
    rw [List.drop_eq_getElem_cons hil', List.foldl_cons] at hf
    generalize l[i] = x at *
    obtain ⟨r1, r2, r3', r4'⟩ := ba_row d1 d2
    have hmp := mostV_pos w1
    have hnx := nextR_le xok 0
    simp only [go_sem, reduceCtorEq, reduceIte, Nat.reduceEqDiff, Nat.reduceAdd, Nat.reduceLeDiff, Nat.reduceMul, Int.reduceLT, Int.reduceLE, Int.reduceAdd, Int.reduceSub, Int.reduceMul, Int.reduceNeg, Int.reduceToNat, Int.reduceEq, q3, q4, q8, q9, q10, hil, hi0, Int.toNat_natCast, b3, hb, r1, r2, r3', r4']
    refine callK_same (k41 _ _ x.v 0 w0 w1) ?_
    have e1 : IntKind.i64.wrap ((acc.2 : Int) + 1) = ((acc.2 + 1 : Nat) : Int) := w64 (by omega) (by omega)
    have e1' : IntKind.i64.wrap (((acc.2 + 1 : Nat) : Int) + 1) = ((acc.2 + 1 + 1 : Nat) : Int) := w64 (by omega) (by omega)
    have e2 : IntKind.i64.wrap (x.v.nextR 0 + 1) = x.v.nextR 0 + 1 := w64 (by omega) (by omega)
    have nxt : ∀ σ' (M2 : Hp) (acc' : Sc × Nat), Ax.look σ' 3 = Ax.look σ 3 → Ax.look σ' 4 = Ax.look σ 4 → Ax.look σ' 8 = Ax.look σ 8 → Ax.look σ' 10 = some (.int .i64 (i + 1)) → Ax.look σ' 9 = some (.int .i64 acc'.2) → onlyStep acc x = acc' → M2 = M'.upd r8 ⟨acc'.1.cs, 32, 4⟩ →
        ∃ m', m' < m ∧ onI l (some ⟨g, p, none⟩) cap v F' M r3 r4 r8 m' σ' F' M2 := by
      intro σ' M2 acc' p3 p4 p8 p10 p9 hs hM2
      subst hM2
      refine ⟨m - 1, by omega, rfl, kp.new n8, n8, n4, n38, n48, by rw [Hp.upd_ne' n38]; exact f3, by rw [Hp.upd_ne' n48]; exact f4, .inr ⟨g, p, cs, rfl, by rw [blk_upd_ne ng]; exact hb, ng, hc⟩, p3.trans q3, p4.trans q4, p8.trans q8, i + 1, acc', by omega, p10, p9, Hp.upd_same _ _ _, ?_, by rw [hf, hs]⟩
      rw [← hs]; unfold onlyStep; split
      · omega
      · simp only; split <;> omega
    have skip : ∀ σ', Ax.look σ' 3 = Ax.look σ 3 → Ax.look σ' 4 = Ax.look σ 4 → Ax.look σ' 8 = Ax.look σ 8 → Ax.look σ' 10 = some (.int .i64 (i + 1)) → Ax.look σ' 9 = Ax.look σ 9 → (x.v.nextR 0 < 0 ∨ 32 < x.v.nextR 0) → ∃ m', m' < m ∧ onI l (some ⟨g, p, none⟩) cap v F' M r3 r4 r8 m' σ' F' M' := by
      intro σ' p3 p4 p8 p10 p9 hs
      exact ⟨m - 1, by omega, rfl, kp, n8, n4, n38, n48, f3, f4, .inr ⟨g, p, cs, rfl, hb, ng, hc⟩, p3.trans q3, p4.trans q4, p8.trans q8, i + 1, acc, by omega, p10, p9.trans q9, f8, by omega, by rw [hf, onlyStep, if_pos hs]⟩
    by_cases h1 : x.v.nextR 0 < 0
    · simp only [go_sem, reduceCtorEq, reduceIte, Nat.reduceEqDiff, Nat.reduceAdd, Nat.reduceLeDiff, Nat.reduceMul, Int.reduceLT, Int.reduceLE, Int.reduceAdd, Int.reduceSub, Int.reduceMul, Int.reduceNeg, Int.reduceToNat, Int.reduceEq, q3, q4, q8, q9, q10, h1, ei]
      exact skip _ (by simp only [go_sem, reduceCtorEq, reduceIte, Nat.reduceEqDiff]) (by simp only [go_sem, reduceCtorEq, reduceIte, Nat.reduceEqDiff]) (by simp only [go_sem, reduceCtorEq, reduceIte, Nat.reduceEqDiff]) (by simp only [go_sem, reduceCtorEq, reduceIte, Nat.reduceEqDiff]) (by simp only [go_sem, reduceCtorEq, reduceIte, Nat.reduceEqDiff]) (.inl h1)
    by_cases h3 : 32 < x.v.nextR 0
    · simp only [go_sem, reduceCtorEq, reduceIte, Nat.reduceEqDiff, Nat.reduceAdd, Nat.reduceLeDiff, Nat.reduceMul, Int.reduceLT, Int.reduceLE, Int.reduceAdd, Int.reduceSub, Int.reduceMul, Int.reduceNeg, Int.reduceToNat, Int.reduceEq, q3, q4, q8, q9, q10, h1, h3, ei]
      exact skip _ (by simp only [go_sem, reduceCtorEq, reduceIte, Nat.reduceEqDiff]) (by simp only [go_sem, reduceCtorEq, reduceIte, Nat.reduceEqDiff]) (by simp only [go_sem, reduceCtorEq, reduceIte, Nat.reduceEqDiff]) (by simp only [go_sem, reduceCtorEq, reduceIte, Nat.reduceEqDiff]) (by simp only [go_sem, reduceCtorEq, reduceIte, Nat.reduceEqDiff]) (.inr h3)
    have hs : ¬ (x.v.nextR 0 < 0 ∨ 32 < x.v.nextR 0) := by omega
    simp only [go_sem, reduceCtorEq, reduceIte, Nat.reduceEqDiff, Nat.reduceAdd, Nat.reduceLeDiff, Nat.reduceMul, Int.reduceLT, Int.reduceLE, Int.reduceAdd, Int.reduceSub, Int.reduceMul, Int.reduceNeg, Int.reduceToNat, Int.reduceEq, q3, q4, q8, q9, q10, h1, h3, hil, hi0, Int.toNat_natCast, b3, hb, r1, r2, r3', r4', e1, e2]
    refine callK_same (k41 _ _ x.v _ w0 w1) ?_
    by_cases h4 : 0 ≤ x.v.nextR (x.v.nextR 0 + 1)
    · by_cases h5 : x.v.nextR (x.v.nextR 0 + 1) ≤ 32
      · simp only [go_sem, reduceCtorEq, reduceIte, Nat.reduceEqDiff, Nat.reduceAdd, Nat.reduceLeDiff, Nat.reduceMul, Int.reduceLT, Int.reduceLE, Int.reduceAdd, Int.reduceSub, Int.reduceMul, Int.reduceNeg, Int.reduceToNat, Int.reduceEq, q3, q4, q8, q9, q10, h4, h5, hil, hi0, Int.toNat_natCast, Nat.add_zero, b3, hb, r1, r2, r3', r4', e1, e1', e2, f8, ei]
        simp only [setH, go_sem, reduceCtorEq, reduceIte, Nat.reduceEqDiff, Nat.reduceAdd, Nat.reduceLeDiff, Nat.reduceMul, Int.reduceLT, Int.reduceLE, Int.reduceAdd, Int.reduceSub, Int.reduceMul, Int.reduceNeg, Int.reduceToNat, Int.reduceEq]
        exact nxt _ _ (⟨true, 0, x.b, x.v.nextR 0⟩, acc.2 + 1 + 1) (by simp only [go_sem, reduceCtorEq, reduceIte, Nat.reduceEqDiff]) (by simp only [go_sem, reduceCtorEq, reduceIte, Nat.reduceEqDiff]) (by simp only [go_sem, reduceCtorEq, reduceIte, Nat.reduceEqDiff]) (by simp only [go_sem, reduceCtorEq, reduceIte, Nat.reduceEqDiff]) (by simp only [go_sem, reduceCtorEq, reduceIte, Nat.reduceEqDiff]) (by rw [onlyStep, if_neg hs, if_pos ⟨h4, h5⟩]) rfl
      · simp only [go_sem, reduceCtorEq, reduceIte, Nat.reduceEqDiff, Nat.reduceAdd, Nat.reduceLeDiff, Nat.reduceMul, Int.reduceLT, Int.reduceLE, Int.reduceAdd, Int.reduceSub, Int.reduceMul, Int.reduceNeg, Int.reduceToNat, Int.reduceEq, q3, q4, q8, q9, q10, h4, h5, hil, hi0, Int.toNat_natCast, Nat.add_zero, b3, hb, r1, r2, r3', r4', e1, e2, f8, ei]
        simp only [setH, go_sem, reduceCtorEq, reduceIte, Nat.reduceEqDiff, Nat.reduceAdd, Nat.reduceLeDiff, Nat.reduceMul, Int.reduceLT, Int.reduceLE, Int.reduceAdd, Int.reduceSub, Int.reduceMul, Int.reduceNeg, Int.reduceToNat, Int.reduceEq]
        exact nxt _ _ (⟨true, 0, x.b, x.v.nextR 0⟩, acc.2 + 1) (by simp only [go_sem, reduceCtorEq, reduceIte, Nat.reduceEqDiff]) (by simp only [go_sem, reduceCtorEq, reduceIte, Nat.reduceEqDiff]) (by simp only [go_sem, reduceCtorEq, reduceIte, Nat.reduceEqDiff]) (by simp only [go_sem, reduceCtorEq, reduceIte, Nat.reduceEqDiff]) (by simp only [go_sem, reduceCtorEq, reduceIte, Nat.reduceEqDiff]) (by rw [onlyStep, if_neg hs, if_neg (fun h => h5 h.2)]) rfl
    · simp only [go_sem, reduceCtorEq, reduceIte, Nat.reduceEqDiff, Nat.reduceAdd, Nat.reduceLeDiff, Nat.reduceMul, Int.reduceLT, Int.reduceLE, Int.reduceAdd, Int.reduceSub, Int.reduceMul, Int.reduceNeg, Int.reduceToNat, Int.reduceEq, q3, q4, q8, q9, q10, h4, hil, hi0, Int.toNat_natCast, Nat.add_zero, b3, hb, r1, r2, r3', r4', e1, e2, f8, ei]
      simp only [setH, go_sem, reduceCtorEq, reduceIte, Nat.reduceEqDiff, Nat.reduceAdd, Nat.reduceLeDiff, Nat.reduceMul, Int.reduceLT, Int.reduceLE, Int.reduceAdd, Int.reduceSub, Int.reduceMul, Int.reduceNeg, Int.reduceToNat, Int.reduceEq]
      exact nxt _ _ (⟨true, 0, x.b, x.v.nextR 0⟩, acc.2 + 1) (by simp only [go_sem, reduceCtorEq, reduceIte, Nat.reduceEqDiff]) (by simp only [go_sem, reduceCtorEq, reduceIte, Nat.reduceEqDiff]) (by simp only [go_sem, reduceCtorEq, reduceIte, Nat.reduceEqDiff]) (by simp only [go_sem, reduceCtorEq, reduceIte, Nat.reduceEqDiff]) (by simp only [go_sem, reduceCtorEq, reduceIte, Nat.reduceEqDiff]) (by rw [onlyStep, if_neg hs, if_neg (fun h => h4 h.1)]) rfl
  · have : l.drop i = [] := List.drop_eq_nil_of_le (by omega)
    rw [this] at hf
    simp only [List.foldl_nil] at hf
    simp only [go_sem, reduceCtorEq, reduceIte, Nat.reduceEqDiff, Nat.reduceAdd, Nat.reduceLeDiff, Nat.reduceMul, Int.reduceLT, Int.reduceLE, Int.reduceAdd, Int.reduceSub, Int.reduceMul, Int.reduceNeg, Int.reduceToNat, Int.reduceEq, q3, q4, q8, q9, q10, hil, b3, b8, f4]
    simp only [setH, go_sem, reduceCtorEq, reduceIte, Nat.reduceEqDiff, Nat.reduceAdd, Nat.reduceLeDiff, Nat.reduceMul, Int.reduceLT, Int.reduceLE, Int.reduceAdd, Int.reduceSub, Int.reduceMul, Int.reduceNeg, Int.reduceToNat, Int.reduceEq]
    refine endK_keep (M := M) (kp.new n4) ⟨?_, rfl, rfl⟩
    simp only [onlyB, if_true, hf]
    congr 2
    simp
    omega
end Go.Proofs.Try.K

/- Contracts: what a set of scalars has, asked of the program. -/
namespace Go.Proofs.Try.K
open Go Go.Ax Go.Proofs.Try.S
set_option maxRecDepth 100000
set_option linter.unusedSimpArgs false
set_option linter.unusedVariables false
variable (F : Fz) (M : Hp)

def ixB (l : List Ba) (p : Ba → Bool) (u f : Value) (F0 : Fz) (M0 : Hp) (m : Nat) (σ : Env) (F : Fz) (M : Hp) : Prop :=
  F = F0 ∧ M = M0 ∧ Ax.look σ 0 = some u ∧ Ax.look σ 1 = some f ∧ Ax.look σ 7 = some (.int .i64 l.length) ∧ ∃ i : Nat, i + m = l.length ∧ Ax.look σ 8 = some (.int .i64 i) ∧ l.any p = (l.drop i).any p
theorem k139 (u : Value) (l : List Ba) (g : Nat) (ca : List Value) (p : Ba → Bool) (h : RdG 7 Ba.cs F M u l)
    (hp : ∀ v ∈ l, CallsA Try.prog g ([v.val] ++ ca) F M (Same F M (.bool (p v)))) :
    CallsA Try.prog 139 [u, .func (.func g) #[] ca.toArray] F M fun r F' M' => F' = F ∧ M' = M ∧ ∃ z : Int, r = .int .i64 z ∧ (0 ≤ z ↔ l.any p = true) := by
  refine callsA_of hm Try.func139 e139 (Nat.le_of_ble_eq_true rfl) ?_
  obtain ⟨hl, ad, cap, hlc, rfl, h⟩ := h
  simp only [c139, go_sem, reduceCtorEq, reduceIte, Nat.reduceEqDiff, Nat.reduceAdd, Nat.reduceLeDiff, Nat.reduceMul, Int.reduceLT, Int.reduceLE, Int.reduceAdd, Int.reduceSub, Int.reduceMul, Int.reduceNeg, Int.reduceToNat, Int.reduceEq]
  refine loop_of (ixB l p (.slice ad l.length cap) (.func (.func g) #[] ca.toArray) F M) l.length ?_ ?_
  · exact ⟨rfl, rfl, by simp only [go_sem, reduceCtorEq, reduceIte, Nat.reduceEqDiff], by simp only [go_sem, reduceCtorEq, reduceIte, Nat.reduceEqDiff], by simp only [go_sem, reduceCtorEq, reduceIte, Nat.reduceEqDiff], 0, by omega, by simp only [go_sem, reduceCtorEq, reduceIte, Nat.reduceEqDiff] <;> rfl, rfl⟩
  rintro m σ F' M' ⟨rfl, rfl, h0, h1, h7, i, hi, h8, ha⟩
  by_cases hil : (i : Int) < l.length
  · have hi0 : (0 : Int) ≤ i := by omega
    have hil' : i < l.length := by omega
    have ei : IntKind.i64.wrap ((i : Int) + 1) = i + 1 := w64 (by omega) (by omega)
    rcases h with h | ⟨b, o, cs, rfl, hb, hc⟩
    · rw [h] at hil'; simp at hil'
    obtain ⟨d1, d2⟩ := hc i hil'
    rw [List.drop_eq_getElem_cons hil', List.any_cons] at ha
    have hq := hp l[i] (List.getElem_mem _)
    generalize l[i] = v at *
    simp only [go_sem, reduceCtorEq, reduceIte, Nat.reduceEqDiff, Nat.reduceAdd, Nat.reduceLeDiff, Nat.reduceMul, Int.reduceLT, Int.reduceLE, Int.reduceAdd, Int.reduceSub, Int.reduceMul, Int.reduceNeg, Int.reduceToNat, Int.reduceEq, h0, h1, h7, h8, hil, hi0, Int.toNat_natCast, hb, d1, d2]
    refine callK_same hq ?_
    cases hv : p v
    · rw [hv, Bool.false_or] at ha
      simp only [go_sem, reduceCtorEq, reduceIte, Nat.reduceEqDiff, Nat.reduceAdd, Nat.reduceLeDiff, Nat.reduceMul, Int.reduceLT, Int.reduceLE, Int.reduceAdd, Int.reduceSub, Int.reduceMul, Int.reduceNeg, Int.reduceToNat, Int.reduceEq, h0, h1, h7, h8, ei]
      exact ⟨m - 1, by omega, rfl, rfl, by simp only [go_sem, reduceCtorEq, reduceIte, Nat.reduceEqDiff, h0], by simp only [go_sem, reduceCtorEq, reduceIte, Nat.reduceEqDiff, h1], by simp only [go_sem, reduceCtorEq, reduceIte, Nat.reduceEqDiff, h7], i + 1, by omega, by simp only [go_sem, reduceCtorEq, reduceIte, Nat.reduceEqDiff]; rfl, ha⟩
    · rw [hv, Bool.true_or] at ha
      simp only [go_sem, reduceCtorEq, reduceIte, Nat.reduceEqDiff, Nat.reduceAdd, Nat.reduceLeDiff, Nat.reduceMul, Int.reduceLT, Int.reduceLE, Int.reduceAdd, Int.reduceSub, Int.reduceMul, Int.reduceNeg, Int.reduceToNat, Int.reduceEq, h0, h1, h7, h8, ei]
      exact endK_same ⟨rfl, rfl, _, rfl, by simp [ha]⟩
  · have : l.drop i = [] := List.drop_eq_nil_of_le (by omega)
    rw [this] at ha
    simp only [go_sem, reduceCtorEq, reduceIte, Nat.reduceEqDiff, Nat.reduceAdd, Nat.reduceLeDiff, Nat.reduceMul, Int.reduceLT, Int.reduceLE, Int.reduceAdd, Int.reduceSub, Int.reduceMul, Int.reduceNeg, Int.reduceToNat, Int.reduceEq, h0, h1, h7, h8, hil]
    exact endK_same ⟨rfl, rfl, _, rfl, by rw [ha]; simp⟩
theorem k106 (u : Value) (l : List Ba) (g : Nat) (ca : List Value) (p : Ba → Bool) (h : RdG 7 Ba.cs F M u l)
    (hp : ∀ v ∈ l, CallsA Try.prog g ([v.val] ++ ca) F M (Same F M (.bool (p v)))) :
    CallsA Try.prog 106 [u, .func (.func g) #[] ca.toArray] F M (Same F M (.bool (l.any p))) := by
  refine callsA_of hm Try.func106 e106 (Nat.le_of_ble_eq_true rfl) ?_
  simp only [c106, go_sem, reduceCtorEq, reduceIte, Nat.reduceEqDiff, Nat.reduceAdd, Nat.reduceLeDiff, Nat.reduceMul, Int.reduceLT, Int.reduceLE, Int.reduceAdd, Int.reduceSub, Int.reduceMul, Int.reduceNeg, Int.reduceToNat, Int.reduceEq]
  refine callK_of (k139 F M u l g ca p h hp) ?_
  rintro r G M' ⟨hG, rfl, z, rfl, hz⟩
  rw [hG]
  refine ⟨(fun h => by cases h), ?_⟩
  simp only [go_sem, reduceCtorEq, reduceIte, Nat.reduceEqDiff, Nat.reduceAdd, Nat.reduceLeDiff, Nat.reduceMul, Int.reduceLT, Int.reduceLE, Int.reduceAdd, Int.reduceSub, Int.reduceMul, Int.reduceNeg, Int.reduceToNat, Int.reduceEq]
  have : decide (0 ≤ z) = l.any p := by
    cases hq : l.any p
    · rw [hq] at hz; simp at hz; simp; omega
    · simp [hz.2 hq]
  exact endK_same ⟨by rw [← this], rfl, rfl⟩
theorem k141 (x : Ba) (b o : Int) (p4 p5 : Nat) (e4 e5 : Ent) (h4 : M p4 = some e4) (c4 : e4.cells = [.int .i64 b]) (h5 : M p5 = some e5) (c5 : e5.cells = [.int .i64 o]) :
    CallsA Try.prog 141 [x.val, .pointer (some ⟨p4, 0, none⟩), .pointer (some ⟨p5, 0, none⟩)] F M (Same F M (.bool (decide (x.b = b) && x.v.has o))) := by
  refine callsA_of hm Try.func141 e141 (Nat.le_of_ble_eq_true rfl) ?_
  have b4 := blk_M (F := F) h4
  have b5 := blk_M (F := F) h5
  rw [c4] at b4
  rw [c5] at b5
  simp only [c141, go_sem, reduceCtorEq, reduceIte, Nat.reduceEqDiff, Nat.reduceAdd, Nat.reduceLeDiff, Nat.reduceMul, Int.reduceLT, Int.reduceLE, Int.reduceAdd, Int.reduceSub, Int.reduceMul, Int.reduceNeg, Int.reduceToNat, Int.reduceEq]
  intro r3 hF3 hM3
  have g4 := ne_of_none hM3 h4
  have g5 := ne_of_none hM3 h5
  by_cases hx : x.b = b
  · simp only [go_sem, reduceCtorEq, reduceIte, Nat.reduceEqDiff, Nat.reduceAdd, Nat.reduceLeDiff, Nat.reduceMul, Int.reduceLT, Int.reduceLE, Int.reduceAdd, Int.reduceSub, Int.reduceMul, Int.reduceNeg, Int.reduceToNat, Int.reduceEq, g4, g5, b4, b5, hx]
    refine callK_same (k113 _ _ x.v o) ?_
    simp only [go_sem, reduceCtorEq, reduceIte, Nat.reduceEqDiff, Nat.reduceAdd, Nat.reduceLeDiff, Nat.reduceMul, Int.reduceLT, Int.reduceLE, Int.reduceAdd, Int.reduceSub, Int.reduceMul, Int.reduceNeg, Int.reduceToNat, Int.reduceEq]
    exact endK_drop hM3 (endK_same ⟨by simp, rfl, rfl⟩)
  · simp only [go_sem, reduceCtorEq, reduceIte, Nat.reduceEqDiff, Nat.reduceAdd, Nat.reduceLeDiff, Nat.reduceMul, Int.reduceLT, Int.reduceLE, Int.reduceAdd, Int.reduceSub, Int.reduceMul, Int.reduceNeg, Int.reduceToNat, Int.reduceEq, g4, g5, b4, b5, hx]
    exact endK_drop hM3 (endK_same ⟨by simp, rfl, rfl⟩)
theorem k112 (u : Value) (l : List Ba) (b o : Int) (h : RdG 7 Ba.cs F M u l) : CallsA Try.prog 112 [u, .int .i64 b, .int .i64 o] F M (Same F M (.bool (decide (o ≤ 32) && pointsB l b o))) := by
  refine callsA_of hm Try.func112 e112 (Nat.le_of_ble_eq_true rfl) ?_
  have h' := h
  obtain ⟨_, ad, cap, _, rfl, _⟩ := h
  simp only [c112, go_sem, reduceCtorEq, reduceIte, Nat.reduceEqDiff, Nat.reduceAdd, Nat.reduceLeDiff, Nat.reduceMul, Int.reduceLT, Int.reduceLE, Int.reduceAdd, Int.reduceSub, Int.reduceMul, Int.reduceNeg, Int.reduceToNat, Int.reduceEq]
  intro r4 hF4 hM4
  simp only [go_sem, reduceCtorEq, reduceIte, Nat.reduceEqDiff, Nat.reduceAdd, Nat.reduceLeDiff, Nat.reduceMul, Int.reduceLT, Int.reduceLE, Int.reduceAdd, Int.reduceSub, Int.reduceMul, Int.reduceNeg, Int.reduceToNat, Int.reduceEq]
  intro r5 hF5 hM5
  have g5 := fresh_of hM5
  by_cases ho : o ≤ 32
  · have h2 := (h'.new hF4 hM4 (e := ⟨[.int .i64 b], 3, 1⟩)).new hF5 hM5 (e := ⟨[.int .i64 o], 3, 1⟩)
    simp only [go_sem, reduceCtorEq, reduceIte, Nat.reduceEqDiff, Nat.reduceAdd, Nat.reduceLeDiff, Nat.reduceMul, Int.reduceLT, Int.reduceLE, Int.reduceAdd, Int.reduceSub, Int.reduceMul, Int.reduceNeg, Int.reduceToNat, Int.reduceEq, g5, ho]
    refine callK_same (k106 F _ _ l _ [.pointer (some ⟨r4, 0, none⟩), .pointer (some ⟨r5, 0, none⟩)] (fun x => decide (x.b = b) && x.v.has o) h2 ?_) ?_
    · intro x hx
      exact k141 F _ x b o r4 r5 _ _ (by rw [Hp.upd_ne' g5.2.1]; exact Hp.upd_same _ _ _) rfl (Hp.upd_same _ _ _) rfl
    simp only [go_sem, reduceCtorEq, reduceIte, Nat.reduceEqDiff, Nat.reduceAdd, Nat.reduceLeDiff, Nat.reduceMul, Int.reduceLT, Int.reduceLE, Int.reduceAdd, Int.reduceSub, Int.reduceMul, Int.reduceNeg, Int.reduceToNat, Int.reduceEq]
    exact endK_drop hM5 (endK_drop hM4 (endK_same ⟨by simp [pointsB], rfl, rfl⟩))
  · simp only [go_sem, reduceCtorEq, reduceIte, Nat.reduceEqDiff, Nat.reduceAdd, Nat.reduceLeDiff, Nat.reduceMul, Int.reduceLT, Int.reduceLE, Int.reduceAdd, Int.reduceSub, Int.reduceMul, Int.reduceNeg, Int.reduceToNat, Int.reduceEq, g5, ho]
    exact endK_drop hM5 (endK_drop hM4 (endK_same ⟨by simp, rfl, rfl⟩))
def holdsB (k : Int) (v : V) (l : List Ba) (s : Sc) : Bool := if k = 7 then decide (s.o ≤ 32) && pointsB l s.b s.o else v.has s.n
theorem k72 (k : Int) (v : V) (u : Value) (l : List Ba) (s : Sc) (h : RdG 7 Ba.cs F M u l) : CallsA Try.prog 72 [.int .i64 k, abV v u, s.val] F M (Same F M (.bool (holdsB k v l s))) := by
  refine callsA_of hm Try.func72 e72 (Nat.le_of_ble_eq_true rfl) ?_
  have h' := h
  obtain ⟨_, ad, cap, _, rfl, _⟩ := h
  simp only [c72, go_sem, reduceCtorEq, reduceIte, Nat.reduceEqDiff, Nat.reduceAdd, Nat.reduceLeDiff, Nat.reduceMul, Int.reduceLT, Int.reduceLE, Int.reduceAdd, Int.reduceSub, Int.reduceMul, Int.reduceNeg, Int.reduceToNat, Int.reduceEq]
  intro r4 hF4 hM4
  simp only [go_sem, reduceCtorEq, reduceIte, Nat.reduceEqDiff, Nat.reduceAdd, Nat.reduceLeDiff, Nat.reduceMul, Int.reduceLT, Int.reduceLE, Int.reduceAdd, Int.reduceSub, Int.reduceMul, Int.reduceNeg, Int.reduceToNat, Int.reduceEq]
  intro r5 hF5 hM5
  have g5 := fresh_of hM5
  have h2 := (h'.new hF4 hM4 (e := ⟨abCs v (.slice ad l.length cap), 37, 7⟩)).new hF5 hM5 (e := ⟨s.cs, 32, 4⟩)
  by_cases h7 : k = 7
  · simp only [go_sem, reduceCtorEq, reduceIte, Nat.reduceEqDiff, Nat.reduceAdd, Nat.reduceLeDiff, Nat.reduceMul, Int.reduceLT, Int.reduceLE, Int.reduceAdd, Int.reduceSub, Int.reduceMul, Int.reduceNeg, Int.reduceToNat, Int.reduceEq, g5, h7]
    refine callK_same (k112 _ _ _ l s.b s.o h2) ?_
    simp only [go_sem, reduceCtorEq, reduceIte, Nat.reduceEqDiff, Nat.reduceAdd, Nat.reduceLeDiff, Nat.reduceMul, Int.reduceLT, Int.reduceLE, Int.reduceAdd, Int.reduceSub, Int.reduceMul, Int.reduceNeg, Int.reduceToNat, Int.reduceEq, g5]
    exact endK_drop hM5 (endK_drop hM4 (endK_same ⟨by simp [holdsB], rfl, rfl⟩))
  · simp only [go_sem, reduceCtorEq, reduceIte, Nat.reduceEqDiff, Nat.reduceAdd, Nat.reduceLeDiff, Nat.reduceMul, Int.reduceLT, Int.reduceLE, Int.reduceAdd, Int.reduceSub, Int.reduceMul, Int.reduceNeg, Int.reduceToNat, Int.reduceEq, g5, h7]
    refine callK_same (k113 _ _ v s.n) ?_
    simp only [go_sem, reduceCtorEq, reduceIte, Nat.reduceEqDiff, Nat.reduceAdd, Nat.reduceLeDiff, Nat.reduceMul, Int.reduceLT, Int.reduceLE, Int.reduceAdd, Int.reduceSub, Int.reduceMul, Int.reduceNeg, Int.reduceToNat, Int.reduceEq, g5]
    exact endK_drop hM5 (endK_drop hM4 (endK_same ⟨by simp [holdsB, h7], rfl, rfl⟩))
theorem baseB_eq (x : Ba) : baseB x = ((decide (0 ≤ x.b) && decide (x.b ≤ 6)) && x.v.ok && decide (x.v.w = 8) && (decide (0 < x.b) || x.v.is1 && decide (x.v.nextR 0 = 0))) := by
  unfold baseB
  by_cases h0 : 0 ≤ x.b
  · by_cases h1 : x.b = 0
    · simp [h1]
    · have : 0 < x.b := by omega
      simp [h1, this]
  · simp [h0]
theorem k138 (x : Ba) : CallsA Try.prog 138 [x.val] F M (Same F M (.bool (baseB x))) := by
  refine callsA_of hm Try.func138 e138 (Nat.le_of_ble_eq_true rfl) ?_
  rw [baseB_eq]
  simp only [c138, go_sem, reduceCtorEq, reduceIte, Nat.reduceEqDiff, Nat.reduceAdd, Nat.reduceLeDiff, Nat.reduceMul, Int.reduceLT, Int.reduceLE, Int.reduceAdd, Int.reduceSub, Int.reduceMul, Int.reduceNeg, Int.reduceToNat, Int.reduceEq]
  intro r1 hF1 hM1
  by_cases h0 : x.b < 0
  · have : ¬ 0 ≤ x.b := by omega
    simp only [go_sem, reduceCtorEq, reduceIte, Nat.reduceEqDiff, Nat.reduceAdd, Nat.reduceLeDiff, Nat.reduceMul, Int.reduceLT, Int.reduceLE, Int.reduceAdd, Int.reduceSub, Int.reduceMul, Int.reduceNeg, Int.reduceToNat, Int.reduceEq, h0]
    exact endK_drop hM1 (endK_same ⟨by simp [this], rfl, rfl⟩)
  by_cases h6 : 6 < x.b
  · have : ¬ x.b ≤ 6 := by omega
    simp only [go_sem, reduceCtorEq, reduceIte, Nat.reduceEqDiff, Nat.reduceAdd, Nat.reduceLeDiff, Nat.reduceMul, Int.reduceLT, Int.reduceLE, Int.reduceAdd, Int.reduceSub, Int.reduceMul, Int.reduceNeg, Int.reduceToNat, Int.reduceEq, h0, h6]
    exact endK_drop hM1 (endK_same ⟨by simp [this], rfl, rfl⟩)
  by_cases hw : x.v.w = 8
  rotate_left
  · simp only [go_sem, reduceCtorEq, reduceIte, Nat.reduceEqDiff, Nat.reduceAdd, Nat.reduceLeDiff, Nat.reduceMul, Int.reduceLT, Int.reduceLE, Int.reduceAdd, Int.reduceSub, Int.reduceMul, Int.reduceNeg, Int.reduceToNat, Int.reduceEq, h0, h6, hw]
    exact endK_drop hM1 (endK_same ⟨by simp [hw], rfl, rfl⟩)
  simp only [go_sem, reduceCtorEq, reduceIte, Nat.reduceEqDiff, Nat.reduceAdd, Nat.reduceLeDiff, Nat.reduceMul, Int.reduceLT, Int.reduceLE, Int.reduceAdd, Int.reduceSub, Int.reduceMul, Int.reduceNeg, Int.reduceToNat, Int.reduceEq, h0, h6, hw]
  refine callK_same (k74 _ _ x.v) ?_
  cases hv : x.v.ok
  · simp only [go_sem, reduceCtorEq, reduceIte, Nat.reduceEqDiff, Nat.reduceAdd, Nat.reduceLeDiff, Nat.reduceMul, Int.reduceLT, Int.reduceLE, Int.reduceAdd, Int.reduceSub, Int.reduceMul, Int.reduceNeg, Int.reduceToNat, Int.reduceEq, h0, h6, hw]
    exact endK_drop hM1 (endK_same ⟨by simp, rfl, rfl⟩)
  have e0 : 0 ≤ x.b := by omega
  have e6 : x.b ≤ 6 := by omega
  simp only [go_sem, reduceCtorEq, reduceIte, Nat.reduceEqDiff, Nat.reduceAdd, Nat.reduceLeDiff, Nat.reduceMul, Int.reduceLT, Int.reduceLE, Int.reduceAdd, Int.reduceSub, Int.reduceMul, Int.reduceNeg, Int.reduceToNat, Int.reduceEq, h0, h6, hw]
  refine callK_same (k110 _ _ x.v hv) ?_
  by_cases hb : 0 < x.b
  · simp only [loneA, go_sem, reduceCtorEq, reduceIte, Nat.reduceEqDiff, Nat.reduceAdd, Nat.reduceLeDiff, Nat.reduceMul, Int.reduceLT, Int.reduceLE, Int.reduceAdd, Int.reduceSub, Int.reduceMul, Int.reduceNeg, Int.reduceToNat, Int.reduceEq, hb]
    exact endK_drop hM1 (endK_same ⟨by simp [e0, e6, hw, hv, hb], rfl, rfl⟩)
  cases h1 : x.v.is1
  · simp only [loneA, go_sem, reduceCtorEq, reduceIte, Nat.reduceEqDiff, Nat.reduceAdd, Nat.reduceLeDiff, Nat.reduceMul, Int.reduceLT, Int.reduceLE, Int.reduceAdd, Int.reduceSub, Int.reduceMul, Int.reduceNeg, Int.reduceToNat, Int.reduceEq, hb, h1]
    exact endK_drop hM1 (endK_same ⟨by simp [hb], rfl, rfl⟩)
  · simp only [loneA, go_sem, reduceCtorEq, reduceIte, Nat.reduceEqDiff, Nat.reduceAdd, Nat.reduceLeDiff, Nat.reduceMul, Int.reduceLT, Int.reduceLE, Int.reduceAdd, Int.reduceSub, Int.reduceMul, Int.reduceNeg, Int.reduceToNat, Int.reduceEq, hb, h1]
    exact endK_drop hM1 (endK_same ⟨by simp [e0, e6, hw, hv, hb], rfl, rfl⟩)
end Go.Proofs.Try.K
