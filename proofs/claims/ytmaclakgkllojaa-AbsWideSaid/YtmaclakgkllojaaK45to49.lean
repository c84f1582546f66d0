/- Parts K45to49: the machine's runs of small codes, contracts of functions, plain facts. -/
import Derived.Test.YtmaclakgkllojaaProg
import Derived.Test.YtmaclakgkllojaaK40to44
namespace Go.Proofs.Try.S
open Go Go.Ax Go.Ax.N
set_option maxRecDepth 100000

/-- cellar/cellarlaw15.Heavy -/
def c14 : SF := ⟨34, [.t 2], (.seq (.ops [k 1 (.bx 29 (t 0)),
 o 2 (.mv (b false))])
 (.seq (.ops [o 5 (.fa 1 (t 1)),
 o 6 (.ld false 1 (t 5)),
 o 7 (.ln (t 6)),
 o 3 (.mv (t 7))])
 (.seq (.seq (.ops [o 4 (.mv (i 0))])
 (.block 0 (.loop (.seq (.seq (.ops [o 8 (.mv (t 4)),
 o 9 (.fa 0 (t 1)),
 o 10 (.ld false 1 (t 9)),
 o 11 (.ln (t 10)),
 o 12 (.bin .lss (t 8) (t 11)),
 o 13 (.mv (t 12)),
 og 14 13 true (.mv (t 3)),
 og 15 13 true (.bin .lss (t 14) (i 1048576)),
 o 16 (.pick (t 13) (t 15) (b false))])
 (.cond (t 16)
 .skip
 (.exit 0)))
 (.seq (.block 1 (.ops [o 19 (.mv (t 3)),
 o 20 (.fa 0 (t 1)),
 o 21 (.ld false 1 (t 20)),
 o 22 (.mv (t 4)),
 o 23 (.ia 7 (t 21) (t 22)),
 o 24 (.ld true 7 (t 23)),
 k 25 (.ca (.func 59) [(t 24)]),
 o 26 (.bin .add (t 19) (t 25)),
 o 3 (.mv (t 26))]))
 (.ops [o 17 (.mv (t 4)),
 o 18 (.bin .add (t 17) (i 1)),
 o 4 (.mv (t 18))]))))))
 (.seq (.ops [o 27 (.mv (t 3)),
 o 28 (.bin .gtr (t 27) (i 400)),
 o 29 (.mv (t 28)),
 og 30 29 false (.fa 2 (t 1)),
 og 31 29 false (.ld true 2 (t 30)),
 ⟨some 32, some (29, false), .ca (.func 34) [(t 31)]⟩,
 o 33 (.pick (t 29) (b true) (t 32)),
 o 2 (.mv (t 33))])
 .ret))))⟩
theorem e14 : slimF Try.prog Try.f14 [] = some c14 := by kernel_rfl
/-- cellar/cellarlaw15.wakes -/
def c24 : SF := ⟨48, [.t 0], (.seq (.ops [o 0 (.mv (b false))])
 (.seq (.ops [o 8 (.bd [.bool false, .int .i64 0, .int .i64 0, .int .i64 0] [(0, 1, (b true))]),
 k 9 (.ca (.func 15) [(i 7), (t 8)]),
 o 7 (.mv (t 9)),
 o 10 (.ex (t 7) 0),
 o 11 (.ex (t 7) 1),
 k 1 (.al 37 [.int .i64 0, .bool false, .int .i64 0, .int .i64 0, .int .i64 0, .int .i64 0, .slice none 0 0]),
 kn (.st [] 7 (t 1) (t 10)),
 o 2 (.mv (t 11))])
 (.seq (.ops [o 13 (.ld true 7 (t 1)),
 o 14 (.bd [.bool false, .int .i64 0, .int .i64 0, .int .i64 0] [(0, 1, (b true))]),
 k 15 (.ca (.func 31) [(i 7), (t 13), (t 14)]),
 o 12 (.mv (t 15)),
 o 16 (.ex (t 12) 0),
 o 17 (.ex (t 12) 1),
 o 3 (.mv (t 16)),
 o 4 (.mv (t 17))])
 (.seq (.ops [o 19 (.ld true 7 (t 1)),
 o 20 (.bd [.bool false, .int .i64 0, .int .i64 0, .int .i64 0] [(0, 1, (b true)), (2, 1, (i 1))]),
 k 21 (.ca (.func 31) [(i 7), (t 19), (t 20)]),
 o 18 (.mv (t 21)),
 o 22 (.ex (t 18) 0),
 o 23 (.ex (t 18) 1),
 o 5 (.mv (t 22)),
 o 6 (.mv (t 23))])
 (.seq (.ops [o 24 (.mv (t 2)),
 k 25 (.ca (.func 17) [(t 24)]),
 o 26 (.bin .eql (t 25) (i 0)),
 o 27 (.mv (t 26)),
 og 28 27 true (.mv (t 4)),
 ⟨some 29, some (27, true), .ca (.func 17) [(t 28)]⟩,
 og 30 27 true (.bin .eql (t 29) (i 0)),
 o 31 (.pick (t 27) (t 30) (b false)),
 o 32 (.mv (t 31)),
 og 33 32 true (.mv (t 6)),
 ⟨some 34, some (32, true), .ca (.func 17) [(t 33)]⟩,
 og 35 32 true (.bin .eql (t 34) (i 0)),
 o 36 (.pick (t 32) (t 35) (b false)),
 o 37 (.mv (t 36)),
 og 38 37 true (.mv (t 3)),
 o 39 (.pick (t 37) (t 38) (b false)),
 o 40 (.mv (t 39)),
 og 41 40 true (.mv (t 5)),
 og 42 40 true (.un .not (t 41)),
 o 43 (.pick (t 40) (t 42) (b false)),
 o 44 (.mv (t 43)),
 og 45 44 true (.ld true 7 (t 1)),
 ⟨some 46, some (44, true), .ca (.func 19) [(i 7), (t 45)]⟩,
 o 47 (.pick (t 44) (t 46) (b false)),
 o 0 (.mv (t 47))])
 .ret)))))⟩
theorem e24 : slimF Try.prog Try.f24 [] = some c24 := by kernel_rfl
/-- cellar/cellarlaw15.sets -/
def c25 : SF := ⟨38, [.t 2], (.seq (.ops [k 1 (.bx 29 (t 0)),
 o 2 (.mv (.const (.slice none 0 0)))])
 (.seq (.ops [o 5 (.bd [.int .i64 0, .bool false, .int .i64 0, .int .i64 0, .int .i64 0, .int .i64 0, .slice none 0 0] []),
 k 6 (.bs 37 1 [.int .i64 0, .bool false, .int .i64 0, .int .i64 0, .int .i64 0, .int .i64 0, .slice none 0 0] [(0, 7, (t 5))]),
 o 7 (.fa 0 (t 1)),
 o 8 (.ld false 1 (t 7)),
 k 9 (.ap 37 7 72 (t 6) (t 8)),
 o 3 (.mv (t 9))])
 (.seq (.seq (.ops [o 10 (.mv (t 3)),
 o 11 (.ln (t 10)),
 o 12 (.bin .gtr (t 11) (i 6))])
 (.cond (t 12)
 (.ops [o 13 (.mv (t 3)),
 o 14 (.sl 7 (t 13) none (some (i 6))),
 o 3 (.mv (t 14))])
 .skip))
 (.seq (.seq (.ops [o 4 (.mv (i 0))])
 (.block 0 (.loop (.seq (.seq (.ops [o 15 (.mv (t 4)),
 o 16 (.fa 2 (t 1)),
 o 17 (.fa 0 (t 16)),
 o 18 (.ld false 1 (t 17)),
 o 19 (.ln (t 18)),
 o 20 (.bin .lss (t 15) (t 19)),
 o 21 (.mv (t 20)),
 og 22 21 true (.mv (t 4)),
 og 23 21 true (.bin .lss (t 22) (i 4)),
 o 24 (.pick (t 21) (t 23) (b false))])
 (.cond (t 24)
 .skip
 (.exit 0)))
 (.seq (.block 1 (.ops [o 27 (.mv (t 3)),
 o 28 (.fa 2 (t 1)),
 o 29 (.fa 0 (t 28)),
 o 30 (.ld false 1 (t 29)),
 o 31 (.mv (t 4)),
 o 32 (.ia 6 (t 30) (t 31)),
 o 33 (.ld true 6 (t 32)),
 o 34 (.bd [.int .i64 0, .bool false, .int .i64 0, .int .i64 0, .int .i64 0, .int .i64 0, .slice none 0 0] [(0, 6, (t 33))]),
 k 35 (.bs 37 1 [.int .i64 0, .bool false, .int .i64 0, .int .i64 0, .int .i64 0, .int .i64 0, .slice none 0 0] [(0, 7, (t 34))]),
 k 36 (.ap 37 7 72 (t 27) (t 35)),
 o 3 (.mv (t 36))]))
 (.ops [o 25 (.mv (t 4)),
 o 26 (.bin .add (t 25) (i 1)),
 o 4 (.mv (t 26))]))))))
 (.seq (.ops [o 37 (.mv (t 3)),
 o 2 (.mv (t 37))])
 .ret)))))⟩
theorem e25 : slimF Try.prog Try.f25 [] = some c25 := by kernel_rfl
/-- cellar/cellarref0.CopyAbs -/
def c26 : SF := ⟨10, [.c true 7 2], (.seq (.ops [k 1 (.bx 37 (t 0)),
 k 2 (.al 37 [.int .i64 0, .bool false, .int .i64 0, .int .i64 0, .int .i64 0, .int .i64 0, .slice none 0 0])])
 (.seq (.ops [o 4 (.ld true 7 (t 1)),
 k 3 (.al 37 [.int .i64 0, .bool false, .int .i64 0, .int .i64 0, .int .i64 0, .int .i64 0, .slice none 0 0]),
 kn (.st [] 7 (t 3) (t 4))])
 (.seq (.ops [o 5 (.fa 6 (t 1)),
 o 6 (.ld false 1 (t 5)),
 k 7 (.ca (.func 68) [(t 6)]),
 o 8 (.fa 6 (t 3)),
 kn (.st [] 1 (t 8) (t 7))])
 (.seq (.ops [o 9 (.ld true 7 (t 3)),
 kn (.st [] 7 (t 2) (t 9))])
 .ret))))⟩
theorem e26 : slimF Try.prog Try.f26 [] = some c26 := by kernel_rfl
/-- cellar/abs.Empty -/
def c27 : SF := ⟨13, [.t 4, .t 5], (.seq (.ops [k 3 (.bx 37 (t 1)),
 o 4 (.mv (b false)),
 o 5 (.mv (i 0))])
 (.seq (.seq (.ops [o 6 (.mv (t 0)),
 o 7 (.ld true 7 (t 3)),
 k 8 (.ca (.func 69) [(t 6), (t 7)]),
 o 9 (.un .not (t 8))])
 (.cond (t 9)
 (.seq (.ops [o 4 (.mv (b false)),
 o 5 (.mv (i 1))])
 .ret)
 .skip))
 (.seq (.ops [o 10 (.mv (t 0)),
 o 11 (.ld true 7 (t 3)),
 k 12 (.ca (.func 70) [(t 10), (t 11)]),
 o 4 (.mv (t 12)),
 o 5 (.mv (i 0))])
 .ret)))⟩
theorem e27 : slimF Try.prog Try.f27 [] = some c27 := by kernel_rfl
/-- cellar/abs.Single -/
def c28 : SF := ⟨20, [.t 4, .c true 4 5, .t 6], (.seq (.ops [k 3 (.bx 37 (t 1)),
 o 4 (.mv (b false)),
 k 5 (.al 32 [.bool false, .int .i64 0, .int .i64 0, .int .i64 0]),
 o 6 (.mv (i 0))])
 (.seq (.seq (.ops [o 7 (.mv (t 0)),
 o 8 (.ld true 7 (t 3)),
 k 9 (.ca (.func 69) [(t 7), (t 8)]),
 o 10 (.un .not (t 9))])
 (.cond (t 10)
 (.seq (.opq [o 11 (.ld true 4 (t 5)),
 o 4 (.mv (b false)),
 kn (.st [] 4 (t 5) (t 11)),
 o 6 (.mv (i 1))])
 .ret)
 .skip))
 (.seq (.ops [o 13 (.mv (t 0)),
 o 14 (.ld true 7 (t 3)),
 k 15 (.ca (.func 71) [(t 13), (t 14)]),
 o 12 (.mv (t 15)),
 o 16 (.ex (t 12) 0),
 o 17 (.ex (t 12) 1),
 kn (.st [] 4 (t 5) (t 16)),
 o 4 (.mv (t 17))])
 (.seq (.opq [o 18 (.mv (t 4)),
 o 19 (.ld true 4 (t 5)),
 o 4 (.mv (t 18)),
 kn (.st [] 4 (t 5) (t 19)),
 o 6 (.mv (i 0))])
 .ret))))⟩
theorem e28 : slimF Try.prog Try.f28 [[(0, []), (1, []), (2, []), (3, [])], [(0, []), (1, []), (2, []), (3, []), (4, [])]] = some c28 := by kernel_rfl
/-- cellar/cellarref15.Empty -/
def c29 : SF := ⟨33, [.t 4], (.seq (.ops [k 3 (.bx 37 (t 1)),
 o 4 (.mv (b false))])
 (.seq (.seq (.ops [o 7 (.mv (t 0)),
 o 8 (.bin .neq (t 7) (i 7))])
 (.cond (t 8)
 (.seq (.ops [o 9 (.fa 0 (t 3)),
 o 10 (.ld true 6 (t 9)),
 k 11 (.ca (.func 41) [(t 10), (i 0)]),
 o 12 (.bin .lss (t 11) (i 0)),
 o 4 (.mv (t 12))])
 .ret)
 .skip))
 (.seq (.seq (.ops [o 5 (.mv (i 0))])
 (.block 0 (.loop (.seq (.seq (.ops [o 13 (.mv (t 5)),
 o 14 (.fa 6 (t 3)),
 o 15 (.ld false 1 (t 14)),
 o 16 (.ln (t 15)),
 o 17 (.bin .lss (t 13) (t 16))])
 (.cond (t 17)
 .skip
 (.exit 0)))
 (.seq (.block 1 (.seq (.ops [o 20 (.fa 6 (t 3)),
 o 21 (.ld false 1 (t 20)),
 o 22 (.mv (t 5)),
 o 23 (.ia 7 (t 21) (t 22)),
 o 24 (.fa 1 (t 23)),
 o 25 (.ld true 6 (t 24)),
 k 26 (.ca (.func 41) [(t 25), (i 0)]),
 o 6 (.mv (t 26))])
 (.seq (.ops [o 27 (.mv (t 6)),
 o 28 (.bin .geq (t 27) (i 0)),
 o 29 (.mv (t 28)),
 og 30 29 true (.mv (t 6)),
 og 31 29 true (.bin .leq (t 30) (i 32)),
 o 32 (.pick (t 29) (t 31) (b false))])
 (.cond (t 32)
 (.seq (.ops [o 4 (.mv (b false))])
 .ret)
 .skip))))
 (.ops [o 18 (.mv (t 5)),
 o 19 (.bin .add (t 18) (i 1)),
 o 5 (.mv (t 19))]))))))
 (.seq (.ops [o 4 (.mv (b true))])
 .ret))))⟩
theorem e29 : slimF Try.prog Try.f29 [] = some c29 := by kernel_rfl
/-- cellar/abs.Check -/
def c30 : SF := ⟨9, [.t 4], (.seq (.ops [k 3 (.bx 37 (t 1)),
 o 4 (.mv (i 0))])
 (.seq (.seq (.ops [o 5 (.mv (t 0)),
 o 6 (.ld true 7 (t 3)),
 k 7 (.ca (.func 69) [(t 5), (t 6)]),
 o 8 (.un .not (t 7))])
 (.cond (t 8)
 (.seq (.ops [o 4 (.mv (i 1))])
 .ret)
 .skip))
 (.seq (.ops [o 4 (.mv (i 0))])
 .ret)))⟩
theorem e30 : slimF Try.prog Try.f30 [] = some c30 := by kernel_rfl
/-- cellar/abs.Has -/
def c31 : SF := ⟨22, [.t 6, .t 7], (.seq (.ops [k 4 (.bx 37 (t 1)),
 k 5 (.bx 32 (t 2)),
 o 6 (.mv (b false)),
 o 7 (.mv (i 0))])
 (.seq (.seq (.ops [o 8 (.mv (t 0)),
 o 9 (.ld true 7 (t 4)),
 k 10 (.ca (.func 69) [(t 8), (t 9)]),
 o 11 (.un .not (t 10)),
 o 12 (.mv (t 11)),
 og 13 12 false (.mv (t 0)),
 og 14 12 false (.ld true 4 (t 5)),
 ⟨some 15, some (12, false), .ca (.func 60) [(t 13), (t 14)]⟩,
 og 16 12 false (.un .not (t 15)),
 o 17 (.pick (t 12) (b true) (t 16))])
 (.cond (t 17)
 (.seq (.ops [o 6 (.mv (b false)),
 o 7 (.mv (i 1))])
 .ret)
 .skip))
 (.seq (.ops [o 18 (.mv (t 0)),
 o 19 (.ld true 7 (t 4)),
 o 20 (.ld true 4 (t 5)),
 k 21 (.ca (.func 72) [(t 18), (t 19), (t 20)]),
 o 6 (.mv (t 21)),
 o 7 (.mv (i 0))])
 .ret)))⟩
theorem e31 : slimF Try.prog Try.f31 [] = some c31 := by kernel_rfl
/-- cellar/cellarref0.EqAbs -/
def c32 : SF := ⟨17, [.t 4], (.seq (.ops [k 2 (.bx 37 (t 0)),
 k 3 (.bx 37 (t 1)),
 o 4 (.mv (b false))])
 (.seq (.ops [o 5 (.fa 0 (t 2)),
 o 6 (.ld true 6 (t 5)),
 o 7 (.fa 0 (t 3)),
 o 8 (.ld true 6 (t 7)),
 o 9 (.eqs (.st [(false, 0, 1, .i), (false, 1, 1, .b), (false, 2, 1, .i), (false, 3, 1, .i), (false, 4, 1, .i), (false, 5, 1, .i)]) false (t 6) (t 8)),
 o 10 (.mv (t 9)),
 og 11 10 true (.fa 6 (t 2)),
 og 12 10 true (.ld false 1 (t 11)),
 og 13 10 true (.fa 6 (t 3)),
 og 14 10 true (.ld false 1 (t 13)),
 ⟨some 15, some (10, true), .ca (.func 73) [(t 12), (t 14)]⟩,
 o 16 (.pick (t 10) (t 15) (b false)),
 o 4 (.mv (t 16))])
 .ret))⟩
theorem e32 : slimF Try.prog Try.f32 [] = some c32 := by kernel_rfl
/-- cellar/cellarlaw0.AbsWeight -/
def c59 : SF := ⟨7, [.t 2], (.seq (.ops [k 1 (.bx 37 (t 0)),
 o 2 (.mv (i 0))])
 (.seq (.ops [o 3 (.fa 6 (t 1)),
 o 4 (.ld false 1 (t 3)),
 o 5 (.ln (t 4)),
 o 6 (.bin .add (i 1) (t 5)),
 o 2 (.mv (t 6))])
 .ret))⟩
theorem e59 : slimF Try.prog Try.f59 [] = some c59 := by kernel_rfl
/-- cellar/cellarref0.CopyBases -/
def c68 : SF := ⟨19, [.t 2], (.seq (.ops [o 2 (.mv (.const (.slice none 0 0)))])
 (.seq (.ops [o 3 (.mv (.const (.slice none 0 0)))])
 (.seq (.seq (.ops [o 4 (.mv (i 0))])
 (.block 0 (.loop (.seq (.seq (.ops [o 5 (.mv (t 4)),
 o 6 (.mv (t 0)),
 o 7 (.ln (t 6)),
 o 8 (.bin .lss (t 5) (t 7))])
 (.cond (t 8)
 .skip
 (.exit 0)))
 (.seq (.block 1 (.ops [o 11 (.mv (t 3)),
 o 12 (.mv (t 0)),
 o 13 (.mv (t 4)),
 o 14 (.ia 7 (t 12) (t 13)),
 o 15 (.ld true 7 (t 14)),
 k 16 (.bs 87 1 [.int .i64 0, .int .i64 0, .bool false, .int .i64 0, .int .i64 0, .int .i64 0, .int .i64 0] [(0, 7, (t 15))]),
 k 17 (.ap 87 7 56 (t 11) (t 16)),
 o 3 (.mv (t 17))]))
 (.ops [o 9 (.mv (t 4)),
 o 10 (.bin .add (t 9) (i 1)),
 o 4 (.mv (t 10))]))))))
 (.seq (.ops [o 18 (.mv (t 3)),
 o 2 (.mv (t 18))])
 .ret))))⟩
theorem e68 : slimF Try.prog Try.f68 [] = some c68 := by kernel_rfl
/-- cellar/abs.May -/
def c69 : SF := ⟨37, [.t 4], (.seq (.ops [k 3 (.bx 37 (t 1)),
 o 4 (.mv (b false))])
 (.seq (.block 0 (.seq (.ops [o 6 (.mv (t 0)),
 k 7 (.ca (.func 104) [(t 6)]),
 o 5 (.mv (t 7))])
 (.cond (t 5)
 (.seq (.opd [o 8 (.fa 0 (t 3)),
 o 9 (.ld true 6 (t 8)),
 k 10 (.ca (.func 74) [(t 9)]),
 o 11 (.mv (t 10)),
 og 12 11 true (.fa 0 (t 3)),
 og 13 11 true (.fa 0 (t 12)),
 og 14 11 true (.ld false 1 (t 13)),
 og 15 11 true (.mv (t 0)),
 ⟨some 16, some (11, true), .ca (.func 101) [(t 15)]⟩,
 og 17 11 true (.bin .eql (t 14) (t 16)),
 o 18 (.pick (t 11) (t 17) (b false)),
 o 19 (.mv (t 18)),
 og 20 19 true (.fa 6 (t 3)),
 og 21 19 true (.ld false 1 (t 20)),
 og 22 19 true (.ln (t 21)),
 og 23 19 true (.bin .eql (t 22) (i 0)),
 o 24 (.pick (t 19) (t 23) (b false)),
 o 4 (.mv (t 24))])
 .ret)
 (.seq (.ops [o 26 (.mv (t 0)),
 o 27 (.bin .eql (t 26) (i 7)),
 o 25 (.mv (t 27))])
 (.cond (t 25)
 (.seq (.ops [o 28 (.fa 0 (t 3)),
 o 29 (.ld true 6 (t 28)),
 o 30 (.bd [.int .i64 0, .bool false, .int .i64 0, .int .i64 0, .int .i64 0, .int .i64 0] []),
 o 31 (.eqs (.st [(false, 0, 1, .i), (false, 1, 1, .b), (false, 2, 1, .i), (false, 3, 1, .i), (false, 4, 1, .i), (false, 5, 1, .i)]) false (t 29) (t 30)),
 o 32 (.mv (t 31)),
 og 33 32 true (.fa 6 (t 3)),
 og 34 32 true (.ld false 1 (t 33)),
 ⟨some 35, some (32, true), .ca (.func 105) [(t 34)]⟩,
 o 36 (.pick (t 32) (t 35) (b false)),
 o 4 (.mv (t 36))])
 .ret)
 .skip)))))
 (.seq (.ops [o 4 (.mv (b false))])
 .ret)))⟩
theorem e69 : slimF Try.prog Try.f69 [[(0, []), (1, []), (2, []), (3, []), (4, []), (5, []), (6, []), (7, []), (8, []), (9, []), (10, []), (11, []), (12, []), (13, []), (14, []), (15, []), (16, []), (17, [])]] = some c69 := by kernel_rfl
/-- cellar/abs.Void -/
def c70 : SF := ⟨14, [.t 4], (.seq (.ops [k 3 (.bx 37 (t 1)),
 o 4 (.mv (b false))])
 (.seq (.seq (.ops [o 5 (.mv (t 0)),
 o 6 (.bin .eql (t 5) (i 7))])
 (.cond (t 6)
 (.seq (.ops [o 7 (.fa 6 (t 3)),
 o 8 (.ld false 1 (t 7)),
 k 9 (.ca (.func 106) [(t 8), (.func 107)]),
 o 10 (.un .not (t 9)),
 o 4 (.mv (t 10))])
 .ret)
 .skip))
 (.seq (.ops [o 11 (.fa 0 (t 3)),
 o 12 (.ld true 6 (t 11)),
 k 13 (.ca (.func 109) [(t 12)]),
 o 4 (.mv (t 13))])
 .ret)))⟩
theorem e70 : slimF Try.prog Try.f70 [] = some c70 := by kernel_rfl
/-- cellar/abs.Lone -/
def c71 : SF := ⟨35, [.c true 4 4, .t 5], (.seq (.ops [k 3 (.bx 37 (t 1)),
 k 4 (.al 32 [.bool false, .int .i64 0, .int .i64 0, .int .i64 0]),
 o 5 (.mv (b false))])
 (.seq (.seq (.ops [o 7 (.mv (t 0)),
 o 8 (.bin .neq (t 7) (i 7))])
 (.cond (t 8)
 (.seq (.ops [o 10 (.fa 0 (t 3)),
 o 11 (.ld true 6 (t 10)),
 k 12 (.ca (.func 110) [(t 11)]),
 o 9 (.mv (t 12)),
 o 13 (.ex (t 9) 0),
 o 14 (.ex (t 9) 1),
 o 15 (.fa 1 (t 4)),
 kn (.st [] 1 (t 15) (t 13)),
 o 5 (.mv (t 14))])
 (.seq (.ops [o 16 (.ld true 4 (t 4)),
 o 17 (.mv (t 5)),
 kn (.st [] 4 (t 4) (t 16)),
 o 5 (.mv (t 17))])
 .ret))
 .skip))
 (.seq (.ops [o 19 (.fa 6 (t 3)),
 o 20 (.ld false 1 (t 19)),
 k 21 (.ca (.func 111) [(t 20), (i 1)]),
 o 18 (.mv (t 21)),
 o 22 (.ex (t 18) 0),
 o 23 (.ex (t 18) 1),
 o 6 (.mv (t 22)),
 o 5 (.mv (t 23))])
 (.seq (.seq (.ops [o 24 (.mv (t 5)),
 o 25 (.un .not (t 24)),
 o 26 (.mv (t 25)),
 og 27 26 false (.mv (t 6)),
 og 28 26 false (.ln (t 27)),
 og 29 26 false (.bin .eql (t 28) (i 0)),
 o 30 (.pick (t 26) (b true) (t 29))])
 (.cond (t 30)
 (.seq (.ops [o 31 (.ld true 4 (t 4)),
 kn (.st [] 4 (t 4) (t 31)),
 o 5 (.mv (b false))])
 .ret)
 .skip))
 (.seq (.ops [o 32 (.mv (t 6)),
 o 33 (.ia 4 (t 32) (i 0)),
 o 34 (.ld true 4 (t 33)),
 kn (.st [] 4 (t 4) (t 34)),
 o 5 (.mv (b true))])
 .ret)))))⟩
theorem e71 : slimF Try.prog Try.f71 [] = some c71 := by kernel_rfl
/-- cellar/cellarref0.EqBases -/
def c73 : SF := ⟨26, [.t 4], (.seq (.ops [o 4 (.mv (b false))])
 (.seq (.seq (.ops [o 6 (.mv (t 0)),
 o 7 (.ln (t 6)),
 o 8 (.mv (t 1)),
 o 9 (.ln (t 8)),
 o 10 (.bin .neq (t 7) (t 9))])
 (.cond (t 10)
 (.seq (.ops [o 4 (.mv (b false))])
 .ret)
 .skip))
 (.seq (.seq (.ops [o 5 (.mv (i 0))])
 (.block 0 (.loop (.seq (.seq (.ops [o 11 (.mv (t 5)),
 o 12 (.mv (t 0)),
 o 13 (.ln (t 12)),
 o 14 (.bin .lss (t 11) (t 13))])
 (.cond (t 14)
 .skip
 (.exit 0)))
 (.seq (.block 1 (.seq (.opq [o 17 (.mv (t 0)),
 o 18 (.mv (t 5)),
 o 19 (.ia 7 (t 17) (t 18)),
 o 20 (.ld true 7 (t 19)),
 o 21 (.mv (t 1)),
 o 22 (.mv (t 5)),
 o 23 (.ia 7 (t 21) (t 22)),
 o 24 (.ld true 7 (t 23)),
 o 25 (.eqs (.st [(false, 0, 1, .i), (true, 1, 6, (.st [(false, 0, 1, .i), (false, 1, 1, .b), (false, 2, 1, .i), (false, 3, 1, .i), (false, 4, 1, .i), (false, 5, 1, .i)]))]) true (t 20) (t 24))])
 (.cond (t 25)
 (.seq (.ops [o 4 (.mv (b false))])
 .ret)
 .skip)))
 (.ops [o 15 (.mv (t 5)),
 o 16 (.bin .add (t 15) (i 1)),
 o 5 (.mv (t 16))]))))))
 (.seq (.ops [o 4 (.mv (b true))])
 .ret))))⟩
theorem e73 : slimF Try.prog Try.f73 [[(0, []), (1, []), (2, []), (3, []), (4, []), (5, []), (6, []), (7, []), (8, [])]] = some c73 := by kernel_rfl
/-- cellar/abs.MayPtrs -/
def c105 : SF := ⟨31, [.t 2], (.seq (.ops [o 2 (.mv (b false))])
 (.seq (.seq (.ops [o 5 (.mv (t 0)),
 o 6 (.ln (t 5)),
 o 7 (.mv (i 0))])
 (.block 0 (.loop (.seq (.ops [o 8 (.bin .lss (t 7) (t 6))])
 (.seq (.cond (t 8)
 .skip
 (.exit 0))
 (.seq (.block 1 (.seq (.ops [o 9 (.mv (t 7)),
 o 10 (.ia 7 (t 5) (t 7)),
 o 11 (.ld true 7 (t 10)),
 k 4 (.al 87 [.int .i64 0, .int .i64 0, .bool false, .int .i64 0, .int .i64 0, .int .i64 0, .int .i64 0]),
 o 3 (.mv (t 9)),
 kn (.st [] 7 (t 4) (t 11))])
 (.seq (.opq [o 12 (.ld true 7 (t 4)),
 k 13 (.ca (.func 138) [(t 12)]),
 o 14 (.un .not (t 13)),
 o 15 (.mv (t 14)),
 og 16 15 false (.mv (t 3)),
 og 17 15 false (.bin .gtr (t 16) (i 0)),
 og 18 15 false (.mv (t 17)),
 og 19 18 true (.fa 0 (t 4)),
 og 20 18 true (.ld false 1 (t 19)),
 og 21 18 true (.mv (t 0)),
 og 22 18 true (.mv (t 3)),
 og 23 18 true (.bin .sub (t 22) (i 1)),
 og 24 18 true (.ia 7 (t 21) (t 23)),
 og 25 18 true (.fa 0 (t 24)),
 og 26 18 true (.ld false 1 (t 25)),
 og 27 18 true (.bin .leq (t 20) (t 26)),
 og 28 15 false (.pick (t 18) (t 27) (b false)),
 o 29 (.pick (t 15) (b true) (t 28))])
 (.cond (t 29)
 (.seq (.ops [o 2 (.mv (b false))])
 .ret)
 .skip))))
 (.ops [o 30 (.bin .add (t 7) (i 1)),
 o 7 (.mv (t 30))])))))))
 (.seq (.ops [o 2 (.mv (b true))])
 .ret)))⟩
theorem e105 : slimF Try.prog Try.f105 [[(0, []), (1, []), (2, []), (3, []), (4, []), (5, []), (6, []), (7, []), (8, []), (9, []), (10, []), (11, []), (12, []), (13, []), (14, []), (15, []), (16, []), (17, [])]] = some c105 := by kernel_rfl
/-- cellar/abs.Void$1 -/
def c107 : SF := ⟨7, [.t 2], (.seq (.ops [k 1 (.bx 87 (t 0)),
 o 2 (.mv (b false))])
 (.seq (.ops [o 3 (.ld true 7 (t 1)),
 k 4 (.ca (.func 108) [(t 3)]),
 o 5 (.ln (t 4)),
 o 6 (.bin .gtr (t 5) (i 0)),
 o 2 (.mv (t 6))])
 .ret))⟩
theorem e107 : slimF Try.prog Try.f107 [] = some c107 := by kernel_rfl
/-- cellar/abs.Offs -/
def c108 : SF := ⟨23, [.t 2], (.seq (.ops [k 1 (.bx 87 (t 0)),
 o 2 (.mv (.const (.slice none 0 0)))])
 (.seq (.seq (.ops [o 4 (.fa 1 (t 1)),
 o 5 (.ld true 6 (t 4)),
 k 6 (.ca (.func 140) [(t 5), (i 0)]),
 o 3 (.mv (t 6))])
 (.block 0 (.loop (.seq (.seq (.ops [o 7 (.mv (t 3)),
 o 8 (.bin .geq (t 7) (i 0)),
 o 9 (.mv (t 8)),
 og 10 9 true (.mv (t 3)),
 og 11 9 true (.bin .leq (t 10) (i 32)),
 o 12 (.pick (t 9) (t 11) (b false))])
 (.cond (t 12)
 .skip
 (.exit 0)))
 (.seq (.block 1 (.ops [o 18 (.mv (t 2)),
 o 19 (.mv (t 3)),
 k 20 (.bs 3 1 [.int .i64 0] [(0, 1, (t 19))]),
 k 21 (.ap 3 1 8 (t 18) (t 20)),
 o 2 (.mv (t 21))]))
 (.ops [o 13 (.fa 1 (t 1)),
 o 14 (.ld true 6 (t 13)),
 o 15 (.mv (t 3)),
 o 16 (.bin .add (t 15) (i 1)),
 k 17 (.ca (.func 140) [(t 14), (t 16)]),
 o 3 (.mv (t 17))]))))))
 (.seq (.ops [o 22 (.mv (t 2)),
 o 2 (.mv (t 22))])
 .ret)))⟩
theorem e108 : slimF Try.prog Try.f108 [] = some c108 := by kernel_rfl
/-- cellar/abs.Members -/
def c111 : SF := ⟨37, [.t 4, .t 5], (.seq (.ops [o 4 (.mv (.const (.slice none 0 0))),
 o 5 (.mv (b false))])
 (.seq (.seq (.ops [o 10 (.mv (t 0)),
 o 11 (.ln (t 10)),
 o 12 (.mv (i 0))])
 (.block 0 (.loop (.seq (.ops [o 13 (.bin .lss (t 12) (t 11))])
 (.seq (.cond (t 13)
 .skip
 (.exit 0))
 (.seq (.block 1 (.seq (.ops [o 14 (.ia 7 (t 10) (t 12)),
 o 15 (.ld true 7 (t 14)),
 k 7 (.al 87 [.int .i64 0, .int .i64 0, .bool false, .int .i64 0, .int .i64 0, .int .i64 0, .int .i64 0]),
 kn (.st [] 7 (t 7) (t 15))])
 (.seq (.ops [o 16 (.ld true 7 (t 7)),
 k 17 (.ca (.func 108) [(t 16)]),
 o 18 (.ln (t 17)),
 o 19 (.mv (i 0))])
 (.block 2 (.loop (.seq (.ops [o 20 (.bin .lss (t 19) (t 18))])
 (.seq (.cond (t 20)
 .skip
 (.exit 2))
 (.seq (.block 3 (.seq (.ops [o 21 (.ia 1 (t 17) (t 19)),
 o 22 (.ld false 1 (t 21)),
 o 9 (.mv (t 22))])
 (.seq (.seq (.ops [o 23 (.mv (t 4)),
 o 24 (.ln (t 23)),
 o 25 (.mv (t 1)),
 o 26 (.bin .eql (t 24) (t 25))])
 (.cond (t 26)
 (.seq (.ops [o 4 (.mv (.const (.slice none 0 0))),
 o 5 (.mv (b false))])
 .ret)
 .skip))
 (.ops [o 27 (.mv (t 4)),
 o 28 (.fa 0 (t 7)),
 o 29 (.ld false 1 (t 28)),
 o 30 (.mv (t 9)),
 o 31 (.bd [.bool false, .int .i64 0, .int .i64 0, .int .i64 0] [(0, 1, (b true)), (2, 1, (t 29)), (3, 1, (t 30))]),
 k 32 (.bs 32 1 [.bool false, .int .i64 0, .int .i64 0, .int .i64 0] [(0, 4, (t 31))]),
 k 33 (.ap 32 4 32 (t 27) (t 32)),
 o 4 (.mv (t 33))]))))
 (.ops [o 34 (.bin .add (t 19) (i 1)),
 o 19 (.mv (t 34))])))))))))
 (.ops [o 35 (.bin .add (t 12) (i 1)),
 o 12 (.mv (t 35))])))))))
 (.seq (.ops [o 36 (.mv (t 4)),
 o 4 (.mv (t 36)),
 o 5 (.mv (b true))])
 .ret)))⟩
theorem e111 : slimF Try.prog Try.f111 [] = some c111 := by kernel_rfl
end Go.Proofs.Try.S
/- Contracts: whether sets of scalars may be, asked of the program; what layer 15's statements weigh. -/
namespace Go.Proofs.Try.K
open Go Go.Ax Go.Proofs.Try.S
set_option maxRecDepth 100000
set_option linter.unusedSimpArgs false
set_option linter.unusedVariables false
variable (F : Fz) (M : Hp)

def mpI (l : List Ba) (u : Value) (F0 : Fz) (M0 : Hp) (m : Nat) (σ : Env) (F : Fz) (M : Hp) : Prop :=
  F = F0 ∧ Keep M0 M ∧ Old' F0 M0 M ∧ Ax.look σ 0 = some u ∧ Ax.look σ 5 = some u ∧ Ax.look σ 6 = some (.int .i64 l.length) ∧ ∃ i : Nat, i + m = l.length ∧ Ax.look σ 7 = some (.int .i64 i) ∧ ∀ j, j < i → okAt l j = true
theorem k105 (u : Value) (l : List Ba) (h : RdG 7 Ba.cs F M u l) : CallsA Try.prog 105 [u] F M (Same F M (.bool (ptrsB l))) := by
  refine callsA_of hm Try.func105 e105 (Nat.le_of_ble_eq_true rfl) ?_
  have h' := h
  obtain ⟨hl, ad, cap, hlc, rfl, _⟩ := h
  simp only [c105, go_sem, reduceCtorEq, reduceIte, Nat.reduceEqDiff, Nat.reduceAdd, Nat.reduceLeDiff, Nat.reduceMul, Int.reduceLT, Int.reduceLE, Int.reduceAdd, Int.reduceSub, Int.reduceMul, Int.reduceNeg, Int.reduceToNat, Int.reduceEq]
  refine loop_of (mpI l (.slice ad l.length cap) F M) l.length ?_ ?_
  · exact ⟨rfl, Keep.refl _, fun h => h, by simp only [go_sem, reduceCtorEq, reduceIte, Nat.reduceEqDiff], by simp only [go_sem, reduceCtorEq, reduceIte, Nat.reduceEqDiff], by simp only [go_sem, reduceCtorEq, reduceIte, Nat.reduceEqDiff], 0, by omega, by simp only [go_sem, reduceCtorEq, reduceIte, Nat.reduceEqDiff] <;> rfl, by omega⟩
  rintro m σ F' M' ⟨rfl, kp, ro, h0, h5, h6, i, hi, h7, hok⟩
  by_cases hil : (i : Int) < l.length
  rotate_left
  · simp only [go_sem, reduceCtorEq, reduceIte, Nat.reduceEqDiff, Nat.reduceAdd, Nat.reduceLeDiff, Nat.reduceMul, Int.reduceLT, Int.reduceLE, Int.reduceAdd, Int.reduceSub, Int.reduceMul, Int.reduceNeg, Int.reduceToNat, Int.reduceEq, h0, h5, h6, h7, hil]
    exact endK_keep kp ⟨by rw [ptrs_all (fun j hj => hok j (by omega))], rfl, rfl⟩
  have hi0 : (0 : Int) ≤ i := by omega
  have hil' : i < l.length := by omega
  have ei : IntKind.i64.wrap ((i : Int) + 1) = i + 1 := w64 (by omega) (by omega)
  have ei1 : IntKind.i64.wrap ((i : Int) - 1) = i - 1 := w64 (by omega) (by omega)
  obtain ⟨_, _, _, _, eu, hrd⟩ := ro h'
  cases eu
  rcases hrd with h | ⟨g, p, cs, rfl, hb, hc⟩
  · rw [h] at hil'; simp at hil'
  obtain ⟨d1, d2⟩ := hc i hil'
  have hget : l[i]? = some l[i] := by simp
  simp only [go_sem, reduceCtorEq, reduceIte, Nat.reduceEqDiff, Nat.reduceAdd, Nat.reduceLeDiff, Nat.reduceMul, Int.reduceLT, Int.reduceLE, Int.reduceAdd, Int.reduceSub, Int.reduceMul, Int.reduceNeg, Int.reduceToNat, Int.reduceEq, h0, h5, h6, h7, hil, hi0, Int.toNat_natCast, hb, d1, d2]
  intro r hF hM
  have bg := blk_ne hb hF hM
  have no : okAt l i = false → ptrsB l = false := fun h => ptrs_no hil' h
  have kp2 : ∀ e, Keep M (M'.upd r e) := fun e => kp.new (kp.free hM)
  have ok1 : okAt l i = (baseB l[i] && (decide (i = 0) || match l[i - 1]? with | none => true | some y => decide (y.b < l[i].b))) := by
    unfold okAt; rw [hget]; rfl
  have prev : (0 : Int) < i → ∃ y, l[i - 1]? = some y ∧ cs[p + (i - 1) * 7]? = some (.int .i64 y.b) := by
    intro hi1
    obtain ⟨e1, e2⟩ := hc (i - 1) (by omega)
    exact ⟨l[i - 1], List.getElem?_eq_getElem (by omega), (ba_row e1 e2).1⟩
  have nxt : ∀ σ' e, Ax.look σ' 0 = some (.slice (some ⟨g, p, none⟩) l.length cap) → Ax.look σ' 5 = some (.slice (some ⟨g, p, none⟩) l.length cap) → Ax.look σ' 6 = some (.int .i64 l.length) → Ax.look σ' 7 = some (.int .i64 (i + 1)) → okAt l i = true → ∃ m', m' < m ∧ mpI l (.slice (some ⟨g, p, none⟩) l.length cap) F' M m' σ' F' (M'.upd r e) := by
    intro σ' e q0 q5 q6 q7 hk
    refine ⟨m - 1, by omega, rfl, kp2 e, fun h => (ro h).new hF hM, q0, q5, q6, i + 1, by omega, q7, fun j hj => ?_⟩
    rcases Nat.lt_or_ge j i with h | h
    · exact hok j h
    · have : j = i := by omega
      rw [this]; exact hk
  generalize l[i] = x at *
  simp only [go_sem, reduceCtorEq, reduceIte, Nat.reduceEqDiff, Nat.reduceAdd, Nat.reduceLeDiff, Nat.reduceMul, Int.reduceLT, Int.reduceLE, Int.reduceAdd, Int.reduceSub, Int.reduceMul, Int.reduceNeg, Int.reduceToNat, Int.reduceEq, h0, h5, h6, h7]
  refine callK_same (k138 _ _ x) ?_
  cases hbx : baseB x
  · have hno : ptrsB l = false := no (by rw [ok1, hbx]; rfl)
    simp only [go_sem, reduceCtorEq, reduceIte, Nat.reduceEqDiff, Nat.reduceAdd, Nat.reduceLeDiff, Nat.reduceMul, Int.reduceLT, Int.reduceLE, Int.reduceAdd, Int.reduceSub, Int.reduceMul, Int.reduceNeg, Int.reduceToNat, Int.reduceEq, h0, h5, h6, h7]
    exact endK_keep (kp2 _) ⟨by rw [hno], rfl, rfl⟩
  rw [hbx, Bool.true_and] at ok1
  by_cases hi1 : (0 : Int) < i
  · obtain ⟨y, y1, y2⟩ := prev hi1
    have i1 : (0 : Int) ≤ (i : Int) - 1 := by omega
    have i2 : (i : Int) - 1 < l.length := by omega
    have i3 : ((i : Int) - 1).toNat = i - 1 := by omega
    have hi0' : ¬ i = 0 := by omega
    rw [y1] at ok1
    by_cases hyx : x.b ≤ y.b
    · have hno : ptrsB l = false := no (by rw [ok1]; simp [hi0']; omega)
      simp only [go_sem, reduceCtorEq, reduceIte, Nat.reduceEqDiff, Nat.reduceAdd, Nat.reduceLeDiff, Nat.reduceMul, Int.reduceLT, Int.reduceLE, Int.reduceAdd, Int.reduceSub, Int.reduceMul, Int.reduceNeg, Int.reduceToNat, Int.reduceEq, h0, h5, h6, h7, hi1, ei1, i1, i2, i3, bg, hb, y2, Nat.add_zero, hyx]
      exact endK_keep (kp2 _) ⟨by rw [hno], rfl, rfl⟩
    · simp only [go_sem, reduceCtorEq, reduceIte, Nat.reduceEqDiff, Nat.reduceAdd, Nat.reduceLeDiff, Nat.reduceMul, Int.reduceLT, Int.reduceLE, Int.reduceAdd, Int.reduceSub, Int.reduceMul, Int.reduceNeg, Int.reduceToNat, Int.reduceEq, h0, h5, h6, h7, hi1, ei1, i1, i2, i3, bg, hb, y2, Nat.add_zero, hyx, ei]
      exact nxt _ _ (by simp only [go_sem, reduceCtorEq, reduceIte, Nat.reduceEqDiff, h0]) (by simp only [go_sem, reduceCtorEq, reduceIte, Nat.reduceEqDiff, h5]) (by simp only [go_sem, reduceCtorEq, reduceIte, Nat.reduceEqDiff, h6]) (by simp only [go_sem, reduceCtorEq, reduceIte, Nat.reduceEqDiff]) (by rw [ok1]; simp; omega)
  · have hi0' : i = 0 := by omega
    simp only [go_sem, reduceCtorEq, reduceIte, Nat.reduceEqDiff, Nat.reduceAdd, Nat.reduceLeDiff, Nat.reduceMul, Int.reduceLT, Int.reduceLE, Int.reduceAdd, Int.reduceSub, Int.reduceMul, Int.reduceNeg, Int.reduceToNat, Int.reduceEq, h0, h5, h6, h7, hi1, ei]
    exact nxt _ _ (by simp only [go_sem, reduceCtorEq, reduceIte, Nat.reduceEqDiff, h0]) (by simp only [go_sem, reduceCtorEq, reduceIte, Nat.reduceEqDiff, h5]) (by simp only [go_sem, reduceCtorEq, reduceIte, Nat.reduceEqDiff, h6]) (by simp only [go_sem, reduceCtorEq, reduceIte, Nat.reduceEqDiff]) (by rw [ok1]; simp [hi0'])
theorem k69 (k : Int) (v : V) (u : Value) (l : List Ba) (h : RdG 7 Ba.cs F M u l) : CallsA Try.prog 69 [.int .i64 k, abV v u] F M (Same F M (.bool (absB k v l))) := by
  refine callsA_of hm Try.func69 e69 (Nat.le_of_ble_eq_true rfl) ?_
  have h' := h
  obtain ⟨hl, ad, cap, _, rfl, _⟩ := h
  simp only [c69, go_sem, reduceCtorEq, reduceIte, Nat.reduceEqDiff, Nat.reduceAdd, Nat.reduceLeDiff, Nat.reduceMul, Int.reduceLT, Int.reduceLE, Int.reduceAdd, Int.reduceSub, Int.reduceMul, Int.reduceNeg, Int.reduceToNat, Int.reduceEq]
  intro r3 hF3 hM3
  have h2 := h'.new hF3 hM3 (e := ⟨abCs v (.slice ad l.length cap), 37, 7⟩)
  simp only [go_sem, reduceCtorEq, reduceIte, Nat.reduceEqDiff, Nat.reduceAdd, Nat.reduceLeDiff, Nat.reduceMul, Int.reduceLT, Int.reduceLE, Int.reduceAdd, Int.reduceSub, Int.reduceMul, Int.reduceNeg, Int.reduceToNat, Int.reduceEq]
  refine callK_same (k104 _ _ k) ?_
  cases hk : isK k
  · have hw0 : ¬ 0 < wK k := by simp [wK, hk]
    by_cases h7 : k = 7
    · simp only [go_sem, reduceCtorEq, reduceIte, Nat.reduceEqDiff, Nat.reduceAdd, Nat.reduceLeDiff, Nat.reduceMul, Int.reduceLT, Int.reduceLE, Int.reduceAdd, Int.reduceSub, Int.reduceMul, Int.reduceNeg, Int.reduceToNat, Int.reduceEq, h7]
      cases hv : decide (v = V.zero)
      · simp only [go_sem, reduceCtorEq, reduceIte, Nat.reduceEqDiff, Nat.reduceAdd, Nat.reduceLeDiff, Nat.reduceMul, Int.reduceLT, Int.reduceLE, Int.reduceAdd, Int.reduceSub, Int.reduceMul, Int.reduceNeg, Int.reduceToNat, Int.reduceEq]
        exact endK_drop hM3 (endK_same ⟨by simp only [absB, hv]; simp, rfl, rfl⟩)
      simp only [go_sem, reduceCtorEq, reduceIte, Nat.reduceEqDiff, Nat.reduceAdd, Nat.reduceLeDiff, Nat.reduceMul, Int.reduceLT, Int.reduceLE, Int.reduceAdd, Int.reduceSub, Int.reduceMul, Int.reduceNeg, Int.reduceToNat, Int.reduceEq]
      refine callK_same (k105 _ _ _ l h2) ?_
      simp only [go_sem, reduceCtorEq, reduceIte, Nat.reduceEqDiff, Nat.reduceAdd, Nat.reduceLeDiff, Nat.reduceMul, Int.reduceLT, Int.reduceLE, Int.reduceAdd, Int.reduceSub, Int.reduceMul, Int.reduceNeg, Int.reduceToNat, Int.reduceEq]
      exact endK_drop hM3 (endK_same ⟨by simp only [absB, hv]; simp, rfl, rfl⟩)
    · simp only [go_sem, reduceCtorEq, reduceIte, Nat.reduceEqDiff, Nat.reduceAdd, Nat.reduceLeDiff, Nat.reduceMul, Int.reduceLT, Int.reduceLE, Int.reduceAdd, Int.reduceSub, Int.reduceMul, Int.reduceNeg, Int.reduceToNat, Int.reduceEq, h7]
      exact endK_drop hM3 (endK_same ⟨by unfold absB; rw [if_neg h7]; simp [hw0], rfl, rfl⟩)
  · have h7 : ¬ k = 7 := by rintro rfl; rw [not_isK7] at hk; cases hk
    have e0 : wK k = ofW k := wK_of hk
    have hpw := pow_w (ofW_isW k)
    have e1 : (0 : Int) < ofW k := by omega
    simp only [go_sem, reduceCtorEq, reduceIte, Nat.reduceEqDiff, Nat.reduceAdd, Nat.reduceLeDiff, Nat.reduceMul, Int.reduceLT, Int.reduceLE, Int.reduceAdd, Int.reduceSub, Int.reduceMul, Int.reduceNeg, Int.reduceToNat, Int.reduceEq]
    refine callK_same (k74 _ _ v) ?_
    cases hv : v.ok
    · simp only [go_sem, reduceCtorEq, reduceIte, Nat.reduceEqDiff, Nat.reduceAdd, Nat.reduceLeDiff, Nat.reduceMul, Int.reduceLT, Int.reduceLE, Int.reduceAdd, Int.reduceSub, Int.reduceMul, Int.reduceNeg, Int.reduceToNat, Int.reduceEq]
      exact endK_drop hM3 (endK_same ⟨by simp [absB, h7, hv], rfl, rfl⟩)
    simp only [go_sem, reduceCtorEq, reduceIte, Nat.reduceEqDiff, Nat.reduceAdd, Nat.reduceLeDiff, Nat.reduceMul, Int.reduceLT, Int.reduceLE, Int.reduceAdd, Int.reduceSub, Int.reduceMul, Int.reduceNeg, Int.reduceToNat, Int.reduceEq]
    refine callK_same (k101 _ _ k hk) ?_
    by_cases hvw : v.w = ofW k
    rotate_left
    · simp only [go_sem, reduceCtorEq, reduceIte, Nat.reduceEqDiff, Nat.reduceAdd, Nat.reduceLeDiff, Nat.reduceMul, Int.reduceLT, Int.reduceLE, Int.reduceAdd, Int.reduceSub, Int.reduceMul, Int.reduceNeg, Int.reduceToNat, Int.reduceEq, hvw]
      exact endK_drop hM3 (endK_same ⟨by simp [absB, h7, e0, hvw], rfl, rfl⟩)
    by_cases hl0 : (l.length : Int) = 0
    · simp only [go_sem, reduceCtorEq, reduceIte, Nat.reduceEqDiff, Nat.reduceAdd, Nat.reduceLeDiff, Nat.reduceMul, Int.reduceLT, Int.reduceLE, Int.reduceAdd, Int.reduceSub, Int.reduceMul, Int.reduceNeg, Int.reduceToNat, Int.reduceEq, hvw, hl0]
      have hd : decide (l.length = 0) = true := by rw [decide_eq_true_eq]; omega
      exact endK_drop hM3 (endK_same ⟨by unfold absB; rw [if_neg h7, hv, hd, e0]; simp [e1, hvw], rfl, rfl⟩)
    · simp only [go_sem, reduceCtorEq, reduceIte, Nat.reduceEqDiff, Nat.reduceAdd, Nat.reduceLeDiff, Nat.reduceMul, Int.reduceLT, Int.reduceLE, Int.reduceAdd, Int.reduceSub, Int.reduceMul, Int.reduceNeg, Int.reduceToNat, Int.reduceEq, hvw, hl0]
      have hd : decide (l.length = 0) = false := by rw [decide_eq_false_iff_not]; omega
      exact endK_drop hM3 (endK_same ⟨by unfold absB; rw [if_neg h7, hv, hd]; simp, rfl, rfl⟩)
theorem k31 (k : Int) (v : V) (u : Value) (l : List Ba) (s : Sc) (h : RdG 7 Ba.cs F M u l) : CallsA Try.prog 31 [.int .i64 k, abV v u, s.val] F M
    (Same F M (if absB k v l && sc6B k s then .tuple #[.bool (holdsB k v l s), .int .i64 0] else .tuple #[.bool false, .int .i64 1])) := by
  refine callsA_of hm Try.func31 e31 (Nat.le_of_ble_eq_true rfl) ?_
  have h' := h
  obtain ⟨_, ad, cap, _, rfl, _⟩ := h
  simp only [c31, go_sem, reduceCtorEq, reduceIte, Nat.reduceEqDiff, Nat.reduceAdd, Nat.reduceLeDiff, Nat.reduceMul, Int.reduceLT, Int.reduceLE, Int.reduceAdd, Int.reduceSub, Int.reduceMul, Int.reduceNeg, Int.reduceToNat, Int.reduceEq]
  intro r4 hF4 hM4
  simp only [go_sem, reduceCtorEq, reduceIte, Nat.reduceEqDiff, Nat.reduceAdd, Nat.reduceLeDiff, Nat.reduceMul, Int.reduceLT, Int.reduceLE, Int.reduceAdd, Int.reduceSub, Int.reduceMul, Int.reduceNeg, Int.reduceToNat, Int.reduceEq]
  intro r5 hF5 hM5
  have g5 := fresh_of hM5
  have h2 := (h'.new hF4 hM4 (e := ⟨abCs v (.slice ad l.length cap), 37, 7⟩)).new hF5 hM5 (e := ⟨s.cs, 32, 4⟩)
  simp only [go_sem, reduceCtorEq, reduceIte, Nat.reduceEqDiff, Nat.reduceAdd, Nat.reduceLeDiff, Nat.reduceMul, Int.reduceLT, Int.reduceLE, Int.reduceAdd, Int.reduceSub, Int.reduceMul, Int.reduceNeg, Int.reduceToNat, Int.reduceEq, g5]
  refine callK_same (k69 _ _ k v _ l h2) ?_
  cases ha : absB k v l
  · simp only [go_sem, reduceCtorEq, reduceIte, Nat.reduceEqDiff, Nat.reduceAdd, Nat.reduceLeDiff, Nat.reduceMul, Int.reduceLT, Int.reduceLE, Int.reduceAdd, Int.reduceSub, Int.reduceMul, Int.reduceNeg, Int.reduceToNat, Int.reduceEq, g5]
    exact endK_drop hM5 (endK_drop hM4 (endK_same ⟨by simp, rfl, rfl⟩))
  simp only [go_sem, reduceCtorEq, reduceIte, Nat.reduceEqDiff, Nat.reduceAdd, Nat.reduceLeDiff, Nat.reduceMul, Int.reduceLT, Int.reduceLE, Int.reduceAdd, Int.reduceSub, Int.reduceMul, Int.reduceNeg, Int.reduceToNat, Int.reduceEq, g5]
  refine callK_same (k60 _ _ k s) ?_
  cases hs : sc6B k s
  · simp only [go_sem, reduceCtorEq, reduceIte, Nat.reduceEqDiff, Nat.reduceAdd, Nat.reduceLeDiff, Nat.reduceMul, Int.reduceLT, Int.reduceLE, Int.reduceAdd, Int.reduceSub, Int.reduceMul, Int.reduceNeg, Int.reduceToNat, Int.reduceEq, g5]
    exact endK_drop hM5 (endK_drop hM4 (endK_same ⟨by simp, rfl, rfl⟩))
  simp only [go_sem, reduceCtorEq, reduceIte, Nat.reduceEqDiff, Nat.reduceAdd, Nat.reduceLeDiff, Nat.reduceMul, Int.reduceLT, Int.reduceLE, Int.reduceAdd, Int.reduceSub, Int.reduceMul, Int.reduceNeg, Int.reduceToNat, Int.reduceEq, g5]
  refine callK_same (k72 _ _ k v _ l s h2) ?_
  simp only [go_sem, reduceCtorEq, reduceIte, Nat.reduceEqDiff, Nat.reduceAdd, Nat.reduceLeDiff, Nat.reduceMul, Int.reduceLT, Int.reduceLE, Int.reduceAdd, Int.reduceSub, Int.reduceMul, Int.reduceNeg, Int.reduceToNat, Int.reduceEq, g5]
  exact endK_drop hM5 (endK_drop hM4 (endK_same ⟨by simp, rfl, rfl⟩))
theorem k24 : CallsA Try.prog 24 [] F M (Same F M (.bool true)) := by
  refine callsA_of hm Try.func24 e24 (Nat.le_of_ble_eq_true rfl) ?_
  have w1 : sc6B 7 ⟨true, 0, 0, 0⟩ = true := by decide +kernel
  have w2 : absB 7 V.zero [⟨0, V.just 8 0⟩] = true := by decide +kernel
  have w3 : sc6B 7 ⟨true, 0, 1, 0⟩ = true := by decide +kernel
  have w4 : holdsB 7 V.zero [⟨0, V.just 8 0⟩] ⟨true, 0, 0, 0⟩ = true := by decide +kernel
  have w5 : holdsB 7 V.zero [⟨0, V.just 8 0⟩] ⟨true, 0, 1, 0⟩ = false := by decide +kernel
  simp only [c24, go_sem, reduceCtorEq, reduceIte, Nat.reduceEqDiff, Nat.reduceAdd, Nat.reduceLeDiff, Nat.reduceMul, Int.reduceLT, Int.reduceLE, Int.reduceAdd, Int.reduceSub, Int.reduceMul, Int.reduceNeg, Int.reduceToNat, Int.reduceEq]
  refine callK_of (k15 _ _ 7 ⟨true, 0, 0, 0⟩) ?_
  rintro u G M' (⟨_, w, rfl, ha⟩ | ⟨h, _⟩)
  rotate_left
  · rw [w1] at h; cases h
  have ha : abR 87 V.zero [⟨0, V.just 8 0⟩] F M w G M' := ha
  obtain ⟨hG, le, kp, ho, a, n, c, rfl, hrd⟩ := ha.le
  subst hG
  have rd := hrd (by decide)
  refine ⟨fun _ => le, ?_⟩
  simp only [go_sem, reduceCtorEq, reduceIte, Nat.reduceEqDiff, Nat.reduceAdd, Nat.reduceLeDiff, Nat.reduceMul, Int.reduceLT, Int.reduceLE, Int.reduceAdd, Int.reduceSub, Int.reduceMul, Int.reduceNeg, Int.reduceToNat, Int.reduceEq]
  intro r1 hF1 hM1
  have rd2 := rd.new hF1 hM1 (e := ⟨abCs V.zero (.slice a n c), 37, 7⟩)
  simp only [go_sem, reduceCtorEq, reduceIte, Nat.reduceEqDiff, Nat.reduceAdd, Nat.reduceLeDiff, Nat.reduceMul, Int.reduceLT, Int.reduceLE, Int.reduceAdd, Int.reduceSub, Int.reduceMul, Int.reduceNeg, Int.reduceToNat, Int.reduceEq]
  have h1 := k31 G (M'.upd r1 ⟨abCs V.zero (.slice a n c), 37, 7⟩) 7 V.zero _ _ ⟨true, 0, 0, 0⟩ rd2
  rw [w2, w1, w4] at h1
  refine callK_same h1 ?_
  simp only [go_sem, reduceCtorEq, reduceIte, Nat.reduceEqDiff, Nat.reduceAdd, Nat.reduceLeDiff, Nat.reduceMul, Int.reduceLT, Int.reduceLE, Int.reduceAdd, Int.reduceSub, Int.reduceMul, Int.reduceNeg, Int.reduceToNat, Int.reduceEq, Bool.and_self, if_true]
  have h2 := k31 G (M'.upd r1 ⟨abCs V.zero (.slice a n c), 37, 7⟩) 7 V.zero _ _ ⟨true, 0, 1, 0⟩ rd2
  rw [w2, w3, w5] at h2
  refine callK_same h2 ?_
  simp only [go_sem, reduceCtorEq, reduceIte, Nat.reduceEqDiff, Nat.reduceAdd, Nat.reduceLeDiff, Nat.reduceMul, Int.reduceLT, Int.reduceLE, Int.reduceAdd, Int.reduceSub, Int.reduceMul, Int.reduceNeg, Int.reduceToNat, Int.reduceEq, Bool.and_self, if_true]
  refine callK_same (k17 _ _ 0) ?_
  simp only [go_sem, reduceCtorEq, reduceIte, Nat.reduceEqDiff, Nat.reduceAdd, Nat.reduceLeDiff, Nat.reduceMul, Int.reduceLT, Int.reduceLE, Int.reduceAdd, Int.reduceSub, Int.reduceMul, Int.reduceNeg, Int.reduceToNat, Int.reduceEq]
  refine callK_same (k17 _ _ 0) ?_
  simp only [go_sem, reduceCtorEq, reduceIte, Nat.reduceEqDiff, Nat.reduceAdd, Nat.reduceLeDiff, Nat.reduceMul, Int.reduceLT, Int.reduceLE, Int.reduceAdd, Int.reduceSub, Int.reduceMul, Int.reduceNeg, Int.reduceToNat, Int.reduceEq]
  refine callK_same (k17 _ _ 0) ?_
  simp only [go_sem, reduceCtorEq, reduceIte, Nat.reduceEqDiff, Nat.reduceAdd, Nat.reduceLeDiff, Nat.reduceMul, Int.reduceLT, Int.reduceLE, Int.reduceAdd, Int.reduceSub, Int.reduceMul, Int.reduceNeg, Int.reduceToNat, Int.reduceEq]
  refine callK_same (k19 _ _ 7 V.zero _ _ rd2) ?_
  simp only [go_sem, reduceCtorEq, reduceIte, Nat.reduceEqDiff, Nat.reduceAdd, Nat.reduceLeDiff, Nat.reduceMul, Int.reduceLT, Int.reduceLE, Int.reduceAdd, Int.reduceSub, Int.reduceMul, Int.reduceNeg, Int.reduceToNat, Int.reduceEq, w2]
  exact endK_keep (kp.new (kp.free hM1)) ⟨rfl, rfl, rfl⟩
end Go.Proofs.Try.K

/- Contracts: what an input of layer 15's statements weighs. -/
namespace Go.Proofs.Try.K
open Go Go.Ax Go.Proofs.Try.S
set_option maxRecDepth 100000
set_option linter.unusedSimpArgs false
set_option linter.unusedVariables false
variable (F : Fz) (M : Hp)

theorem k59 (v : V) (a : Option Addr) (n c : Nat) (hn : n ≤ 140737488351232) : CallsA Try.prog 59 [abV v (.slice a n c)] F M (Same F M (.int .i64 (1 + n))) := by
  refine callsA_of hm Try.func59 e59 (Nat.le_of_ble_eq_true rfl) ?_
  have e1 : IntKind.i64.wrap (1 + (n : Int)) = 1 + n := w64 (by omega) (by omega)
  simp only [c59, go_sem, reduceCtorEq, reduceIte, Nat.reduceEqDiff, Nat.reduceAdd, Nat.reduceLeDiff, Nat.reduceMul, Int.reduceLT, Int.reduceLE, Int.reduceAdd, Int.reduceSub, Int.reduceMul, Int.reduceNeg, Int.reduceToNat, Int.reduceEq]
  intro r hF hM
  simp only [go_sem, reduceCtorEq, reduceIte, Nat.reduceEqDiff, Nat.reduceAdd, Nat.reduceLeDiff, Nat.reduceMul, Int.reduceLT, Int.reduceLE, Int.reduceAdd, Int.reduceSub, Int.reduceMul, Int.reduceNeg, Int.reduceToNat, Int.reduceEq, e1]
  exact endK_drop hM (endK_same ⟨rfl, rfl, rfl⟩)
def heI (X : List Ab) (uX uS uV uN : Value) (nS : Nat) (F0 : Fz) (M0 : Hp) (r : Nat) (m : Nat) (σ : Env) (F : Fz) (M : Hp) : Prop :=
  F = F0 ∧ M = M0 ∧ Ax.look σ 1 = some (.pointer (some ⟨r, 0, none⟩)) ∧ ∃ (i n : Nat), i + m = X.length ∧ Ax.look σ 4 = some (.int .i64 i) ∧ Ax.look σ 3 = some (.int .i64 n) ∧ nS + i ≤ n ∧ n ≤ 300000000000000 ∧ ∀ x ∈ X.take i, x.n ≤ n
/-- Too heavy, or it is known how light. -/
def heavyR (X : List Ab) (nS nV nN : Nat) (F : Fz) (M : Hp) (u : Value) (F' : Fz) (M' : Hp) : Prop :=
  F' = F ∧ M' = M ∧ ∃ b : Bool, u = .bool b ∧ (b = false → X.length ≤ 400 ∧ nS ≤ 400 ∧ nV ≤ 100 ∧ nN ≤ 100 ∧ ∀ x ∈ X, x.n ≤ 400)
theorem k14 (X : List Ab) (uX : Value) (aS aV aN : Option Addr) (nS cS nV cV nN cN : Nat) (hX : RdG 7 Ab.cs F M uX X) (hXl : X.length ≤ 140737488351232) (hr : ∀ x ∈ X, x.n ≤ 140737488351232) (hS : nS ≤ 140737488351232) :
    CallsA Try.prog 14 [.agg #[uX, .slice aS nS cS, .slice aV nV cV, .slice aN nN cN]] F M (heavyR X nS nV nN F M) := by
  refine callsA_of hm Try.func14 e14 (Nat.le_of_ble_eq_true rfl) ?_
  have hX0 := hX
  obtain ⟨_, ad, cap, _, rfl, hrd⟩ := hX
  simp only [c14, go_sem, reduceCtorEq, reduceIte, Nat.reduceEqDiff, Nat.reduceAdd, Nat.reduceLeDiff, Nat.reduceMul, Int.reduceLT, Int.reduceLE, Int.reduceAdd, Int.reduceSub, Int.reduceMul, Int.reduceNeg, Int.reduceToNat, Int.reduceEq]
  intro r hF hM
  simp only [go_sem, reduceCtorEq, reduceIte, Nat.reduceEqDiff, Nat.reduceAdd, Nat.reduceLeDiff, Nat.reduceMul, Int.reduceLT, Int.reduceLE, Int.reduceAdd, Int.reduceSub, Int.reduceMul, Int.reduceNeg, Int.reduceToNat, Int.reduceEq]
  refine loop_of (heI X (.slice ad X.length cap) (.slice aS nS cS) (.slice aV nV cV) (.slice aN nN cN) nS F (M.upd r ⟨[.slice ad X.length cap, .slice aS nS cS, .slice aV nV cV, .slice aN nN cN], 29, 4⟩) r) X.length ?_ ?_
  · exact ⟨rfl, rfl, by simp only [go_sem, reduceCtorEq, reduceIte, Nat.reduceEqDiff], 0, nS, by omega, by simp only [go_sem, reduceCtorEq, reduceIte, Nat.reduceEqDiff] <;> rfl, by simp only [go_sem, reduceCtorEq, reduceIte, Nat.reduceEqDiff], by omega, by omega, by simp⟩
  rintro m σ F' M' ⟨rfl, rfl, h1, i, n, hi, h4, h3, hn1, hn2, hn3⟩
  have fin : ∀ (hend : 400 < (n : Int) ∨ X.length ≤ i), True := fun _ => trivial
  by_cases hil : (i : Int) < X.length
  · by_cases hn : (n : Int) < 1048576
    · have hi0 : (0 : Int) ≤ i := by omega
      have hil' : i < X.length := by omega
      have ei : IntKind.i64.wrap ((i : Int) + 1) = i + 1 := w64 (by omega) (by omega)
      rcases hrd with h | ⟨b, o, cs, rfl, hb, hc⟩
      · rw [h] at hil'; simp at hil'
      obtain ⟨d1, d2⟩ := hc i hil'
      have hx := hr X[i] (List.getElem_mem _)
      have br := blk_ne hb hF hM
      have htk := List.take_succ_eq_append_getElem hil'
      generalize X[i] = x at *
      have d3 : (cs.drop (o + i * 7)).take 7 = abCs x.v (.slice x.a x.n x.c) := d2
      have e2 : IntKind.i64.wrap ((n : Int) + (1 + x.n)) = ((n + (1 + x.n) : Nat) : Int) := w64 (by omega) (by omega)
      simp only [go_sem, reduceCtorEq, reduceIte, Nat.reduceEqDiff, Nat.reduceAdd, Nat.reduceLeDiff, Nat.reduceMul, Int.reduceLT, Int.reduceLE, Int.reduceAdd, Int.reduceSub, Int.reduceMul, Int.reduceNeg, Int.reduceToNat, Int.reduceEq, h1, h3, h4, hil, hn, hi0, Int.toNat_natCast, br, hb, d1, d3]
      refine callK_same (k59 _ _ x.v x.a x.n x.c hx) ?_
      simp only [go_sem, reduceCtorEq, reduceIte, Nat.reduceEqDiff, Nat.reduceAdd, Nat.reduceLeDiff, Nat.reduceMul, Int.reduceLT, Int.reduceLE, Int.reduceAdd, Int.reduceSub, Int.reduceMul, Int.reduceNeg, Int.reduceToNat, Int.reduceEq, h1, h3, h4, ei, e2]
      exact ⟨m - 1, by omega, rfl, rfl, by simp only [go_sem, reduceCtorEq, reduceIte, Nat.reduceEqDiff, h1], i + 1, n + (1 + x.n), by omega, by simp only [go_sem, reduceCtorEq, reduceIte, Nat.reduceEqDiff]; rfl, by simp only [go_sem, reduceCtorEq, reduceIte, Nat.reduceEqDiff], by omega, by omega, fun y hy => by
        rw [htk] at hy
        rcases List.mem_append.1 hy with h | h
        · have := hn3 y h; omega
        · simp at h; subst h; omega⟩
    · have h400 : (400 : Int) < n := by omega
      simp only [go_sem, reduceCtorEq, reduceIte, Nat.reduceEqDiff, Nat.reduceAdd, Nat.reduceLeDiff, Nat.reduceMul, Int.reduceLT, Int.reduceLE, Int.reduceAdd, Int.reduceSub, Int.reduceMul, Int.reduceNeg, Int.reduceToNat, Int.reduceEq, h1, h3, h4, hil, hn, h400]
      exact endK_drop hM (endK_same ⟨rfl, rfl, true, rfl, fun h => by cases h⟩)
  · by_cases h400 : (400 : Int) < n
    · simp only [go_sem, reduceCtorEq, reduceIte, Nat.reduceEqDiff, Nat.reduceAdd, Nat.reduceLeDiff, Nat.reduceMul, Int.reduceLT, Int.reduceLE, Int.reduceAdd, Int.reduceSub, Int.reduceMul, Int.reduceNeg, Int.reduceToNat, Int.reduceEq, h1, h3, h4, hil, h400]
      exact endK_drop hM (endK_same ⟨rfl, rfl, true, rfl, fun h => by cases h⟩)
    · simp only [go_sem, reduceCtorEq, reduceIte, Nat.reduceEqDiff, Nat.reduceAdd, Nat.reduceLeDiff, Nat.reduceMul, Int.reduceLT, Int.reduceLE, Int.reduceAdd, Int.reduceSub, Int.reduceMul, Int.reduceNeg, Int.reduceToNat, Int.reduceEq, h1, h3, h4, hil, h400]
      refine callK_same (k34 _ _ aV aN nV nN cV cN) ?_
      simp only [go_sem, reduceCtorEq, reduceIte, Nat.reduceEqDiff, Nat.reduceAdd, Nat.reduceLeDiff, Nat.reduceMul, Int.reduceLT, Int.reduceLE, Int.reduceAdd, Int.reduceSub, Int.reduceMul, Int.reduceNeg, Int.reduceToNat, Int.reduceEq]
      refine endK_drop hM (endK_same ⟨rfl, rfl, _, rfl, fun h => ?_⟩)
      simp only [Bool.or_eq_false_iff, decide_eq_false_iff_not] at h
      refine ⟨by omega, by omega, by omega, by omega, fun x hx => ?_⟩
      have := hn3 x (by rw [List.take_of_length_le (by omega)]; exact hx)
      omega
end Go.Proofs.Try.K

/- Contracts: offsets of a base, members of bases, whether a set is empty, has just one. -/
namespace Go.Proofs.Try.K
open Go Go.Ax Go.Proofs.Try.S
set_option maxRecDepth 100000
set_option linter.unusedSimpArgs false
set_option linter.unusedVariables false
variable (F : Fz) (M : Hp)

structure OfI (x : Ba) (F0 : Fz) (M0 : Hp) (r1 : Nat) (m : Nat) (σ : Env) (F : Fz) (M : Hp) : Prop where
  ff : F = F0
  kp : Keep M0 M
  f1 : M r1 = some ⟨x.cs, 87, 7⟩
  h1 : Ax.look σ 1 = some (.pointer (some ⟨r1, 0, none⟩))
  st : ∃ (u : Value) (l : List Int) (n : Int), Ax.look σ 2 = some u ∧ Ax.look σ 3 = some (.int .i64 n) ∧ MineG 1 intC 3 F0 M0 M u l ∧ x.v.offs = l ++ x.v.offF m n ∧ l.length + m = 34 ∧ (0 ≤ n → (l.length : Int) ≤ n)
theorem k108 (x : Ba) (hv : x.v.ok = true) : CallsA Try.prog 108 [x.val] F M (rowR 1 intC 3 x.v.offs F M) := by
  refine callsA_of hm Try.func108 e108 (Nat.le_of_ble_eq_true rfl) ?_
  simp only [c108, go_sem, reduceCtorEq, reduceIte, Nat.reduceEqDiff, Nat.reduceAdd, Nat.reduceLeDiff, Nat.reduceMul, Int.reduceLT, Int.reduceLE, Int.reduceAdd, Int.reduceSub, Int.reduceMul, Int.reduceNeg, Int.reduceToNat, Int.reduceEq]
  intro r1 hF1 hM1
  simp only [go_sem, reduceCtorEq, reduceIte, Nat.reduceEqDiff, Nat.reduceAdd, Nat.reduceLeDiff, Nat.reduceMul, Int.reduceLT, Int.reduceLE, Int.reduceAdd, Int.reduceSub, Int.reduceMul, Int.reduceNeg, Int.reduceToNat, Int.reduceEq]
  refine callK_same (k140 _ _ x.v 0 hv) ?_
  simp only [go_sem, reduceCtorEq, reduceIte, Nat.reduceEqDiff, Nat.reduceAdd, Nat.reduceLeDiff, Nat.reduceMul, Int.reduceLT, Int.reduceLE, Int.reduceAdd, Int.reduceSub, Int.reduceMul, Int.reduceNeg, Int.reduceToNat, Int.reduceEq]
  refine loop_of (OfI x F M r1) 34 ?_ ?_
  · exact ⟨rfl, (Keep.refl _).new hM1, Hp.upd_same _ _ _, by simp only [go_sem, reduceCtorEq, reduceIte, Nat.reduceEqDiff], _, [], x.v.nextR 0, by simp only [go_sem, reduceCtorEq, reduceIte, Nat.reduceEqDiff], by simp only [go_sem, reduceCtorEq, reduceIte, Nat.reduceEqDiff], MineG.nil, rfl, by simp, by simp⟩
  rintro m σ F' M' s
  obtain ⟨u, l, n, h2, h3, mine, hoff, hlen, hln⟩ := s.st
  obtain rfl := s.ff
  have b1 := blk_M (F := F') s.f1
  by_cases hn0 : 0 ≤ n
  rotate_left
  · rw [V.offF_out (by omega), List.append_nil] at hoff
    simp only [go_sem, reduceCtorEq, reduceIte, Nat.reduceEqDiff, Nat.reduceAdd, Nat.reduceLeDiff, Nat.reduceMul, Int.reduceLT, Int.reduceLE, Int.reduceAdd, Int.reduceSub, Int.reduceMul, Int.reduceNeg, Int.reduceToNat, Int.reduceEq, s.h1, h2, h3, hn0]
    rw [hoff]
    exact mine.done s.kp
  by_cases hn32 : n ≤ 32
  rotate_left
  · rw [V.offF_out (by omega), List.append_nil] at hoff
    simp only [go_sem, reduceCtorEq, reduceIte, Nat.reduceEqDiff, Nat.reduceAdd, Nat.reduceLeDiff, Nat.reduceMul, Int.reduceLT, Int.reduceLE, Int.reduceAdd, Int.reduceSub, Int.reduceMul, Int.reduceNeg, Int.reduceToNat, Int.reduceEq, s.h1, h2, h3, hn0, hn32]
    rw [hoff]
    exact mine.done s.kp
  have hl := hln hn0
  obtain ⟨m', rfl⟩ : ∃ m', m = m' + 1 := ⟨m - 1, by omega⟩
  rw [V.offF_in ⟨hn0, hn32⟩] at hoff
  have en : IntKind.i64.wrap (n + 1) = n + 1 := w64 (by omega) (by omega)
  simp only [go_sem, reduceCtorEq, reduceIte, Nat.reduceEqDiff, Nat.reduceAdd, Nat.reduceLeDiff, Nat.reduceMul, Int.reduceLT, Int.reduceLE, Int.reduceAdd, Int.reduceSub, Int.reduceMul, Int.reduceNeg, Int.reduceToNat, Int.reduceEq, s.h1, h2, h3, hn0, hn32]
  intro rb hFb hMb
  have gb := ne_of_none hMb s.f1
  simp only [go_sem, reduceCtorEq, reduceIte, Nat.reduceEqDiff, Nat.reduceAdd, Nat.reduceLeDiff, Nat.reduceMul, Int.reduceLT, Int.reduceLE, Int.reduceAdd, Int.reduceSub, Int.reduceMul, Int.reduceNeg, Int.reduceToNat, Int.reduceEq, s.h1, h2, h3, hn0, hn32]
  refine apMG_of (xs := l) (ys := [n]) intC_len intC_plain (by decide) (mine.fresh hMb) (s.kp.new (s.kp.free hMb)) ⟨rfl, .inr ⟨⟨rb, 0, none⟩, 1, rfl, .inr ⟨rb, 0, _, rfl, blk_upd_same, by simp [intC, intV]⟩⟩⟩ (by simp) (by simp; omega) ?_
  rintro v' M2 _ hfr kp2 _ mine2
  have f1 : M2 r1 = some ⟨x.cs, 87, 7⟩ := hfr _ _ (by rw [Hp.upd_ne' gb.1]; exact s.f1) (by simp)
  have b1' := blk_M (F := F') f1
  simp only [go_sem, reduceCtorEq, reduceIte, Nat.reduceEqDiff, Nat.reduceAdd, Nat.reduceLeDiff, Nat.reduceMul, Int.reduceLT, Int.reduceLE, Int.reduceAdd, Int.reduceSub, Int.reduceMul, Int.reduceNeg, Int.reduceToNat, Int.reduceEq, s.h1, h2, h3, en, b1']
  refine callK_same (k140 _ _ x.v (n + 1) hv) ?_
  simp only [go_sem, reduceCtorEq, reduceIte, Nat.reduceEqDiff, Nat.reduceAdd, Nat.reduceLeDiff, Nat.reduceMul, Int.reduceLT, Int.reduceLE, Int.reduceAdd, Int.reduceSub, Int.reduceMul, Int.reduceNeg, Int.reduceToNat, Int.reduceEq, s.h1, h2, h3]
  refine ⟨m', by omega, rfl, kp2, f1, by simp only [go_sem, reduceCtorEq, reduceIte, Nat.reduceEqDiff, s.h1], v', l ++ [n], x.v.nextR (n + 1), by simp only [go_sem, reduceCtorEq, reduceIte, Nat.reduceEqDiff], by simp only [go_sem, reduceCtorEq, reduceIte, Nat.reduceEqDiff], mine2, by rw [hoff]; simp, by simp; omega, fun h0 => ?_⟩
  have := nextR_spec hv (n := n + 1) (by omega)
  simp
  omega

def memsR (l : List Ba) (most : Nat) (F : Fz) (M : Hp) (u : Value) (F' : Fz) (M' : Hp) : Prop :=
  ((memB l).length ≤ most ∧ ∃ w, u = .tuple #[w, .bool true] ∧ rowR 4 Sc.cs 32 (memB l) F M w F' M') ∨ (most < (memB l).length ∧ u = .tuple #[.slice none 0 0, .bool false] ∧ F' = F ∧ M' = M)
structure MmI (l : List Ba) (u0 : Value) (most : Nat) (F0 : Fz) (M0 : Hp) (σ : Env) (F : Fz) (M : Hp) : Prop where
  ff : F = F0
  kp : Keep M0 M
  old : Old F0 M
  h1 : Ax.look σ 1 = some (.int .i64 most)
  h10 : Ax.look σ 10 = some u0
  h11 : Ax.look σ 11 = some (.int .i64 l.length)
theorem MmI.ext {l : List Ba} {u0 : Value} {most : Nat} {F0 : Fz} {M0 : Hp} {σ σ' : Env} {F : Fz} {M : Hp} (s : MmI l u0 most F0 M0 σ F M) (e1 : Ax.look σ' 1 = Ax.look σ 1) (e10 : Ax.look σ' 10 = Ax.look σ 10) (e11 : Ax.look σ' 11 = Ax.look σ 11) : MmI l u0 most F0 M0 σ' F M :=
  ⟨s.ff, s.kp, s.old, e1.trans s.h1, e10.trans s.h10, e11.trans s.h11⟩
def mmO (l : List Ba) (u0 : Value) (most : Nat) (F0 : Fz) (M0 : Hp) (m : Nat) (σ : Env) (F : Fz) (M : Hp) : Prop :=
  MmI l u0 most F0 M0 σ F M ∧ ∃ (i : Nat) (w : Value), i + m = l.length ∧ Ax.look σ 12 = some (.int .i64 i) ∧ Ax.look σ 4 = some w ∧ MineG 4 Sc.cs 32 F0 M0 M w (memB (l.take i)) ∧ (memB (l.take i)).length ≤ most
def mmB (l : List Ba) (u0 : Value) (most : Nat) (F0 : Fz) (M0 : Hp) (i : Nat) (σ : Env) (F : Fz) (M : Hp) : Prop :=
  MmI l u0 most F0 M0 σ F M ∧ Ax.look σ 12 = some (.int .i64 i) ∧ ∃ (w : Value), Ax.look σ 4 = some w ∧ MineG 4 Sc.cs 32 F0 M0 M w (memB (l.take (i + 1))) ∧ (memB (l.take (i + 1))).length ≤ most
def mmJ (l : List Ba) (u0 : Value) (most : Nat) (F0 : Fz) (M0 : Hp) (i : Nat) (x : Ba) (r7 : Nat) (aq : Option Addr) (cq : Nat) (m : Nat) (σ : Env) (F : Fz) (M : Hp) : Prop :=
  MmI l u0 most F0 M0 σ F M ∧ Ax.look σ 12 = some (.int .i64 i) ∧ Ax.look σ 7 = some (.pointer (some ⟨r7, 0, none⟩)) ∧ M r7 = some ⟨x.cs, 87, 7⟩ ∧ Ax.look σ 17 = some (.slice aq x.v.offs.length cq) ∧ Ax.look σ 18 = some (.int .i64 x.v.offs.length) ∧ OwnG 1 intC 3 F0 M (.slice aq x.v.offs.length cq) x.v.offs ∧
  ∃ (j : Nat) (w : Value), j + m = x.v.offs.length ∧ Ax.look σ 19 = some (.int .i64 j) ∧ Ax.look σ 4 = some w ∧ MineG 4 Sc.cs 32 F0 M0 M w (memB (l.take i) ++ (x.v.offs.take j).map fun o => ⟨true, 0, x.b, o⟩) ∧ (memB (l.take i) ++ (x.v.offs.take j).map fun o => (⟨true, 0, x.b, o⟩ : Sc)).length ≤ most
theorem memB_take {l : List Ba} {i : Nat} (hi : i < l.length) : memB (l.take (i + 1)) = memB (l.take i) ++ l[i].v.offs.map fun o => ⟨true, 0, l[i].b, o⟩ := by
  rw [List.take_succ_eq_append_getElem hi, memB_app]
  simp [memB]
theorem memB_le {l : List Ba} (i : Nat) : (memB (l.take i)).length ≤ (memB l).length := by
  have := congrArg (fun t => (memB t).length) (List.take_append_drop i l)
  simp only [memB_app, List.length_append] at this
  omega
theorem k111 (u0 : Value) (l : List Ba) (most : Nat) (hmo : most ≤ 1000) (hl : l.length ≤ 1000) (hold : Old F M) (h : RdG 7 Ba.cs F M u0 l) (hv : ∀ x ∈ l, x.v.ok = true) : CallsA Try.prog 111 [u0, .int .i64 most] F M (memsR l most F M) := by
  refine callsA_of hm Try.func111 e111 (Nat.le_of_ble_eq_true rfl) ?_
  have hlen := memB_len l
  have h' := h
  obtain ⟨_, ad, cap, _, rfl, _⟩ := h
  simp only [c111, go_sem, reduceCtorEq, reduceIte, Nat.reduceEqDiff, Nat.reduceAdd, Nat.reduceLeDiff, Nat.reduceMul, Int.reduceLT, Int.reduceLE, Int.reduceAdd, Int.reduceSub, Int.reduceMul, Int.reduceNeg, Int.reduceToNat, Int.reduceEq]
  refine loop_of (mmO l (.slice ad l.length cap) most F M) l.length ?_ ?_
  · exact ⟨⟨rfl, Keep.refl _, hold, by simp only [go_sem, reduceCtorEq, reduceIte, Nat.reduceEqDiff], by simp only [go_sem, reduceCtorEq, reduceIte, Nat.reduceEqDiff], by simp only [go_sem, reduceCtorEq, reduceIte, Nat.reduceEqDiff]⟩, 0, _, by omega, by simp only [go_sem, reduceCtorEq, reduceIte, Nat.reduceEqDiff] <;> rfl, by simp only [go_sem, reduceCtorEq, reduceIte, Nat.reduceEqDiff], MineG.nil, by simp [memB]⟩
  rintro mi σ F' M1 ⟨s, i, w, hi, h12, h4, mine, hmost⟩
  obtain rfl := s.ff
  by_cases hil : (i : Int) < l.length
  rotate_left
  · have : l.take i = l := List.take_of_length_le (by omega)
    rw [this] at mine hmost
    simp only [go_sem, reduceCtorEq, reduceIte, Nat.reduceEqDiff, Nat.reduceAdd, Nat.reduceLeDiff, Nat.reduceMul, Int.reduceLT, Int.reduceLE, Int.reduceAdd, Int.reduceSub, Int.reduceMul, Int.reduceNeg, Int.reduceToNat, Int.reduceEq, s.h1, s.h10, s.h11, h12, h4, hil]
    obtain ⟨M2, k1, k2, hr⟩ := mine.alone s.kp
    exact ⟨F', M2, k1.wk F', .inl ⟨hmost, w, rfl, hr⟩⟩
  have ei : IntKind.i64.wrap ((i : Int) + 1) = i + 1 := w64 (by omega) (by omega)
  have hi0 : (0 : Int) ≤ i := by omega
  have hil' : i < l.length := by omega
  have rdl := h'.keep s.kp s.old
  obtain ⟨_, _, _, _, eu, hrd⟩ := rdl
  cases eu
  rcases hrd with h | ⟨b, o, cs, rfl, hb, hc⟩
  · rw [h] at hil'; simp at hil'
  obtain ⟨d1, d2⟩ := hc i hil'
  have hx := hv l[i] (List.getElem_mem _)
  have htk := memB_take hil'
  have hge := memB_le (l := l) (i + 1)
  generalize l[i] = x at *
  simp only [go_sem, reduceCtorEq, reduceIte, Nat.reduceEqDiff, Nat.reduceAdd, Nat.reduceLeDiff, Nat.reduceMul, Int.reduceLT, Int.reduceLE, Int.reduceAdd, Int.reduceSub, Int.reduceMul, Int.reduceNeg, Int.reduceToNat, Int.reduceEq, s.h1, s.h10, s.h11, h12, h4, hil, hi0, Int.toNat_natCast, hb, d1, d2]
  intro r7 hF7 hM7
  simp only [go_sem, reduceCtorEq, reduceIte, Nat.reduceEqDiff, Nat.reduceAdd, Nat.reduceLeDiff, Nat.reduceMul, Int.reduceLT, Int.reduceLE, Int.reduceAdd, Int.reduceSub, Int.reduceMul, Int.reduceNeg, Int.reduceToNat, Int.reduceEq, s.h1, s.h10, s.h11, h12, h4]
  refine callK_of (k108 _ _ x hx) ?_
  rintro q G M2 hq
  have hol := x.v.offs_len
  obtain ⟨hG, le, kq, oq, aq, cq, rfl, rdq⟩ := hq.le intC_len (by omega)
  subst hG
  refine ⟨(fun h => by cases h), ?_⟩
  have old2 := oq (s.old.upd hF7)
  have kp2 : Keep M1 M2 := ((Keep.refl M1).new hM7).trans kq
  simp only [go_sem, reduceCtorEq, reduceIte, Nat.reduceEqDiff, Nat.reduceAdd, Nat.reduceLeDiff, Nat.reduceMul, Int.reduceLT, Int.reduceLE, Int.reduceAdd, Int.reduceSub, Int.reduceMul, Int.reduceNeg, Int.reduceToNat, Int.reduceEq, s.h1, s.h10, s.h11, h12, h4]
  refine loop_of (mmJ l (.slice (some ⟨b, o, none⟩) l.length cap) most G M i x r7 aq cq) x.v.offs.length ?_ ?_
  · exact ⟨⟨rfl, s.kp.trans kp2, old2, by simp only [go_sem, reduceCtorEq, reduceIte, Nat.reduceEqDiff, s.h1], by simp only [go_sem, reduceCtorEq, reduceIte, Nat.reduceEqDiff, s.h10], by simp only [go_sem, reduceCtorEq, reduceIte, Nat.reduceEqDiff, s.h11]⟩, by simp only [go_sem, reduceCtorEq, reduceIte, Nat.reduceEqDiff, h12], by simp only [go_sem, reduceCtorEq, reduceIte, Nat.reduceEqDiff], kq _ _ (Hp.upd_same _ _ _), by simp only [go_sem, reduceCtorEq, reduceIte, Nat.reduceEqDiff], by simp only [go_sem, reduceCtorEq, reduceIte, Nat.reduceEqDiff], hq.own, 0, w, by omega, by simp only [go_sem, reduceCtorEq, reduceIte, Nat.reduceEqDiff] <;> rfl, by simp only [go_sem, reduceCtorEq, reduceIte, Nat.reduceEqDiff, h4], by simpa using mine.keep kp2, by simpa using hmost⟩
  clear rdq old2 kp2 kq oq hq le mine hmost h12 h4 hM7 hF7
  clear s
  clear M2 M1 hb σ w
  rintro mj σ F2 M1 ⟨s, h12, h7, f7, h17, h18, rdq, j, w, hj, h19, h4, mine, hmost⟩
  obtain rfl := s.ff
  have b7 := blk_M (F := F2) f7
  by_cases hjl : (j : Int) < x.v.offs.length
  rotate_left
  · have : x.v.offs.take j = x.v.offs := List.take_of_length_le (by omega)
    rw [this, ← htk] at mine hmost
    simp only [go_sem, reduceCtorEq, reduceIte, Nat.reduceEqDiff, Nat.reduceAdd, Nat.reduceLeDiff, Nat.reduceMul, Int.reduceLT, Int.reduceLE, Int.reduceAdd, Int.reduceSub, Int.reduceMul, Int.reduceNeg, Int.reduceToNat, Int.reduceEq, s.h1, s.h10, s.h11, h12, h4, h7, h17, h18, h19, hjl, ei]
    exact ⟨mi - 1, by omega, ⟨s.ff, s.kp, s.old, by simp only [go_sem, reduceCtorEq, reduceIte, Nat.reduceEqDiff, s.h1], by simp only [go_sem, reduceCtorEq, reduceIte, Nat.reduceEqDiff, s.h10], by simp only [go_sem, reduceCtorEq, reduceIte, Nat.reduceEqDiff, s.h11]⟩, i + 1, w, by omega, by simp only [go_sem, reduceCtorEq, reduceIte, Nat.reduceEqDiff]; rfl, by simp only [go_sem, reduceCtorEq, reduceIte, Nat.reduceEqDiff, h4], mine, hmost⟩
  have ej : IntKind.i64.wrap ((j : Int) + 1) = j + 1 := w64 (by omega) (by omega)
  have hj0 : (0 : Int) ≤ j := by omega
  have hjl' : j < x.v.offs.length := by omega
  have rdq' := rdq.rd intC_len (by omega)
  obtain ⟨_, _, _, _, eu, hrd⟩ := rdq'
  cases eu
  rcases hrd with h | ⟨bq, oq, csq, rfl, hbq, hcq⟩
  · rw [h] at hjl'; simp at hjl'
  obtain ⟨e1, e2⟩ := hcq j hjl'
  have e3 := one_row e2
  rw [Nat.mul_one] at e3
  obtain ⟨aw, cw, ew⟩ := mine.shape
  generalize hrow : memB (l.take i) ++ (x.v.offs.take j).map (fun o => (⟨true, 0, x.b, o⟩ : Sc)) = row at *
  have hnext : memB (l.take i) ++ (x.v.offs.take (j + 1)).map (fun o => (⟨true, 0, x.b, o⟩ : Sc)) = row ++ [⟨true, 0, x.b, x.v.offs[j]⟩] := by
    rw [List.take_succ_eq_append_getElem hjl', List.map_append, ← List.append_assoc, hrow]; rfl
  have htot : row.length + 1 ≤ (memB (l.take (i + 1))).length := by
    rw [htk, ← hrow]
    simp
    omega
  generalize x.v.offs[j] = y at *
  simp only [intV] at e3
  by_cases hfull : (row.length : Int) = most
  · simp only [go_sem, reduceCtorEq, reduceIte, Nat.reduceEqDiff, Nat.reduceAdd, Nat.reduceLeDiff, Nat.reduceMul, Int.reduceLT, Int.reduceLE, Int.reduceAdd, Int.reduceSub, Int.reduceMul, Int.reduceNeg, Int.reduceToNat, Int.reduceEq, s.h1, s.h10, s.h11, h12, h4, h7, h17, h18, h19, hjl, hj0, Int.toNat_natCast, Nat.mul_one, hbq, e3, ew, hfull]
    exact endK_keep s.kp (.inr ⟨by omega, rfl, rfl, rfl⟩)
  have nfull : ¬ ((row.length : Int) = most) := hfull
  simp only [go_sem, reduceCtorEq, reduceIte, Nat.reduceEqDiff, Nat.reduceAdd, Nat.reduceLeDiff, Nat.reduceMul, Int.reduceLT, Int.reduceLE, Int.reduceAdd, Int.reduceSub, Int.reduceMul, Int.reduceNeg, Int.reduceToNat, Int.reduceEq, s.h1, s.h10, s.h11, h12, h4, h7, h17, h18, h19, hjl, hj0, Int.toNat_natCast, Nat.mul_one, hbq, e3, ew, hfull, b7]
  intro rb hFb hMb
  have gb := ne_of_none hMb f7
  rw [ew] at mine
  simp only [go_sem, reduceCtorEq, reduceIte, Nat.reduceEqDiff, Nat.reduceAdd, Nat.reduceLeDiff, Nat.reduceMul, Int.reduceLT, Int.reduceLE, Int.reduceAdd, Int.reduceSub, Int.reduceMul, Int.reduceNeg, Int.reduceToNat, Int.reduceEq, s.h1, s.h10, s.h11, h12, h4, h7, h17, h18, h19]
  refine apMG_of (xs := row) (ys := [⟨true, 0, x.b, y⟩]) (fun x => rfl) Sc.plain (by decide) (mine.fresh hMb) (s.kp.new (s.kp.free hMb)) ⟨rfl, .inr ⟨⟨rb, 0, none⟩, 1, rfl, .inr ⟨rb, 0, _, rfl, blk_upd_same, by simp [Sc.take4]⟩⟩⟩ (by simp) (by simp; omega) ?_
  rintro v' M2 _ hfr kp2 ho2 mine2
  have f72 : M2 r7 = some ⟨x.cs, 87, 7⟩ := hfr _ _ (by rw [Hp.upd_ne' gb.1]; exact f7) (by simp)
  simp only [go_sem, reduceCtorEq, reduceIte, Nat.reduceEqDiff, Nat.reduceAdd, Nat.reduceLeDiff, Nat.reduceMul, Int.reduceLT, Int.reduceLE, Int.reduceAdd, Int.reduceSub, Int.reduceMul, Int.reduceNeg, Int.reduceToNat, Int.reduceEq, s.h1, s.h10, s.h11, h12, h4, h7, h17, h18, h19, ej]
  exact ⟨mj - 1, by omega, ⟨rfl, kp2, ho2 (s.old.upd hFb), by simp only [go_sem, reduceCtorEq, reduceIte, Nat.reduceEqDiff, s.h1], by simp only [go_sem, reduceCtorEq, reduceIte, Nat.reduceEqDiff, s.h10], by simp only [go_sem, reduceCtorEq, reduceIte, Nat.reduceEqDiff, s.h11]⟩, by simp only [go_sem, reduceCtorEq, reduceIte, Nat.reduceEqDiff, h12], by simp only [go_sem, reduceCtorEq, reduceIte, Nat.reduceEqDiff, h7], f72, by simp only [go_sem, reduceCtorEq, reduceIte, Nat.reduceEqDiff, h17], by simp only [go_sem, reduceCtorEq, reduceIte, Nat.reduceEqDiff, h18], (rdq.new hMb).frame hfr (by decide), j + 1, v', by omega, by simp only [go_sem, reduceCtorEq, reduceIte, Nat.reduceEqDiff]; rfl, by simp only [go_sem, reduceCtorEq, reduceIte, Nat.reduceEqDiff], by rw [hnext]; exact mine2, by rw [hnext]; simp; omega⟩
theorem k107 (x : Ba) (hv : x.v.ok = true) : CallsA Try.prog 107 [x.val] F M (Same F M (.bool (decide (0 ≤ x.v.nextR 0) && decide (x.v.nextR 0 ≤ 32)))) := by
  refine callsA_of hm Try.func107 e107 (Nat.le_of_ble_eq_true rfl) ?_
  simp only [c107, go_sem, reduceCtorEq, reduceIte, Nat.reduceEqDiff, Nat.reduceAdd, Nat.reduceLeDiff, Nat.reduceMul, Int.reduceLT, Int.reduceLE, Int.reduceAdd, Int.reduceSub, Int.reduceMul, Int.reduceNeg, Int.reduceToNat, Int.reduceEq]
  intro r1 hF1 hM1
  simp only [go_sem, reduceCtorEq, reduceIte, Nat.reduceEqDiff, Nat.reduceAdd, Nat.reduceLeDiff, Nat.reduceMul, Int.reduceLT, Int.reduceLE, Int.reduceAdd, Int.reduceSub, Int.reduceMul, Int.reduceNeg, Int.reduceToNat, Int.reduceEq]
  refine callK_of (k108 _ _ x hv) ?_
  rintro q G M2 hq
  have hol := x.v.offs_len
  obtain ⟨hG, le, kq, oq, aq, cq, rfl, rdq⟩ := hq.le intC_len (by omega)
  subst hG
  refine ⟨(fun h => by cases h), ?_⟩
  have hpos := x.v.offs_pos
  rw [← hpos]
  have e1 : decide ((0 : Int) < (x.v.offs.length : Int)) = decide (0 < x.v.offs.length) := by
    apply Bool.eq_iff_iff.2
    simp only [decide_eq_true_eq]
    omega
  simp only [go_sem, reduceCtorEq, reduceIte, Nat.reduceEqDiff, Nat.reduceAdd, Nat.reduceLeDiff, Nat.reduceMul, Int.reduceLT, Int.reduceLE, Int.reduceAdd, Int.reduceSub, Int.reduceMul, Int.reduceNeg, Int.reduceToNat, Int.reduceEq, e1]
  exact endK_keep (((Keep.refl _).new hM1).trans kq) ⟨rfl, rfl, rfl⟩
theorem k70 (k : Int) (v : V) (u : Value) (l : List Ba) (h : RdG 7 Ba.cs F M u l) (hok : absB k v l = true) : CallsA Try.prog 70 [.int .i64 k, abV v u] F M (Same F M (.bool (emptyB k v l))) := by
  refine callsA_of hm Try.func70 e70 (Nat.le_of_ble_eq_true rfl) ?_
  have hp := abs_pre hok
  have h' := h
  obtain ⟨_, ad, cap, _, rfl, _⟩ := h
  simp only [c70, go_sem, reduceCtorEq, reduceIte, Nat.reduceEqDiff, Nat.reduceAdd, Nat.reduceLeDiff, Nat.reduceMul, Int.reduceLT, Int.reduceLE, Int.reduceAdd, Int.reduceSub, Int.reduceMul, Int.reduceNeg, Int.reduceToNat, Int.reduceEq]
  intro r3 hF3 hM3
  have h2 := h'.new hF3 hM3 (e := ⟨abCs v (.slice ad l.length cap), 37, 7⟩)
  by_cases h7 : k = 7
  · simp only [go_sem, reduceCtorEq, reduceIte, Nat.reduceEqDiff, Nat.reduceAdd, Nat.reduceLeDiff, Nat.reduceMul, Int.reduceLT, Int.reduceLE, Int.reduceAdd, Int.reduceSub, Int.reduceMul, Int.reduceNeg, Int.reduceToNat, Int.reduceEq, h7]
    refine callK_same (k106 _ _ _ l 107 [] (fun x => decide (0 ≤ x.v.nextR 0) && decide (x.v.nextR 0 ≤ 32)) h2 (fun x hx => k107 _ _ x (hp.2.2 x hx).2.2.1)) ?_
    simp only [go_sem, reduceCtorEq, reduceIte, Nat.reduceEqDiff, Nat.reduceAdd, Nat.reduceLeDiff, Nat.reduceMul, Int.reduceLT, Int.reduceLE, Int.reduceAdd, Int.reduceSub, Int.reduceMul, Int.reduceNeg, Int.reduceToNat, Int.reduceEq]
    exact endK_drop hM3 (endK_same ⟨by simp [emptyB], rfl, rfl⟩)
  · simp only [go_sem, reduceCtorEq, reduceIte, Nat.reduceEqDiff, Nat.reduceAdd, Nat.reduceLeDiff, Nat.reduceMul, Int.reduceLT, Int.reduceLE, Int.reduceAdd, Int.reduceSub, Int.reduceMul, Int.reduceNeg, Int.reduceToNat, Int.reduceEq, h7]
    refine callK_same (k109 _ _ v (hp.2.1 h7).1) ?_
    simp only [go_sem, reduceCtorEq, reduceIte, Nat.reduceEqDiff, Nat.reduceAdd, Nat.reduceLeDiff, Nat.reduceMul, Int.reduceLT, Int.reduceLE, Int.reduceAdd, Int.reduceSub, Int.reduceMul, Int.reduceNeg, Int.reduceToNat, Int.reduceEq]
    exact endK_drop hM3 (endK_same ⟨by simp [emptyB, h7], rfl, rfl⟩)
theorem k27 (k : Int) (v : V) (u : Value) (l : List Ba) (h : RdG 7 Ba.cs F M u l) : CallsA Try.prog 27 [.int .i64 k, abV v u] F M (Same F M (if absB k v l then .tuple #[.bool (emptyB k v l), .int .i64 0] else .tuple #[.bool false, .int .i64 1])) := by
  refine callsA_of hm Try.func27 e27 (Nat.le_of_ble_eq_true rfl) ?_
  have h' := h
  obtain ⟨_, ad, cap, _, rfl, _⟩ := h
  simp only [c27, go_sem, reduceCtorEq, reduceIte, Nat.reduceEqDiff, Nat.reduceAdd, Nat.reduceLeDiff, Nat.reduceMul, Int.reduceLT, Int.reduceLE, Int.reduceAdd, Int.reduceSub, Int.reduceMul, Int.reduceNeg, Int.reduceToNat, Int.reduceEq]
  intro r3 hF3 hM3
  have h2 := h'.new hF3 hM3 (e := ⟨abCs v (.slice ad l.length cap), 37, 7⟩)
  simp only [go_sem, reduceCtorEq, reduceIte, Nat.reduceEqDiff, Nat.reduceAdd, Nat.reduceLeDiff, Nat.reduceMul, Int.reduceLT, Int.reduceLE, Int.reduceAdd, Int.reduceSub, Int.reduceMul, Int.reduceNeg, Int.reduceToNat, Int.reduceEq]
  refine callK_same (k69 _ _ k v _ l h2) ?_
  cases ha : absB k v l
  · simp only [go_sem, reduceCtorEq, reduceIte, Nat.reduceEqDiff, Nat.reduceAdd, Nat.reduceLeDiff, Nat.reduceMul, Int.reduceLT, Int.reduceLE, Int.reduceAdd, Int.reduceSub, Int.reduceMul, Int.reduceNeg, Int.reduceToNat, Int.reduceEq]
    exact endK_drop hM3 (endK_same ⟨by simp, rfl, rfl⟩)
  simp only [go_sem, reduceCtorEq, reduceIte, Nat.reduceEqDiff, Nat.reduceAdd, Nat.reduceLeDiff, Nat.reduceMul, Int.reduceLT, Int.reduceLE, Int.reduceAdd, Int.reduceSub, Int.reduceMul, Int.reduceNeg, Int.reduceToNat, Int.reduceEq]
  refine callK_same (k70 _ _ k v _ l h2 ha) ?_
  simp only [go_sem, reduceCtorEq, reduceIte, Nat.reduceEqDiff, Nat.reduceAdd, Nat.reduceLeDiff, Nat.reduceMul, Int.reduceLT, Int.reduceLE, Int.reduceAdd, Int.reduceSub, Int.reduceMul, Int.reduceNeg, Int.reduceToNat, Int.reduceEq]
  exact endK_drop hM3 (endK_same ⟨by simp, rfl, rfl⟩)
theorem k30 (k : Int) (v : V) (u : Value) (l : List Ba) (h : RdG 7 Ba.cs F M u l) : CallsA Try.prog 30 [.int .i64 k, abV v u] F M (Same F M (.int .i64 (if absB k v l then 0 else 1))) := by
  refine callsA_of hm Try.func30 e30 (Nat.le_of_ble_eq_true rfl) ?_
  have h' := h
  obtain ⟨_, ad, cap, _, rfl, _⟩ := h
  simp only [c30, go_sem, reduceCtorEq, reduceIte, Nat.reduceEqDiff, Nat.reduceAdd, Nat.reduceLeDiff, Nat.reduceMul, Int.reduceLT, Int.reduceLE, Int.reduceAdd, Int.reduceSub, Int.reduceMul, Int.reduceNeg, Int.reduceToNat, Int.reduceEq]
  intro r3 hF3 hM3
  have h2 := h'.new hF3 hM3 (e := ⟨abCs v (.slice ad l.length cap), 37, 7⟩)
  simp only [go_sem, reduceCtorEq, reduceIte, Nat.reduceEqDiff, Nat.reduceAdd, Nat.reduceLeDiff, Nat.reduceMul, Int.reduceLT, Int.reduceLE, Int.reduceAdd, Int.reduceSub, Int.reduceMul, Int.reduceNeg, Int.reduceToNat, Int.reduceEq]
  refine callK_same (k69 _ _ k v _ l h2) ?_
  cases ha : absB k v l
  · simp only [go_sem, reduceCtorEq, reduceIte, Nat.reduceEqDiff, Nat.reduceAdd, Nat.reduceLeDiff, Nat.reduceMul, Int.reduceLT, Int.reduceLE, Int.reduceAdd, Int.reduceSub, Int.reduceMul, Int.reduceNeg, Int.reduceToNat, Int.reduceEq]
    exact endK_drop hM3 (endK_same ⟨by simp, rfl, rfl⟩)
  simp only [go_sem, reduceCtorEq, reduceIte, Nat.reduceEqDiff, Nat.reduceAdd, Nat.reduceLeDiff, Nat.reduceMul, Int.reduceLT, Int.reduceLE, Int.reduceAdd, Int.reduceSub, Int.reduceMul, Int.reduceNeg, Int.reduceToNat, Int.reduceEq]
  exact endK_drop hM3 (endK_same ⟨by simp, rfl, rfl⟩)
/-- What the program tells of a set's only member. -/
def lone2 (k : Int) (v : V) (l : List Ba) : Sc × Bool := if (onlyB k v l).2 = true then ((onlyB k v l).1, true) else (⟨false, 0, 0, 0⟩, false)
theorem k71 (k : Int) (v : V) (u : Value) (l : List Ba) (h : RdG 7 Ba.cs F M u l) (hold : Old F M) (hok : absB k v l = true) : CallsA Try.prog 71 [.int .i64 k, abV v u] F M (Same F M (.tuple #[(lone2 k v l).1.val, .bool (lone2 k v l).2])) := by
  refine callsA_of hm Try.func71 e71 (Nat.le_of_ble_eq_true rfl) ?_
  have hp := abs_pre hok
  have h' := h
  obtain ⟨_, ad, cap, _, rfl, _⟩ := h
  simp only [c71, go_sem, reduceCtorEq, reduceIte, Nat.reduceEqDiff, Nat.reduceAdd, Nat.reduceLeDiff, Nat.reduceMul, Int.reduceLT, Int.reduceLE, Int.reduceAdd, Int.reduceSub, Int.reduceMul, Int.reduceNeg, Int.reduceToNat, Int.reduceEq]
  intro r3 hF3 hM3
  simp only [go_sem, reduceCtorEq, reduceIte, Nat.reduceEqDiff, Nat.reduceAdd, Nat.reduceLeDiff, Nat.reduceMul, Int.reduceLT, Int.reduceLE, Int.reduceAdd, Int.reduceSub, Int.reduceMul, Int.reduceNeg, Int.reduceToNat, Int.reduceEq]
  intro r4 hF4 hM4
  have g4 := fresh_of hM4
  have h2 := (h'.new hF3 hM3 (e := ⟨abCs v (.slice ad l.length cap), 37, 7⟩)).new hF4 hM4 (e := ⟨[.bool false, .int .i64 0, .int .i64 0, .int .i64 0], 32, 4⟩)
  have old2 := (hold.upd hF3 (e := ⟨abCs v (.slice ad l.length cap), 37, 7⟩)).upd hF4 (e := ⟨[.bool false, .int .i64 0, .int .i64 0, .int .i64 0], 32, 4⟩)
  by_cases h7 : k = 7
  rotate_left
  · have e0 : lone2 k v l = (⟨false, if v.is1 then v.nextR 0 else 0, 0, 0⟩, v.is1) := by
      unfold lone2 onlyB
      rw [if_neg h7]
      cases h1 : v.is1 <;> simp
    rw [e0]
    simp only [go_sem, reduceCtorEq, reduceIte, Nat.reduceEqDiff, Nat.reduceAdd, Nat.reduceLeDiff, Nat.reduceMul, Int.reduceLT, Int.reduceLE, Int.reduceAdd, Int.reduceSub, Int.reduceMul, Int.reduceNeg, Int.reduceToNat, Int.reduceEq, g4, h7]
    refine callK_same (k110 _ _ v (hp.2.1 h7).1) ?_
    simp only [loneA, go_sem, reduceCtorEq, reduceIte, Nat.reduceEqDiff, Nat.reduceAdd, Nat.reduceLeDiff, Nat.reduceMul, Int.reduceLT, Int.reduceLE, Int.reduceAdd, Int.reduceSub, Int.reduceMul, Int.reduceNeg, Int.reduceToNat, Int.reduceEq, g4]
    exact endK_drop hM4 (endK_drop hM3 (endK_same ⟨rfl, rfl, rfl⟩))
  subst h7
  have hmem := onlyP_mem l
  have hmm := k111 F ((M.upd r3 ⟨abCs v (.slice ad l.length cap), 37, 7⟩).upd r4 ⟨[.bool false, .int .i64 0, .int .i64 0, .int .i64 0], 32, 4⟩) _ l 1 (by decide) (by omega) old2 h2 (fun x hx => (hp.2.2 x hx).2.2.1)
  have hl2 : lone2 7 v l = if decide ((onlyP l).2 = 1) = true then ((onlyP l).1, true) else (⟨false, 0, 0, 0⟩, false) := by
    unfold lone2 onlyB
    rfl
  simp only [go_sem, reduceCtorEq, reduceIte, Nat.reduceEqDiff, Nat.reduceAdd, Nat.reduceLeDiff, Nat.reduceMul, Int.reduceLT, Int.reduceLE, Int.reduceAdd, Int.reduceSub, Int.reduceMul, Int.reduceNeg, Int.reduceToNat, Int.reduceEq, g4]
  refine callK_of hmm ?_
  have f4 : ∀ M', Keep ((M.upd r3 ⟨abCs v (.slice ad l.length cap), 37, 7⟩).upd r4 ⟨[.bool false, .int .i64 0, .int .i64 0, .int .i64 0], 32, 4⟩) M' → M' r4 = some ⟨[.bool false, .int .i64 0, .int .i64 0, .int .i64 0], 32, 4⟩ := fun M' kp => kp _ _ (Hp.upd_same _ _ _)
  have kp0 : Keep M ((M.upd r3 ⟨abCs v (.slice ad l.length cap), 37, 7⟩).upd r4 ⟨[.bool false, .int .i64 0, .int .i64 0, .int .i64 0], 32, 4⟩) := ((Keep.refl M).new hM3).new g4.2.2
  have n4 : M r4 = none := g4.2.2
  generalize (M.upd r3 ⟨abCs v (.slice ad l.length cap), 37, 7⟩).upd r4 ⟨[.bool false, .int .i64 0, .int .i64 0, .int .i64 0], 32, 4⟩ = M4 at *
  rintro w G M2 (⟨hle, w, rfl, hr⟩ | ⟨hgt, rfl, hG, hM'⟩)
  rotate_left
  · have hno : decide ((onlyP l).2 = 1) = false := by
      cases hd : decide ((onlyP l).2 = 1)
      · rfl
      · have := hmem.1 hd
        rw [this] at hgt; simp at hgt
    rw [hG, hM', hl2, hno]
    refine ⟨(fun h => by cases h), ?_⟩
    have f4' := f4 _ (Keep.refl _)
    have b4 := blk_M (F := F) f4'
    simp only [go_sem, reduceCtorEq, reduceIte, Nat.reduceEqDiff, Nat.reduceAdd, Nat.reduceLeDiff, Nat.reduceMul, Int.reduceLT, Int.reduceLE, Int.reduceAdd, Int.reduceSub, Int.reduceMul, Int.reduceNeg, Int.reduceToNat, Int.reduceEq, g4, b4, f4']
    simp only [setH, go_sem, reduceCtorEq, reduceIte, Nat.reduceEqDiff, Nat.reduceAdd, Nat.reduceLeDiff, Nat.reduceMul, Int.reduceLT, Int.reduceLE, Int.reduceAdd, Int.reduceSub, Int.reduceMul, Int.reduceNeg, Int.reduceToNat, Int.reduceEq]
    exact endK_keep (kp0.new n4) ⟨rfl, rfl, rfl⟩
  obtain ⟨hG, le, kq, oq, a, c, rfl, rdq⟩ := hr.le (f := Sc.cs) (fun x => rfl) (by omega)
  subst hG
  refine ⟨(fun h => by cases h), ?_⟩
  have f4' := f4 _ kq
  have b4 := blk_M (F := G) f4'
  cases hd : decide ((onlyP l).2 = 1)
  · have hz : (memB l).length = 0 := by have := hmem.2 hd; omega
    have hz' : ((memB l).length : Int) = 0 := by omega
    rw [hl2, hd]
    simp only [go_sem, reduceCtorEq, reduceIte, Nat.reduceEqDiff, Nat.reduceAdd, Nat.reduceLeDiff, Nat.reduceMul, Int.reduceLT, Int.reduceLE, Int.reduceAdd, Int.reduceSub, Int.reduceMul, Int.reduceNeg, Int.reduceToNat, Int.reduceEq, g4, hz', b4, f4']
    simp only [setH, go_sem, reduceCtorEq, reduceIte, Nat.reduceEqDiff, Nat.reduceAdd, Nat.reduceLeDiff, Nat.reduceMul, Int.reduceLT, Int.reduceLE, Int.reduceAdd, Int.reduceSub, Int.reduceMul, Int.reduceNeg, Int.reduceToNat, Int.reduceEq]
    exact endK_keep ((kp0.trans kq).new n4) ⟨rfl, rfl, rfl⟩
  · have h1 := hmem.1 hd
    rw [hl2, hd]
    rw [h1] at rdq
    obtain ⟨_, _, _, _, eu, hrd⟩ := rdq
    cases eu
    rcases hrd with h | ⟨b, o, cs, rfl, hb, hc⟩
    · cases h
    obtain ⟨d1, d2⟩ := hc 0 (by simp)
    rw [h1]
    simp only [List.getElem_cons_zero, Nat.zero_mul, Nat.add_zero] at d1 d2
    simp only [go_sem, reduceCtorEq, reduceIte, Nat.reduceEqDiff, Nat.reduceAdd, Nat.reduceLeDiff, Nat.reduceMul, Int.reduceLT, Int.reduceLE, Int.reduceAdd, Int.reduceSub, Int.reduceMul, Int.reduceNeg, Int.reduceToNat, Int.reduceEq, g4, b4, f4', List.length_singleton, Nat.zero_mul, Nat.add_zero, hb, d1, d2]
    simp only [setH, go_sem, reduceCtorEq, reduceIte, Nat.reduceEqDiff, Nat.reduceAdd, Nat.reduceLeDiff, Nat.reduceMul, Int.reduceLT, Int.reduceLE, Int.reduceAdd, Int.reduceSub, Int.reduceMul, Int.reduceNeg, Int.reduceToNat, Int.reduceEq]
    exact endK_keep ((kp0.trans kq).new n4) ⟨rfl, rfl, rfl⟩
end Go.Proofs.Try.K

/- Contracts: a set's only member, told; emptiness by the page; sets copied and compared. -/
namespace Go.Proofs.Try.K
open Go Go.Ax Go.Proofs.Try.S
set_option maxRecDepth 100000
set_option linter.unusedSimpArgs false
set_option linter.unusedVariables false
variable (F : Fz) (M : Hp)

theorem k28 (k : Int) (v : V) (u : Value) (l : List Ba) (h : RdG 7 Ba.cs F M u l) (hold : Old F M) : CallsA Try.prog 28 [.int .i64 k, abV v u] F M
    (Same F M (if absB k v l then .tuple #[.bool (lone2 k v l).2, (lone2 k v l).1.val, .int .i64 0] else .tuple #[.bool false, (Sc.mk false 0 0 0).val, .int .i64 1])) := by
  refine callsA_of hm Try.func28 e28 (Nat.le_of_ble_eq_true rfl) ?_
  have h' := h
  obtain ⟨_, ad, cap, _, rfl, _⟩ := h
  simp only [c28, go_sem, reduceCtorEq, reduceIte, Nat.reduceEqDiff, Nat.reduceAdd, Nat.reduceLeDiff, Nat.reduceMul, Int.reduceLT, Int.reduceLE, Int.reduceAdd, Int.reduceSub, Int.reduceMul, Int.reduceNeg, Int.reduceToNat, Int.reduceEq]
  intro r3 hF3 hM3
  simp only [go_sem, reduceCtorEq, reduceIte, Nat.reduceEqDiff, Nat.reduceAdd, Nat.reduceLeDiff, Nat.reduceMul, Int.reduceLT, Int.reduceLE, Int.reduceAdd, Int.reduceSub, Int.reduceMul, Int.reduceNeg, Int.reduceToNat, Int.reduceEq]
  intro r5 hF5 hM5
  have g5 := fresh_of hM5
  have h2 := (h'.new hF3 hM3 (e := ⟨abCs v (.slice ad l.length cap), 37, 7⟩)).new hF5 hM5 (e := ⟨[.bool false, .int .i64 0, .int .i64 0, .int .i64 0], 32, 4⟩)
  have old2 := (hold.upd hF3 (e := ⟨abCs v (.slice ad l.length cap), 37, 7⟩)).upd hF5 (e := ⟨[.bool false, .int .i64 0, .int .i64 0, .int .i64 0], 32, 4⟩)
  simp only [go_sem, reduceCtorEq, reduceIte, Nat.reduceEqDiff, Nat.reduceAdd, Nat.reduceLeDiff, Nat.reduceMul, Int.reduceLT, Int.reduceLE, Int.reduceAdd, Int.reduceSub, Int.reduceMul, Int.reduceNeg, Int.reduceToNat, Int.reduceEq, g5]
  refine callK_same (k69 _ _ k v _ l h2) ?_
  cases ha : absB k v l
  · simp only [go_sem, reduceCtorEq, reduceIte, Nat.reduceEqDiff, Nat.reduceAdd, Nat.reduceLeDiff, Nat.reduceMul, Int.reduceLT, Int.reduceLE, Int.reduceAdd, Int.reduceSub, Int.reduceMul, Int.reduceNeg, Int.reduceToNat, Int.reduceEq, g5]
    exact endK_drop hM5 (endK_drop hM3 (endK_same ⟨by simp [Sc.val, Sc.cs], rfl, rfl⟩))
  simp only [go_sem, reduceCtorEq, reduceIte, Nat.reduceEqDiff, Nat.reduceAdd, Nat.reduceLeDiff, Nat.reduceMul, Int.reduceLT, Int.reduceLE, Int.reduceAdd, Int.reduceSub, Int.reduceMul, Int.reduceNeg, Int.reduceToNat, Int.reduceEq, g5]
  refine callK_same (k71 _ _ k v _ l h2 old2 ha) ?_
  simp only [go_sem, reduceCtorEq, reduceIte, Nat.reduceEqDiff, Nat.reduceAdd, Nat.reduceLeDiff, Nat.reduceMul, Int.reduceLT, Int.reduceLE, Int.reduceAdd, Int.reduceSub, Int.reduceMul, Int.reduceNeg, Int.reduceToNat, Int.reduceEq, g5]
  exact endK_drop hM5 (endK_drop hM3 (endK_same ⟨by simp, rfl, rfl⟩))
def emI (l : List Ba) (u : Value) (v : V) (r3 : Nat) (F0 : Fz) (M0 : Hp) (m : Nat) (σ : Env) (F : Fz) (M : Hp) : Prop :=
  F = F0 ∧ M = M0 ∧ Ax.look σ 3 = some (.pointer (some ⟨r3, 0, none⟩)) ∧ ∃ i : Nat, i + m = l.length ∧ Ax.look σ 5 = some (.int .i64 i) ∧ emptyB 7 v l = emptyB 7 v (l.drop i)
theorem k29 (k : Int) (v : V) (u : Value) (l : List Ba) (h : RdG 7 Ba.cs F M u l) (hok : absB k v l = true) : CallsA Try.prog 29 [.int .i64 k, abV v u] F M (Same F M (.bool (emptyB k v l))) := by
  refine callsA_of hm Try.func29 e29 (Nat.le_of_ble_eq_true rfl) ?_
  have hp := abs_pre hok
  have h' := h
  obtain ⟨_, ad, cap, _, rfl, _⟩ := h
  simp only [c29, go_sem, reduceCtorEq, reduceIte, Nat.reduceEqDiff, Nat.reduceAdd, Nat.reduceLeDiff, Nat.reduceMul, Int.reduceLT, Int.reduceLE, Int.reduceAdd, Int.reduceSub, Int.reduceMul, Int.reduceNeg, Int.reduceToNat, Int.reduceEq]
  intro r3 hF3 hM3
  have h2 := h'.new hF3 hM3 (e := ⟨abCs v (.slice ad l.length cap), 37, 7⟩)
  by_cases h7 : k = 7
  rotate_left
  · have lw : 0 ≤ v.w ∧ v.w ≤ 62 := by
      have := (hp.2.1 h7).1
      have hw : isW v.w = true := by simp [V.ok] at this; exact this.1
      exact isW_le hw
    simp only [go_sem, reduceCtorEq, reduceIte, Nat.reduceEqDiff, Nat.reduceAdd, Nat.reduceLeDiff, Nat.reduceMul, Int.reduceLT, Int.reduceLE, Int.reduceAdd, Int.reduceSub, Int.reduceMul, Int.reduceNeg, Int.reduceToNat, Int.reduceEq, h7]
    refine callK_same (k41 _ _ v 0 lw.1 lw.2) ?_
    simp only [go_sem, reduceCtorEq, reduceIte, Nat.reduceEqDiff, Nat.reduceAdd, Nat.reduceLeDiff, Nat.reduceMul, Int.reduceLT, Int.reduceLE, Int.reduceAdd, Int.reduceSub, Int.reduceMul, Int.reduceNeg, Int.reduceToNat, Int.reduceEq]
    exact endK_drop hM3 (endK_same ⟨by simp [emptyB, h7], rfl, rfl⟩)
  subst h7
  simp only [go_sem, reduceCtorEq, reduceIte, Nat.reduceEqDiff, Nat.reduceAdd, Nat.reduceLeDiff, Nat.reduceMul, Int.reduceLT, Int.reduceLE, Int.reduceAdd, Int.reduceSub, Int.reduceMul, Int.reduceNeg, Int.reduceToNat, Int.reduceEq]
  refine loop_of (emI l (.slice ad l.length cap) v r3 F (M.upd r3 ⟨abCs v (.slice ad l.length cap), 37, 7⟩)) l.length ?_ ?_
  · exact ⟨rfl, rfl, by simp only [go_sem, reduceCtorEq, reduceIte, Nat.reduceEqDiff], 0, by omega, by simp only [go_sem, reduceCtorEq, reduceIte, Nat.reduceEqDiff] <;> rfl, rfl⟩
  rintro m σ F' M' ⟨hF', hM', h3, i, hi, h5, he⟩
  rw [hF', hM']
  obtain ⟨_, _, _, _, eu, hrd⟩ := h2
  cases eu
  by_cases hil : (i : Int) < l.length
  rotate_left
  · have : l.drop i = [] := List.drop_eq_nil_of_le (by omega)
    rw [this] at he
    rw [he]
    simp only [go_sem, reduceCtorEq, reduceIte, Nat.reduceEqDiff, Nat.reduceAdd, Nat.reduceLeDiff, Nat.reduceMul, Int.reduceLT, Int.reduceLE, Int.reduceAdd, Int.reduceSub, Int.reduceMul, Int.reduceNeg, Int.reduceToNat, Int.reduceEq, h3, h5, hil]
    exact endK_drop hM3 (endK_same ⟨by simp [emptyB], rfl, rfl⟩)
  have hi0 : (0 : Int) ≤ i := by omega
  have hil' : i < l.length := by omega
  have ei : IntKind.i64.wrap ((i : Int) + 1) = i + 1 := w64 (by omega) (by omega)
  rcases hrd with h | ⟨b, o, cs, rfl, hb, hc⟩
  · rw [h] at hil'; simp at hil'
  obtain ⟨d1, d2⟩ := hc i hil'
  obtain ⟨e1, e2, e3, e4⟩ := ba_row d1 d2
  have hx := hp.2.2 l[i] (List.getElem_mem _)
  have he2 : emptyB 7 v (l.drop i) = (!(decide (0 ≤ l[i].v.nextR 0) && decide (l[i].v.nextR 0 ≤ 32)) && emptyB 7 v (l.drop (i + 1))) := by
    rw [List.drop_eq_getElem_cons hil']
    simp only [emptyB, if_true, List.any_cons, Bool.not_or]
  generalize l[i] = x at *
  simp only [go_sem, reduceCtorEq, reduceIte, Nat.reduceEqDiff, Nat.reduceAdd, Nat.reduceLeDiff, Nat.reduceMul, Int.reduceLT, Int.reduceLE, Int.reduceAdd, Int.reduceSub, Int.reduceMul, Int.reduceNeg, Int.reduceToNat, Int.reduceEq, h3, h5, hil, hi0, Int.toNat_natCast, hb, e3, e4]
  refine callK_same (k41 _ _ x.v 0 hx.1 hx.2.1) ?_
  rw [he2] at he
  by_cases n0 : 0 ≤ x.v.nextR 0
  · by_cases n32 : x.v.nextR 0 ≤ 32
    · rw [he]
      simp only [go_sem, reduceCtorEq, reduceIte, Nat.reduceEqDiff, Nat.reduceAdd, Nat.reduceLeDiff, Nat.reduceMul, Int.reduceLT, Int.reduceLE, Int.reduceAdd, Int.reduceSub, Int.reduceMul, Int.reduceNeg, Int.reduceToNat, Int.reduceEq, h3, h5, n0, n32]
      exact endK_drop hM3 (endK_same ⟨by simp [n0, n32], rfl, rfl⟩)
    · have : emptyB 7 v l = emptyB 7 v (l.drop (i + 1)) := by rw [he]; simp [n32]
      simp only [go_sem, reduceCtorEq, reduceIte, Nat.reduceEqDiff, Nat.reduceAdd, Nat.reduceLeDiff, Nat.reduceMul, Int.reduceLT, Int.reduceLE, Int.reduceAdd, Int.reduceSub, Int.reduceMul, Int.reduceNeg, Int.reduceToNat, Int.reduceEq, h3, h5, n0, n32, ei]
      exact ⟨m - 1, by omega, rfl, rfl, by simp only [go_sem, reduceCtorEq, reduceIte, Nat.reduceEqDiff, h3], i + 1, by omega, by simp only [go_sem, reduceCtorEq, reduceIte, Nat.reduceEqDiff]; rfl, this⟩
  · have : emptyB 7 v l = emptyB 7 v (l.drop (i + 1)) := by rw [he]; simp [n0]
    simp only [go_sem, reduceCtorEq, reduceIte, Nat.reduceEqDiff, Nat.reduceAdd, Nat.reduceLeDiff, Nat.reduceMul, Int.reduceLT, Int.reduceLE, Int.reduceAdd, Int.reduceSub, Int.reduceMul, Int.reduceNeg, Int.reduceToNat, Int.reduceEq, h3, h5, n0, ei]
    exact ⟨m - 1, by omega, rfl, rfl, by simp only [go_sem, reduceCtorEq, reduceIte, Nat.reduceEqDiff, h3], i + 1, by omega, by simp only [go_sem, reduceCtorEq, reduceIte, Nat.reduceEqDiff]; rfl, this⟩
def eqI (l1 l2 : List Ba) (u1 u2 : Value) (F0 : Fz) (M0 : Hp) (m : Nat) (σ : Env) (F : Fz) (M : Hp) : Prop :=
  F = F0 ∧ M = M0 ∧ Ax.look σ 0 = some u1 ∧ Ax.look σ 1 = some u2 ∧ ∃ i : Nat, i + m = l1.length ∧ Ax.look σ 5 = some (.int .i64 i) ∧ l1.take i = l2.take i
theorem k73 (u1 u2 : Value) (l1 l2 : List Ba) (h1 : RdG 7 Ba.cs F M u1 l1) (h2 : RdG 7 Ba.cs F M u2 l2) : CallsA Try.prog 73 [u1, u2] F M (Same F M (.bool (decide (l1 = l2)))) := by
  refine callsA_of hm Try.func73 e73 (Nat.le_of_ble_eq_true rfl) ?_
  obtain ⟨hl1, a1, c1, _, rfl, r1⟩ := h1
  obtain ⟨hl2, a2, c2, _, rfl, r2⟩ := h2
  by_cases hlen : l1.length = l2.length
  rotate_left
  · have : ¬ ((l1.length : Int) = l2.length) := by omega
    simp only [c73, go_sem, reduceCtorEq, reduceIte, Nat.reduceEqDiff, Nat.reduceAdd, Nat.reduceLeDiff, Nat.reduceMul, Int.reduceLT, Int.reduceLE, Int.reduceAdd, Int.reduceSub, Int.reduceMul, Int.reduceNeg, Int.reduceToNat, Int.reduceEq, this]
    exact endK_same ⟨by rw [decide_eq_false (by rintro rfl; exact hlen rfl)], rfl, rfl⟩
  have hli : (l1.length : Int) = l2.length := by omega
  simp only [c73, go_sem, reduceCtorEq, reduceIte, Nat.reduceEqDiff, Nat.reduceAdd, Nat.reduceLeDiff, Nat.reduceMul, Int.reduceLT, Int.reduceLE, Int.reduceAdd, Int.reduceSub, Int.reduceMul, Int.reduceNeg, Int.reduceToNat, Int.reduceEq, hli]
  refine loop_of (eqI l1 l2 (.slice a1 l1.length c1) (.slice a2 l2.length c2) F M) l1.length ?_ ?_
  · exact ⟨rfl, rfl, by simp only [go_sem, reduceCtorEq, reduceIte, Nat.reduceEqDiff], by simp only [go_sem, reduceCtorEq, reduceIte, Nat.reduceEqDiff], 0, by omega, by simp only [go_sem, reduceCtorEq, reduceIte, Nat.reduceEqDiff] <;> rfl, by simp⟩
  rintro m σ F' M' ⟨rfl, rfl, q0, q1, i, hi, q5, he⟩
  by_cases hil : (i : Int) < l1.length
  rotate_left
  · simp only [go_sem, reduceCtorEq, reduceIte, Nat.reduceEqDiff, Nat.reduceAdd, Nat.reduceLeDiff, Nat.reduceMul, Int.reduceLT, Int.reduceLE, Int.reduceAdd, Int.reduceSub, Int.reduceMul, Int.reduceNeg, Int.reduceToNat, Int.reduceEq, q0, q1, q5, hil]
    have : l1 = l2 := by
      rw [List.take_of_length_le (by omega), List.take_of_length_le (by omega)] at he
      exact he
    exact endK_same ⟨by simp [this], rfl, rfl⟩
  have hi0 : (0 : Int) ≤ i := by omega
  have hi1 : i < l1.length := by omega
  have hi2 : i < l2.length := by omega
  have hil2 : (i : Int) < l2.length := by omega
  have ei : IntKind.i64.wrap ((i : Int) + 1) = i + 1 := w64 (by omega) (by omega)
  rcases r1 with h | ⟨b, o, cs, rfl, hb, hc⟩
  · rw [h] at hi1; simp at hi1
  rcases r2 with h | ⟨b', o', cs', rfl, hb', hc'⟩
  · rw [h] at hi2; simp at hi2
  obtain ⟨d1, d2⟩ := hc i hi1
  obtain ⟨d3, d4⟩ := hc' i hi2
  have t1 := List.take_succ_eq_append_getElem hi1
  have t2 := List.take_succ_eq_append_getElem hi2
  have hne : ¬ l1[i] = l2[i] → ¬ l1 = l2 := by
    rintro h rfl; exact h rfl
  generalize l1[i] = x at *
  generalize l2[i] = y at *
  by_cases hxy : x = y
  · simp only [go_sem, reduceCtorEq, reduceIte, Nat.reduceEqDiff, Nat.reduceAdd, Nat.reduceLeDiff, Nat.reduceMul, Int.reduceLT, Int.reduceLE, Int.reduceAdd, Int.reduceSub, Int.reduceMul, Int.reduceNeg, Int.reduceToNat, Int.reduceEq, q0, q1, q5, hil, hil2, hi0, Int.toNat_natCast, hb, hb', d1, d2, d3, d4, hxy, ei]
    exact ⟨m - 1, by omega, rfl, rfl, by simp only [go_sem, reduceCtorEq, reduceIte, Nat.reduceEqDiff, q0], by simp only [go_sem, reduceCtorEq, reduceIte, Nat.reduceEqDiff, q1], i + 1, by omega, by simp only [go_sem, reduceCtorEq, reduceIte, Nat.reduceEqDiff]; rfl, by rw [t1, t2, he, hxy]⟩
  · simp only [go_sem, reduceCtorEq, reduceIte, Nat.reduceEqDiff, Nat.reduceAdd, Nat.reduceLeDiff, Nat.reduceMul, Int.reduceLT, Int.reduceLE, Int.reduceAdd, Int.reduceSub, Int.reduceMul, Int.reduceNeg, Int.reduceToNat, Int.reduceEq, q0, q1, q5, hil, hil2, hi0, Int.toNat_natCast, hb, hb', d1, d2, d3, d4, hxy, ei]
    exact endK_same ⟨by rw [decide_eq_false (hne hxy)], rfl, rfl⟩
theorem k32 (v1 v2 : V) (u1 u2 : Value) (l1 l2 : List Ba) (h1 : RdG 7 Ba.cs F M u1 l1) (h2 : RdG 7 Ba.cs F M u2 l2) : CallsA Try.prog 32 [abV v1 u1, abV v2 u2] F M (Same F M (.bool (decide (v1 = v2) && decide (l1 = l2)))) := by
  refine callsA_of hm Try.func32 e32 (Nat.le_of_ble_eq_true rfl) ?_
  have h1' := h1
  have h2' := h2
  obtain ⟨_, a1, c1, _, rfl, _⟩ := h1
  obtain ⟨_, a2, c2, _, rfl, _⟩ := h2
  simp only [c32, go_sem, reduceCtorEq, reduceIte, Nat.reduceEqDiff, Nat.reduceAdd, Nat.reduceLeDiff, Nat.reduceMul, Int.reduceLT, Int.reduceLE, Int.reduceAdd, Int.reduceSub, Int.reduceMul, Int.reduceNeg, Int.reduceToNat, Int.reduceEq]
  intro r2 hF2 hM2
  simp only [go_sem, reduceCtorEq, reduceIte, Nat.reduceEqDiff, Nat.reduceAdd, Nat.reduceLeDiff, Nat.reduceMul, Int.reduceLT, Int.reduceLE, Int.reduceAdd, Int.reduceSub, Int.reduceMul, Int.reduceNeg, Int.reduceToNat, Int.reduceEq]
  intro r3 hF3 hM3
  have g3 := fresh_of hM3
  have q1 := (h1'.new hF2 hM2 (e := ⟨abCs v1 (.slice a1 l1.length c1), 37, 7⟩)).new hF3 hM3 (e := ⟨abCs v2 (.slice a2 l2.length c2), 37, 7⟩)
  have q2 := (h2'.new hF2 hM2 (e := ⟨abCs v1 (.slice a1 l1.length c1), 37, 7⟩)).new hF3 hM3 (e := ⟨abCs v2 (.slice a2 l2.length c2), 37, 7⟩)
  by_cases hv : v1 = v2
  · simp only [go_sem, reduceCtorEq, reduceIte, Nat.reduceEqDiff, Nat.reduceAdd, Nat.reduceLeDiff, Nat.reduceMul, Int.reduceLT, Int.reduceLE, Int.reduceAdd, Int.reduceSub, Int.reduceMul, Int.reduceNeg, Int.reduceToNat, Int.reduceEq, g3, hv]
    subst hv
    refine callK_same (k73 _ _ _ _ l1 l2 q1 q2) ?_
    simp only [go_sem, reduceCtorEq, reduceIte, Nat.reduceEqDiff, Nat.reduceAdd, Nat.reduceLeDiff, Nat.reduceMul, Int.reduceLT, Int.reduceLE, Int.reduceAdd, Int.reduceSub, Int.reduceMul, Int.reduceNeg, Int.reduceToNat, Int.reduceEq, g3]
    exact endK_drop hM3 (endK_drop hM2 (endK_same ⟨by simp, rfl, rfl⟩))
  · simp only [go_sem, reduceCtorEq, reduceIte, Nat.reduceEqDiff, Nat.reduceAdd, Nat.reduceLeDiff, Nat.reduceMul, Int.reduceLT, Int.reduceLE, Int.reduceAdd, Int.reduceSub, Int.reduceMul, Int.reduceNeg, Int.reduceToNat, Int.reduceEq, g3, hv]
    exact endK_drop hM3 (endK_drop hM2 (endK_same ⟨by simp, rfl, rfl⟩))
structure CbI (l : List Ba) (u : Value) (F0 : Fz) (M0 : Hp) (m : Nat) (σ : Env) (F : Fz) (M : Hp) : Prop where
  ff : F = F0
  kp : Keep M0 M
  old : Old F0 M
  h0 : Ax.look σ 0 = some u
  st : ∃ (i : Nat) (w : Value), i + m = l.length ∧ Ax.look σ 4 = some (.int .i64 i) ∧ Ax.look σ 3 = some w ∧ MineG 7 Ba.cs 87 F0 M0 M w (l.take i)
theorem k68 (u : Value) (l : List Ba) (h : RdG 7 Ba.cs F M u l) (hold : Old F M) (hl : l.length ≤ 100000) : CallsA Try.prog 68 [u] F M (rowR 7 Ba.cs 87 l F M) := by
  refine callsA_of hm Try.func68 e68 (Nat.le_of_ble_eq_true rfl) ?_
  have h' := h
  obtain ⟨_, ad, cap, _, rfl, _⟩ := h
  simp only [c68, go_sem, reduceCtorEq, reduceIte, Nat.reduceEqDiff, Nat.reduceAdd, Nat.reduceLeDiff, Nat.reduceMul, Int.reduceLT, Int.reduceLE, Int.reduceAdd, Int.reduceSub, Int.reduceMul, Int.reduceNeg, Int.reduceToNat, Int.reduceEq]
  refine loop_of (CbI l (.slice ad l.length cap) F M) l.length ?_ ?_
  · exact ⟨rfl, Keep.refl _, hold, by simp only [go_sem, reduceCtorEq, reduceIte, Nat.reduceEqDiff], 0, _, by omega, by simp only [go_sem, reduceCtorEq, reduceIte, Nat.reduceEqDiff] <;> rfl, by simp only [go_sem, reduceCtorEq, reduceIte, Nat.reduceEqDiff]; rfl, by rw [List.take_zero]; exact MineG.nil⟩
  rintro m σ F' M' s
  obtain ⟨i, w, hi, h4, h3, mine⟩ := s.st
  obtain rfl := s.ff
  have h0 := s.h0
  by_cases hil : (i : Int) < l.length
  rotate_left
  · have : l.take i = l := List.take_of_length_le (by omega)
    rw [this] at mine
    simp only [go_sem, reduceCtorEq, reduceIte, Nat.reduceEqDiff, Nat.reduceAdd, Nat.reduceLeDiff, Nat.reduceMul, Int.reduceLT, Int.reduceLE, Int.reduceAdd, Int.reduceSub, Int.reduceMul, Int.reduceNeg, Int.reduceToNat, Int.reduceEq, h0, h3, h4, hil]
    exact mine.done s.kp
  have hi0 : (0 : Int) ≤ i := by omega
  have hil' : i < l.length := by omega
  have ei : IntKind.i64.wrap ((i : Int) + 1) = i + 1 := w64 (by omega) (by omega)
  obtain ⟨_, _, _, _, eu, hrd⟩ := h'.keep s.kp s.old
  cases eu
  rcases hrd with h | ⟨b, o, cs, rfl, hb, hc⟩
  · rw [h] at hil'; simp at hil'
  obtain ⟨d1, d2⟩ := hc i hil'
  have t1 := List.take_succ_eq_append_getElem hil'
  generalize l[i] = x at *
  simp only [go_sem, reduceCtorEq, reduceIte, Nat.reduceEqDiff, Nat.reduceAdd, Nat.reduceLeDiff, Nat.reduceMul, Int.reduceLT, Int.reduceLE, Int.reduceAdd, Int.reduceSub, Int.reduceMul, Int.reduceNeg, Int.reduceToNat, Int.reduceEq, h0, h3, h4, hil, hi0, Int.toNat_natCast, hb, d1, d2]
  intro rb hFb hMb
  simp only [go_sem, reduceCtorEq, reduceIte, Nat.reduceEqDiff, Nat.reduceAdd, Nat.reduceLeDiff, Nat.reduceMul, Int.reduceLT, Int.reduceLE, Int.reduceAdd, Int.reduceSub, Int.reduceMul, Int.reduceNeg, Int.reduceToNat, Int.reduceEq, h0, h3, h4]
  refine apMG_of (xs := l.take i) (ys := [x]) (fun x => rfl) Ba.plain (by decide) (mine.fresh hMb) (s.kp.new (s.kp.free hMb)) ⟨rfl, .inr ⟨⟨rb, 0, none⟩, 1, rfl, .inr ⟨rb, 0, _, rfl, blk_upd_same, by simp [Ba.take7]⟩⟩⟩ (by simp) (by simp; omega) ?_
  rintro v' M2 _ _ kp2 ho2 mine2
  rw [← t1] at mine2
  simp only [go_sem, reduceCtorEq, reduceIte, Nat.reduceEqDiff, Nat.reduceAdd, Nat.reduceLeDiff, Nat.reduceMul, Int.reduceLT, Int.reduceLE, Int.reduceAdd, Int.reduceSub, Int.reduceMul, Int.reduceNeg, Int.reduceToNat, Int.reduceEq, h0, h3, h4, ei]
  exact ⟨m - 1, by omega, rfl, kp2, ho2 (s.old.upd hFb), by simp only [go_sem, reduceCtorEq, reduceIte, Nat.reduceEqDiff, h0], i + 1, v', by omega, by simp only [go_sem, reduceCtorEq, reduceIte, Nat.reduceEqDiff]; rfl, by simp only [go_sem, reduceCtorEq, reduceIte, Nat.reduceEqDiff], mine2⟩
/-- A set's row, new. -/
def cpR (v : V) (l : List Ba) (F : Fz) (M : Hp) (u : Value) (F' : Fz) (M' : Hp) : Prop := ∃ w, u = abV v w ∧ rowR 7 Ba.cs 87 l F M w F' M'
theorem k26 (v : V) (u : Value) (l : List Ba) (h : RdG 7 Ba.cs F M u l) (hold : Old F M) (hl : l.length ≤ 100000) : CallsA Try.prog 26 [abV v u] F M (cpR v l F M) := by
  refine callsA_of hm Try.func26 e26 (Nat.le_of_ble_eq_true rfl) ?_
  have h' := h
  obtain ⟨_, ad, cap, _, rfl, _⟩ := h
  simp only [c26, go_sem, reduceCtorEq, reduceIte, Nat.reduceEqDiff, Nat.reduceAdd, Nat.reduceLeDiff, Nat.reduceMul, Int.reduceLT, Int.reduceLE, Int.reduceAdd, Int.reduceSub, Int.reduceMul, Int.reduceNeg, Int.reduceToNat, Int.reduceEq]
  intro r1 hF1 hM1
  simp only [go_sem, reduceCtorEq, reduceIte, Nat.reduceEqDiff, Nat.reduceAdd, Nat.reduceLeDiff, Nat.reduceMul, Int.reduceLT, Int.reduceLE, Int.reduceAdd, Int.reduceSub, Int.reduceMul, Int.reduceNeg, Int.reduceToNat, Int.reduceEq]
  intro r2 hF2 hM2
  have g2 := fresh_of hM2
  simp only [go_sem, reduceCtorEq, reduceIte, Nat.reduceEqDiff, Nat.reduceAdd, Nat.reduceLeDiff, Nat.reduceMul, Int.reduceLT, Int.reduceLE, Int.reduceAdd, Int.reduceSub, Int.reduceMul, Int.reduceNeg, Int.reduceToNat, Int.reduceEq, g2]
  intro r3 hF3 hM3
  have g3 := fresh_of hM3
  have g32 := fresh_of g3.2.2
  simp only [go_sem, reduceCtorEq, reduceIte, Nat.reduceEqDiff, Nat.reduceAdd, Nat.reduceLeDiff, Nat.reduceMul, Int.reduceLT, Int.reduceLE, Int.reduceAdd, Int.reduceSub, Int.reduceMul, Int.reduceNeg, Int.reduceToNat, Int.reduceEq, g2, g3, g32]
  have kp0 : Keep M (((M.upd r1 ⟨abCs v (.slice ad l.length cap), 37, 7⟩).upd r2 ⟨[.int .i64 0, .bool false, .int .i64 0, .int .i64 0, .int .i64 0, .int .i64 0, .slice none 0 0], 37, 7⟩).upd r3 ⟨abCs v (.slice ad l.length cap), 37, 7⟩) := (((Keep.refl M).new hM1).new g2.2.2).new g32.2.2
  have old3 : Old F (((M.upd r1 ⟨abCs v (.slice ad l.length cap), 37, 7⟩).upd r2 ⟨[.int .i64 0, .bool false, .int .i64 0, .int .i64 0, .int .i64 0, .int .i64 0, .slice none 0 0], 37, 7⟩).upd r3 ⟨abCs v (.slice ad l.length cap), 37, 7⟩) := ((hold.upd hF1).upd hF2).upd hF3
  have ne23 : ¬ r2 = r3 := g3.2.1
  have f3 : (((M.upd r1 ⟨abCs v (.slice ad l.length cap), 37, 7⟩).upd r2 ⟨[.int .i64 0, .bool false, .int .i64 0, .int .i64 0, .int .i64 0, .int .i64 0, .slice none 0 0], 37, 7⟩).upd r3 ⟨abCs v (.slice ad l.length cap), 37, 7⟩) r3 = some ⟨abCs v (.slice ad l.length cap), 37, 7⟩ := Hp.upd_same _ _ _
  have f2 : (((M.upd r1 ⟨abCs v (.slice ad l.length cap), 37, 7⟩).upd r2 ⟨[.int .i64 0, .bool false, .int .i64 0, .int .i64 0, .int .i64 0, .int .i64 0, .slice none 0 0], 37, 7⟩).upd r3 ⟨abCs v (.slice ad l.length cap), 37, 7⟩) r2 = some ⟨[.int .i64 0, .bool false, .int .i64 0, .int .i64 0, .int .i64 0, .int .i64 0, .slice none 0 0], 37, 7⟩ := by
    rw [Hp.upd_ne' ne23]; exact Hp.upd_same _ _ _
  refine callK_of (k68 _ _ _ l (h'.keep kp0 old3) old3 hl) ?_
  have n2 : M r2 = none := g2.2.2
  have n3 : M r3 = none := g32.2.2
  generalize ((M.upd r1 ⟨abCs v (.slice ad l.length cap), 37, 7⟩).upd r2 ⟨[.int .i64 0, .bool false, .int .i64 0, .int .i64 0, .int .i64 0, .int .i64 0, .slice none 0 0], 37, 7⟩).upd r3 ⟨abCs v (.slice ad l.length cap), 37, 7⟩ = M3 at *
  rintro w G M4 hr
  obtain ⟨hG, le, kq, oq, a, c, rfl, rdq⟩ := hr.le (f := Ba.cs) (fun x => rfl) (by omega)
  subst hG
  refine ⟨(fun h => by cases h), ?_⟩
  have f3' := kq _ _ f3
  have f2' := kq _ _ f2
  obtain ⟨M5, k5, ha, nn⟩ : ∃ M5, Keep M5 M4 ∧ rowR 7 Ba.cs 87 l G M (.slice a l.length c) G M5 ∧ (∀ r x, M r = none → M3 r = some x → M5 r = none) := by
    obtain ⟨_, ⟨h1, h2, rfl⟩ | ⟨g, cp, h1, h2, h3, h4, rfl⟩⟩ := hr
    · exact ⟨M, kp0, ⟨rfl, .inl ⟨h1, h2, rfl⟩⟩, fun r x h _ => h⟩
    · exact ⟨_, kp0.both, ⟨rfl, .inr ⟨g, cp, h1, kp0.free h2, h3, h4, rfl⟩⟩, fun r x hr hx => by
        rw [Hp.upd_ne' (ne_of_none h2 hx).1]; exact hr⟩
  have n25 := nn _ _ n2 f2
  have n35 := nn _ _ n3 f3
  simp only [go_sem, reduceCtorEq, reduceIte, Nat.reduceEqDiff, Nat.reduceAdd, Nat.reduceLeDiff, Nat.reduceMul, Int.reduceLT, Int.reduceLE, Int.reduceAdd, Int.reduceSub, Int.reduceMul, Int.reduceNeg, Int.reduceToNat, Int.reduceEq, f2', f3', ne23]
  simp only [setH, ab_set6, go_sem, reduceCtorEq, reduceIte, Nat.reduceEqDiff, Nat.reduceAdd, Nat.reduceLeDiff, Nat.reduceMul, Int.reduceLT, Int.reduceLE, Int.reduceAdd, Int.reduceSub, Int.reduceMul, Int.reduceNeg, Int.reduceToNat, Int.reduceEq, f2', f3', ne23]
  refine endK_keep (M := M5) ((k5.new n35).new ?_) ⟨_, rfl, ha⟩
  exact n25
end Go.Proofs.Try.K

/- Contract: the sets of scalars that are played. -/
namespace Go.Proofs.Try.K
open Go Go.Ax Go.Proofs.Try.S
set_option maxRecDepth 100000
set_option linter.unusedSimpArgs false
set_option linter.unusedVariables false
set_option maxHeartbeats 1000000
variable (F : Fz) (M : Hp)

def abZ : Ab := ⟨V.zero, none, 0, 0⟩
theorem Ab.plain (x : Ab) : plainCells x.cs := of_eq_true ab_plain
theorem Ab.len (x : Ab) : x.cs.length = 7 := rfl
theorem flatG_prefix {α : Type} {f : α → List Value} (l : List α) (n : Nat) : (l.take n).flatMap f <+: l.flatMap f := by
  have := congrArg (fun t => t.flatMap f) (List.take_append_drop n l)
  simp only [List.flatMap_append] at this
  exact ⟨_, this⟩
structure SeI (X : List Ab) (ask : List Value) (F0 : Fz) (M0 : Hp) (r1 : Nat) (nV : Nat) (m : Nat) (σ : Env) (F : Fz) (M : Hp) : Prop where
  ff : F = F0
  kp : Keep M0 M
  old : Old F0 M
  f1 : M r1 = some ⟨ask, 29, 4⟩
  h1 : Ax.look σ 1 = some (.pointer (some ⟨r1, 0, none⟩))
  st : ∃ (i : Nat) (w : Value) (L : List Ab), i + m = nV ∧ Ax.look σ 4 = some (.int .i64 i) ∧ Ax.look σ 3 = some w ∧ MineG 7 Ab.cs 37 F0 M0 M w L ∧ L.length ≤ 6 + i ∧ i ≤ 4 ∧ L ≠ [] ∧ ∀ x ∈ L, x ∈ X ∨ ∃ v, x = ⟨v, none, 0, 0⟩
def seA (r1 g n cap : Nat) (F0 : Fz) (M0 : Hp) (σ : Env) (F : Fz) (M : Hp) : Prop :=
  F = F0 ∧ M = M0 ∧ Ax.look σ 1 = some (.pointer (some ⟨r1, 0, none⟩)) ∧ Ax.look σ 3 = some (.slice (some ⟨g, 0, none⟩) n cap)
def seP (X : List Ab) (ask : List Value) (F0 : Fz) (M0 : Hp) (r1 : Nat) (nV : Nat) (σ : Env) (F : Fz) (M : Hp) : Prop :=
  F = F0 ∧ ∃ M1, Wk F0 M F0 M1 ∧ ∀ σ', Ax.look σ' 1 = Ax.look σ 1 → Ax.look σ' 3 = Ax.look σ 3 → SeI X ask F0 M0 r1 nV nV ((4, .int .i64 0) :: σ') F0 M1
def setsR15 (X : List Ab) (F : Fz) (M : Hp) (u : Value) (F' : Fz) (M' : Hp) : Prop :=
  ∃ L : List Ab, L.length ≤ 10 ∧ (∀ x ∈ L, x ∈ X ∨ ∃ v, x = ⟨v, none, 0, 0⟩) ∧ rowR 7 Ab.cs 37 L F M u F' M'
theorem k25 (X : List Ab) (lv : List V) (aX : Option Addr) (cX : Nat) (uS uV uN : Value) (hold : Old F M) (hX : RdG 7 Ab.cs F M (.slice aX X.length cX) X) (hX0 : aX = none → cX = 0) (hXl : X.length ≤ 400) (hV : RdV F M uV lv) :
    CallsA Try.prog 25 [.agg #[.slice aX X.length cX, uS, uV, uN]] F M (setsR15 X F M) := by
  refine callsA_of hm Try.func25 e25 (Nat.le_of_ble_eq_true rfl) ?_
  have hV' := hV
  obtain ⟨hlv, aV, cV, hcV, rfl, _⟩ := hV
  simp only [c25, go_sem, reduceCtorEq, reduceIte, Nat.reduceEqDiff, Nat.reduceAdd, Nat.reduceLeDiff, Nat.reduceMul, Int.reduceLT, Int.reduceLE, Int.reduceAdd, Int.reduceSub, Int.reduceMul, Int.reduceNeg, Int.reduceToNat, Int.reduceEq]
  intro r1 hF1 hM1
  simp only [go_sem, reduceCtorEq, reduceIte, Nat.reduceEqDiff, Nat.reduceAdd, Nat.reduceLeDiff, Nat.reduceMul, Int.reduceLT, Int.reduceLE, Int.reduceAdd, Int.reduceSub, Int.reduceMul, Int.reduceNeg, Int.reduceToNat, Int.reduceEq]
  intro rb hFb hMb
  have gb := fresh_of hMb
  have kp1 : Keep M ((M.upd r1 ⟨[.slice aX X.length cX, uS, .slice aV lv.length cV, uN], 29, 4⟩).upd rb ⟨abCs V.zero (.slice none 0 0), 37, 7⟩) := ((Keep.refl M).new hM1).new gb.2.2
  have old1 : Old F ((M.upd r1 ⟨[.slice aX X.length cX, uS, .slice aV lv.length cV, uN], 29, 4⟩).upd rb ⟨abCs V.zero (.slice none 0 0), 37, 7⟩) := (hold.upd hF1).upd hFb
  have f1 : ((M.upd r1 ⟨[.slice aX X.length cX, uS, .slice aV lv.length cV, uN], 29, 4⟩).upd rb ⟨abCs V.zero (.slice none 0 0), 37, 7⟩) r1 = some ⟨[.slice aX X.length cX, uS, .slice aV lv.length cV, uN], 29, 4⟩ := by
    rw [Hp.upd_ne' gb.2.1]; exact Hp.upd_same _ _ _
  have mine1 : MineG 7 Ab.cs 37 F M ((M.upd r1 ⟨[.slice aX X.length cX, uS, .slice aV lv.length cV, uN], 29, 4⟩).upd rb ⟨abCs V.zero (.slice none 0 0), 37, 7⟩) (.slice (some ⟨rb, 0, none⟩) [abZ].length 1) [abZ] :=
    ⟨.inr ⟨rb, 1, rfl, hFb, Hp.upd_same _ _ _, by simp, by decide⟩, fun g n c h => by cases h; exact gb.2.2⟩
  simp only [go_sem, reduceCtorEq, reduceIte, Nat.reduceEqDiff, Nat.reduceAdd, Nat.reduceLeDiff, Nat.reduceMul, Int.reduceLT, Int.reduceLE, Int.reduceAdd, Int.reduceSub, Int.reduceMul, Int.reduceNeg, Int.reduceToNat, Int.reduceEq, gb]
  generalize (M.upd r1 ⟨[.slice aX X.length cX, uS, .slice aV lv.length cV, uN], 29, 4⟩).upd rb ⟨abCs V.zero (.slice none 0 0), 37, 7⟩ = M1 at *
  refine apG_any (xs := [abZ]) (ys := X) Ab.len Ab.plain (by decide) mine1.own (RdG.src Ab.len (hX.keep kp1 old1) hX0) (by decide) (by simp; omega) ?_
  rintro g cap M2 hgo gF hM2 own2
  have g0 : M g = none := by
    rcases hgo with h1 | ⟨c, h⟩
    · exact kp1.free h1
    · cases h; exact gb.2.2
  have kp2 : Keep M M2 := by rw [hM2]; exact kp1.new g0
  have old2 : Old F M2 := by rw [hM2]; exact old1.upd gF
  have f12 : M2 r1 = some ⟨[.slice aX X.length cX, uS, .slice aV lv.length cV, uN], 29, 4⟩ := by
    have : ¬ r1 = g := by
      rcases hgo with h1 | ⟨c, h⟩
      · exact (ne_of_none h1 f1).1
      · cases h; exact gb.2.1
    rw [hM2, Hp.upd_ne' this]; exact f1
  have fg : M2 g = some ⟨([abZ] ++ X).flatMap Ab.cs, 37, cap * 7⟩ := by rw [hM2]; exact Hp.upd_same _ _ _
  have hcc : ([abZ] ++ X).length ≤ cap ∧ cap ≤ maxLen := by
    rcases own2 with ⟨h, _⟩ | ⟨g', cap', h, _, _, h4, h5⟩
    · cases h
    · cases h; exact ⟨h4, h5⟩
  clear own2 hM2 hgo mine1 f1 old1 kp1
  have hmem : ∀ x ∈ [abZ] ++ X, x ∈ X ∨ ∃ v, x = ⟨v, none, 0, 0⟩ := by
    intro x hx
    rcases List.mem_append.1 hx with h | h
    · simp at h; exact .inr ⟨V.zero, h⟩
    · exact .inl h
  have hne : 0 < ([abZ] ++ X).length := by simp
  generalize [abZ] ++ X = L at *
  clear gb hMb
  refine ops_cut (seA r1 g L.length cap F M2) ?_ ?_
  · simp only [go_sem, reduceCtorEq, reduceIte, Nat.reduceEqDiff, Nat.reduceAdd, Nat.reduceLeDiff, Nat.reduceMul, Int.reduceLT, Int.reduceLE, Int.reduceAdd, Int.reduceSub, Int.reduceMul, Int.reduceNeg, Int.reduceToNat, Int.reduceEq]
    exact ⟨rfl, rfl, by simp only [go_sem, reduceCtorEq, reduceIte, Nat.reduceEqDiff], by simp only [go_sem, reduceCtorEq, reduceIte, Nat.reduceEqDiff]⟩
  rintro σ F' M' ⟨hF', hM', q1, q3⟩
  rw [hF', hM']
  refine cut (seP X [.slice aX X.length cX, uS, .slice aV lv.length cV, uN] F M r1 lv.length) ?_ ?_
  · have hstart : ∀ (σ' : Env) (L' : List Ab) (M' : Hp), Keep M M' → Old F M' → M' r1 = some ⟨[.slice aX X.length cX, uS, .slice aV lv.length cV, uN], 29, 4⟩ → M' g = some ⟨L'.flatMap Ab.cs, 37, cap * 7⟩ → L'.length ≤ cap → L'.length ≤ 6 → 0 < L'.length → (∀ x ∈ L', x ∈ L) →
        Ax.look σ' 1 = some (.pointer (some ⟨r1, 0, none⟩)) → Ax.look σ' 3 = some (.slice (some ⟨g, 0, none⟩) L'.length cap) → SeI X [.slice aX X.length cX, uS, .slice aV lv.length cV, uN] F M r1 lv.length lv.length ((4, .int .i64 0) :: σ') F M' := by
      intro σ' L' M' kp' old' f1' fg' hc1 hl6 hl0 hm1 q1 q3
      exact ⟨rfl, kp', old', f1', by simp only [go_sem, reduceCtorEq, reduceIte, Nat.reduceEqDiff, q1], 0, _, L', by omega, by simp only [go_sem, reduceCtorEq, reduceIte, Nat.reduceEqDiff] <;> rfl, by simp only [go_sem, reduceCtorEq, reduceIte, Nat.reduceEqDiff]; exact q3, ⟨.inr ⟨g, cap, rfl, gF, fg', hc1, hcc.2⟩, fun g' n c h => by cases h; exact g0⟩, by omega, by omega, by rintro rfl; simp at hl0, fun x hx => hmem x (hm1 x hx)⟩
    by_cases h6 : (6 : Int) < L.length
    · have h6' : (6 : Int) ≤ L.length := by omega
      have ht : (L.take 6).length = 6 := by rw [List.length_take]; omega
      simp only [go_sem, reduceCtorEq, reduceIte, Nat.reduceEqDiff, Nat.reduceAdd, Nat.reduceLeDiff, Nat.reduceMul, Int.reduceLT, Int.reduceLE, Int.reduceAdd, Int.reduceSub, Int.reduceMul, Int.reduceNeg, Int.reduceToNat, Int.reduceEq, q1, q3, h6, h6', hcc.1, and_self]
      refine ⟨rfl, _, Wk.short fg (flatG_prefix L 6), fun σ' e1 e3 => hstart _ (L.take 6) _ (kp2.new g0) (old2.upd gF) ?_ (Hp.upd_same _ _ _) (by omega) (by omega) (by omega) (fun x hx => List.mem_of_mem_take hx) (by rw [e1]; simp only [go_sem, reduceCtorEq, reduceIte, Nat.reduceEqDiff, Nat.reduceAdd, Nat.reduceLeDiff, Nat.reduceMul, Int.reduceLT, Int.reduceLE, Int.reduceAdd, Int.reduceSub, Int.reduceMul, Int.reduceNeg, Int.reduceToNat, Int.reduceEq, q1]) (by rw [e3]; simp only [go_sem, reduceCtorEq, reduceIte, Nat.reduceEqDiff, Nat.reduceAdd, Nat.reduceLeDiff, Nat.reduceMul, Int.reduceLT, Int.reduceLE, Int.reduceAdd, Int.reduceSub, Int.reduceMul, Int.reduceNeg, Int.reduceToNat, Int.reduceEq, ht])⟩
      have : ¬ r1 = g := by
        rintro rfl
        have h2 := congrArg Ent.elem (Option.some.inj (fg.symm.trans f12))
        simp at h2
      rw [Hp.upd_ne' this]; exact f12
    · simp only [go_sem, reduceCtorEq, reduceIte, Nat.reduceEqDiff, Nat.reduceAdd, Nat.reduceLeDiff, Nat.reduceMul, Int.reduceLT, Int.reduceLE, Int.reduceAdd, Int.reduceSub, Int.reduceMul, Int.reduceNeg, Int.reduceToNat, Int.reduceEq, q1, q3, h6]
      exact ⟨rfl, M2, Wk.refl _ _, fun σ' e1 e3 => hstart _ L _ kp2 old2 f12 fg hcc.1 (by omega) hne (fun x hx => hx) (by rw [e1]; simp only [go_sem, reduceCtorEq, reduceIte, Nat.reduceEqDiff, Nat.reduceAdd, Nat.reduceLeDiff, Nat.reduceMul, Int.reduceLT, Int.reduceLE, Int.reduceAdd, Int.reduceSub, Int.reduceMul, Int.reduceNeg, Int.reduceToNat, Int.reduceEq, q1]) (by rw [e3]; simp only [go_sem, reduceCtorEq, reduceIte, Nat.reduceEqDiff, Nat.reduceAdd, Nat.reduceLeDiff, Nat.reduceMul, Int.reduceLT, Int.reduceLE, Int.reduceAdd, Int.reduceSub, Int.reduceMul, Int.reduceNeg, Int.reduceToNat, Int.reduceEq, q3])⟩
  clear hcc hmem hne q1 q3 old2 kp2 f12 fg hF' hM' g0 gF
  rintro σ F' M' ⟨hF', M5, hwk, hst⟩
  rw [hF']
  simp only [go_sem, reduceCtorEq, reduceIte, Nat.reduceEqDiff, Nat.reduceAdd, Nat.reduceLeDiff, Nat.reduceMul, Int.reduceLT, Int.reduceLE, Int.reduceAdd, Int.reduceSub, Int.reduceMul, Int.reduceNeg, Int.reduceToNat, Int.reduceEq]
  refine loop_wk (SeI X [.slice aX X.length cX, uS, .slice aV lv.length cV, uN] F M r1 lv.length) lv.length hwk (hst σ rfl rfl) ?_
  clear hst hwk hF'
  rintro n σ F' M' s
  obtain ⟨i, w, L', hi, q4, q3, mine, hL6, hi4, hLne, hm'⟩ := s.st
  obtain rfl := s.ff
  have b1 := blk_M (F := F') s.f1
  obtain ⟨aw, cw, ew⟩ := mine.shape
  have hlast : (L'.length ≤ 10) := by omega
  by_cases hil : (i : Int) < lv.length
  rotate_left
  · simp only [go_sem, reduceCtorEq, reduceIte, Nat.reduceEqDiff, Nat.reduceAdd, Nat.reduceLeDiff, Nat.reduceMul, Int.reduceLT, Int.reduceLE, Int.reduceAdd, Int.reduceSub, Int.reduceMul, Int.reduceNeg, Int.reduceToNat, Int.reduceEq, s.h1, q4, q3, b1, hil]
    obtain ⟨M5, k1, k2, hr⟩ := mine.alone s.kp
    exact ⟨F', M5, k1.wk F', L', hlast, hm', hr⟩
  by_cases hi44 : (i : Int) < 4
  rotate_left
  · simp only [go_sem, reduceCtorEq, reduceIte, Nat.reduceEqDiff, Nat.reduceAdd, Nat.reduceLeDiff, Nat.reduceMul, Int.reduceLT, Int.reduceLE, Int.reduceAdd, Int.reduceSub, Int.reduceMul, Int.reduceNeg, Int.reduceToNat, Int.reduceEq, s.h1, q4, q3, b1, hil, hi44]
    obtain ⟨M5, k1, k2, hr⟩ := mine.alone s.kp
    exact ⟨F', M5, k1.wk F', L', hlast, hm', hr⟩
  have hi0 : (0 : Int) ≤ i := by omega
  have hil' : i < lv.length := by omega
  have ei : IntKind.i64.wrap ((i : Int) + 1) = i + 1 := w64 (by omega) (by omega)
  obtain ⟨_, ad', cap1', _, esl', hread'⟩ := hV'.keep s.kp s.old
  cases esl'
  rcases hread' with h | ⟨b, o, cs, eb, hb, hc⟩
  · rw [h] at hil'; simp at hil'
  cases eb
  obtain ⟨d1, d2⟩ := hc i hil'
  generalize lv[i] = v at *
  simp only [go_sem, reduceCtorEq, reduceIte, Nat.reduceEqDiff, Nat.reduceAdd, Nat.reduceLeDiff, Nat.reduceMul, Int.reduceLT, Int.reduceLE, Int.reduceAdd, Int.reduceSub, Int.reduceMul, Int.reduceNeg, Int.reduceToNat, Int.reduceEq, s.h1, q4, q3, b1, hil, hi44, hi0, Int.toNat_natCast, hb, d1, d2]
  intro rb hFb hMb
  have gb := ne_of_none hMb s.f1
  simp only [go_sem, reduceCtorEq, reduceIte, Nat.reduceEqDiff, Nat.reduceAdd, Nat.reduceLeDiff, Nat.reduceMul, Int.reduceLT, Int.reduceLE, Int.reduceAdd, Int.reduceSub, Int.reduceMul, Int.reduceNeg, Int.reduceToNat, Int.reduceEq, s.h1, q4, q3]
  refine apMG_of (xs := L') (ys := [⟨v, none, 0, 0⟩]) Ab.len Ab.plain (by decide) (mine.fresh hMb) (s.kp.new (s.kp.free hMb)) ⟨rfl, .inr ⟨⟨rb, 0, none⟩, 1, rfl, .inr ⟨rb, 0, _, rfl, blk_upd_same, rfl⟩⟩⟩ (by simp) (by simp; omega) ?_
  rintro v' M5 _ hfr kp5 ho5 mine5
  have f15 := hfr _ _ (by rw [Hp.upd_ne' gb.1]; exact s.f1) (by simp)
  simp only [go_sem, reduceCtorEq, reduceIte, Nat.reduceEqDiff, Nat.reduceAdd, Nat.reduceLeDiff, Nat.reduceMul, Int.reduceLT, Int.reduceLE, Int.reduceAdd, Int.reduceSub, Int.reduceMul, Int.reduceNeg, Int.reduceToNat, Int.reduceEq, s.h1, q4, q3, ei]
  refine ⟨n - 1, by omega, rfl, kp5, ho5 (s.old.upd hFb), f15, by simp only [go_sem, reduceCtorEq, reduceIte, Nat.reduceEqDiff, s.h1], i + 1, v', L' ++ [⟨v, none, 0, 0⟩], by omega, by simp only [go_sem, reduceCtorEq, reduceIte, Nat.reduceEqDiff]; rfl, by simp only [go_sem, reduceCtorEq, reduceIte, Nat.reduceEqDiff], mine5, by simp; omega, by omega, by simp, ?_⟩
  intro x hx
  rcases List.mem_append.1 hx with h | h
  · exact hm' x h
  · simp at h; exact .inr ⟨v, h⟩
end Go.Proofs.Try.K
