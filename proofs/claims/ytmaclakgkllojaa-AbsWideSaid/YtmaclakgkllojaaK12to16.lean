/- Parts K12to16: the machine's runs of small codes, contracts of functions, plain facts. -/
import Derived.Test.YtmaclakgkllojaaProg
import Derived.Test.YtmaclakgkllojaaK6to11
namespace Go.Proofs.Try.S
open Go Go.Ax Go.Ax.N
set_option maxRecDepth 100000

/-- cellar/val.Cross -/
def c117 : SF := ⟨63, [.c true 6 4], (.seq (.ops [k 2 (.bx 34 (t 0)),
 k 3 (.bx 34 (t 1)),
 k 4 (.al 34 [.int .i64 0, .bool false, .int .i64 0, .int .i64 0, .int .i64 0, .int .i64 0])])
 (.seq (.opd [o 8 (.ld true 6 (t 2)),
 o 10 (.ld true 6 (t 3)),
 k 9 (.ca (.func 143) [(t 8)]),
 k 11 (.ca (.func 143) [(t 10)]),
 kn (.st [] 6 (t 2) (t 9)),
 kn (.st [] 6 (t 3) (t 11))])
 (.seq (.seq (.ops [o 12 (.fa 1 (t 2)),
 o 13 (.ld false 1 (t 12)),
 o 14 (.mv (t 13)),
 og 15 14 false (.fa 1 (t 3)),
 og 16 14 false (.ld false 1 (t 15)),
 o 17 (.pick (t 14) (b true) (t 16)),
 o 18 (.mv (t 17)),
 og 19 18 false (.fa 5 (t 2)),
 og 20 18 false (.ld false 1 (t 19)),
 og 21 18 false (.fa 5 (t 3)),
 og 22 18 false (.ld false 1 (t 21)),
 og 23 18 false (.bin .xor (t 20) (t 22)),
 og 24 18 false (.fa 4 (t 2)),
 og 25 18 false (.ld false 1 (t 24)),
 og 26 18 false (.fa 4 (t 3)),
 og 27 18 false (.ld false 1 (t 26)),
 og 28 18 false (.bin .or (t 25) (t 27)),
 og 29 18 false (.bin .andNot (t 23) (t 28)),
 og 30 18 false (.bin .neq (t 29) (i 0)),
 o 31 (.pick (t 18) (b true) (t 30))])
 (.cond (t 31)
 (.seq (.ops [o 32 (.fa 0 (t 2)),
 o 33 (.ld false 1 (t 32)),
 k 34 (.ca (.func 115) [(t 33)]),
 kn (.st [] 6 (t 4) (t 34))])
 .ret)
 .skip))
 (.seq (.ops [o 36 (.ld true 6 (t 2)),
 o 37 (.ld true 6 (t 3)),
 k 38 (.ca (.func 144) [(t 36), (t 37)]),
 o 35 (.mv (t 38)),
 o 39 (.ex (t 35) 0),
 o 40 (.ex (t 35) 1),
 o 41 (.ex (t 35) 2),
 o 5 (.mv (t 39)),
 o 6 (.mv (t 40)),
 o 7 (.mv (t 41))])
 (.seq (.seq (.ops [o 42 (.mv (t 7)),
 o 43 (.un .not (t 42))])
 (.cond (t 43)
 (.seq (.ops [o 44 (.fa 0 (t 2)),
 o 45 (.ld false 1 (t 44)),
 k 46 (.ca (.func 115) [(t 45)]),
 kn (.st [] 6 (t 4) (t 46))])
 .ret)
 .skip))
 (.seq (.ops [o 47 (.fa 0 (t 2)),
 o 48 (.ld false 1 (t 47)),
 o 49 (.mv (t 5)),
 o 50 (.mv (t 6)),
 o 51 (.fa 4 (t 2)),
 o 52 (.ld false 1 (t 51)),
 o 53 (.fa 4 (t 3)),
 o 54 (.ld false 1 (t 53)),
 o 55 (.bin .and (t 52) (t 54)),
 o 56 (.fa 5 (t 2)),
 o 57 (.ld false 1 (t 56)),
 o 58 (.fa 5 (t 3)),
 o 59 (.ld false 1 (t 58)),
 o 60 (.bin .or (t 57) (t 59)),
 o 61 (.bd [.int .i64 0, .bool false, .int .i64 0, .int .i64 0, .int .i64 0, .int .i64 0] [(0, 1, (t 48)), (2, 1, (t 49)), (3, 1, (t 50)), (4, 1, (t 55)), (5, 1, (t 60))]),
 k 62 (.ca (.func 143) [(t 61)]),
 kn (.st [] 6 (t 4) (t 62))])
 .ret))))))⟩
theorem e117 : slimF Try.prog Try.f117 [[(0, []), (2, []), (1, []), (3, []), (4, []), (5, [])]] = some c117 := by kernel_rfl
/-- cellar/val.Both -/
def c125 : SF := ⟨55, [.c true 6 4], (.seq (.ops [k 2 (.bx 34 (t 0)),
 k 3 (.bx 34 (t 1)),
 k 4 (.al 34 [.int .i64 0, .bool false, .int .i64 0, .int .i64 0, .int .i64 0, .int .i64 0])])
 (.seq (.block 0 (.seq (.ops [o 9 (.ld true 6 (t 2)),
 k 10 (.ca (.func 109) [(t 9)]),
 o 8 (.mv (t 10))])
 (.cond (t 8)
 (.seq (.ops [o 11 (.ld true 6 (t 3)),
 k 12 (.ca (.func 143) [(t 11)]),
 kn (.st [] 6 (t 4) (t 12))])
 .ret)
 (.seq (.ops [o 14 (.ld true 6 (t 3)),
 k 15 (.ca (.func 109) [(t 14)]),
 o 13 (.mv (t 15))])
 (.cond (t 13)
 (.seq (.ops [o 16 (.ld true 6 (t 2)),
 k 17 (.ca (.func 143) [(t 16)]),
 kn (.st [] 6 (t 4) (t 17))])
 .ret)
 (.seq (.ops [o 19 (.ld true 6 (t 2)),
 o 20 (.ld true 6 (t 3)),
 o 21 (.eqs (.st [(false, 0, 1, .i), (false, 1, 1, .b), (false, 2, 1, .i), (false, 3, 1, .i), (false, 4, 1, .i), (false, 5, 1, .i)]) false (t 19) (t 20)),
 o 18 (.mv (t 21))])
 (.cond (t 18)
 (.seq (.ops [o 22 (.ld true 6 (t 2)),
 kn (.st [] 6 (t 4) (t 22))])
 .ret)
 .skip)))))))
 (.seq (.opd [o 23 (.ld true 6 (t 2)),
 o 25 (.ld true 6 (t 3)),
 k 24 (.ca (.func 143) [(t 23)]),
 k 26 (.ca (.func 143) [(t 25)]),
 kn (.st [] 6 (t 2) (t 24)),
 kn (.st [] 6 (t 3) (t 26))])
 (.seq (.ops [o 28 (.ld true 6 (t 2)),
 o 29 (.ld true 6 (t 3)),
 k 30 (.ca (.func 150) [(t 28), (t 29)]),
 o 27 (.mv (t 30)),
 o 31 (.ex (t 27) 0),
 o 32 (.ex (t 27) 1),
 o 5 (.mv (t 31)),
 o 6 (.mv (t 32))])
 (.seq (.ops [o 33 (.fa 4 (t 2)),
 o 34 (.ld false 1 (t 33)),
 o 35 (.fa 4 (t 3)),
 o 36 (.ld false 1 (t 35)),
 o 37 (.bin .or (t 34) (t 36)),
 o 38 (.fa 5 (t 2)),
 o 39 (.ld false 1 (t 38)),
 o 40 (.fa 5 (t 3)),
 o 41 (.ld false 1 (t 40)),
 o 42 (.bin .xor (t 39) (t 41)),
 o 43 (.bin .or (t 37) (t 42)),
 o 7 (.mv (t 43))])
 (.seq (.ops [o 44 (.fa 0 (t 2)),
 o 45 (.ld false 1 (t 44)),
 o 46 (.mv (t 5)),
 o 47 (.mv (t 6)),
 o 48 (.mv (t 7)),
 o 49 (.fa 5 (t 2)),
 o 50 (.ld false 1 (t 49)),
 o 51 (.mv (t 7)),
 o 52 (.bin .andNot (t 50) (t 51)),
 o 53 (.bd [.int .i64 0, .bool false, .int .i64 0, .int .i64 0, .int .i64 0, .int .i64 0] [(0, 1, (t 45)), (2, 1, (t 46)), (3, 1, (t 47)), (4, 1, (t 48)), (5, 1, (t 52))]),
 k 54 (.ca (.func 143) [(t 53)]),
 kn (.st [] 6 (t 4) (t 54))])
 .ret))))))⟩
theorem e125 : slimF Try.prog Try.f125 [[(0, []), (2, []), (1, []), (3, []), (4, []), (5, [])]] = some c125 := by kernel_rfl
/-- cellar/val.Under -/
def c130 : SF := ⟨62, [.t 4], (.seq (.ops [k 2 (.bx 34 (t 0)),
 k 3 (.bx 34 (t 1)),
 o 4 (.mv (b false))])
 (.seq (.seq (.opd [o 9 (.ld true 6 (t 2)),
 o 10 (.ld true 6 (t 3)),
 o 11 (.eqs (.st [(false, 0, 1, .i), (false, 1, 1, .b), (false, 2, 1, .i), (false, 3, 1, .i), (false, 4, 1, .i), (false, 5, 1, .i)]) false (t 9) (t 10)),
 o 12 (.mv (t 11)),
 og 13 12 false (.ld true 6 (t 3)),
 og 14 12 false (.fa 0 (t 3)),
 og 15 12 false (.ld false 1 (t 14)),
 ⟨some 16, some (12, false), .ca (.func 102) [(t 15)]⟩,
 og 17 12 false (.eqs (.st [(false, 0, 1, .i), (false, 1, 1, .b), (false, 2, 1, .i), (false, 3, 1, .i), (false, 4, 1, .i), (false, 5, 1, .i)]) false (t 13) (t 16)),
 o 18 (.pick (t 12) (b true) (t 17))])
 (.cond (t 18)
 (.seq (.ops [o 4 (.mv (b true))])
 .ret)
 .skip))
 (.seq (.seq (.ops [o 20 (.ld true 6 (t 2)),
 k 21 (.ca (.func 123) [(t 20), (i 16)]),
 o 19 (.mv (t 21)),
 o 22 (.ex (t 19) 0),
 o 23 (.ex (t 19) 1),
 o 5 (.mv (t 22)),
 o 6 (.mv (t 23))])
 (.seq (.ops [o 24 (.mv (t 6))])
 (.cond (t 24)
 (.seq (.seq (.ops [o 25 (.mv (t 5)),
 o 26 (.ln (t 25)),
 o 27 (.mv (i 0))])
 (.block 0 (.loop (.seq (.ops [o 28 (.bin .lss (t 27) (t 26))])
 (.seq (.cond (t 28)
 .skip
 (.exit 0))
 (.seq (.block 1 (.seq (.ops [o 29 (.ia 1 (t 25) (t 27)),
 o 30 (.ld false 1 (t 29)),
 o 8 (.mv (t 30))])
 (.seq (.ops [o 31 (.ld true 6 (t 3)),
 o 32 (.mv (t 8)),
 k 33 (.ca (.func 113) [(t 31), (t 32)]),
 o 34 (.un .not (t 33))])
 (.cond (t 34)
 (.seq (.ops [o 4 (.mv (b false))])
 .ret)
 .skip))))
 (.ops [o 35 (.bin .add (t 27) (i 1)),
 o 27 (.mv (t 35))])))))))
 (.seq (.ops [o 4 (.mv (b true))])
 .ret))
 .skip)))
 (.seq (.ops [o 36 (.fa 1 (t 3)),
 o 37 (.ld false 1 (t 36)),
 o 38 (.un .not (t 37)),
 o 39 (.mv (t 38)),
 og 40 39 true (.ld true 6 (t 2)),
 og 41 39 true (.ld true 6 (t 3)),
 ⟨some 42, some (39, true), .ca (.func 152) [(t 40), (t 41)]⟩,
 o 43 (.pick (t 39) (t 42) (b false)),
 o 44 (.mv (t 43)),
 og 45 44 true (.fa 4 (t 2)),
 og 46 44 true (.ld false 1 (t 45)),
 og 47 44 true (.fa 4 (t 3)),
 og 48 44 true (.ld false 1 (t 47)),
 og 49 44 true (.bin .andNot (t 46) (t 48)),
 og 50 44 true (.bin .eql (t 49) (i 0)),
 o 51 (.pick (t 44) (t 50) (b false)),
 o 52 (.mv (t 51)),
 og 53 52 true (.fa 5 (t 2)),
 og 54 52 true (.ld false 1 (t 53)),
 og 55 52 true (.fa 4 (t 3)),
 og 56 52 true (.ld false 1 (t 55)),
 og 57 52 true (.bin .andNot (t 54) (t 56)),
 og 58 52 true (.fa 5 (t 3)),
 og 59 52 true (.ld false 1 (t 58)),
 og 60 52 true (.bin .eql (t 57) (t 59)),
 o 61 (.pick (t 52) (t 60) (b false)),
 o 4 (.mv (t 61))])
 .ret))))⟩
theorem e130 : slimF Try.prog Try.f130 [[(0, []), (1, []), (2, []), (3, []), (4, []), (5, []), (6, []), (7, []), (8, []), (9, [])]] = some c130 := by kernel_rfl
/-- cellar/val.tidy -/
def c143 : SF := ⟨27, [.c true 6 2], (.seq (.ops [k 1 (.bx 34 (t 0)),
 k 2 (.al 34 [.int .i64 0, .bool false, .int .i64 0, .int .i64 0, .int .i64 0, .int .i64 0])])
 (.seq (.ops [o 6 (.ld true 6 (t 1)),
 k 7 (.ca (.func 123) [(t 6), (i 1)]),
 o 5 (.mv (t 7)),
 o 8 (.ex (t 5) 0),
 o 9 (.ex (t 5) 1),
 o 3 (.mv (t 8)),
 o 4 (.mv (t 9))])
 (.seq (.block 0 (.seq (.ops [o 11 (.mv (t 4)),
 o 12 (.un .not (t 11)),
 o 10 (.mv (t 12))])
 (.cond (t 10)
 (.seq (.ops [o 13 (.ld true 6 (t 1)),
 kn (.st [] 6 (t 2) (t 13))])
 .ret)
 (.seq (.ops [o 15 (.mv (t 3)),
 o 16 (.ln (t 15)),
 o 17 (.bin .eql (t 16) (i 0)),
 o 14 (.mv (t 17))])
 (.cond (t 14)
 (.seq (.ops [o 18 (.fa 0 (t 1)),
 o 19 (.ld false 1 (t 18)),
 k 20 (.ca (.func 115) [(t 19)]),
 kn (.st [] 6 (t 2) (t 20))])
 .ret)
 .skip)))))
 (.seq (.opq [o 21 (.fa 0 (t 1)),
 o 22 (.ld false 1 (t 21)),
 o 23 (.mv (t 3)),
 o 24 (.ia 1 (t 23) (i 0)),
 o 25 (.ld false 1 (t 24)),
 k 26 (.ca (.func 100) [(t 22), (t 25)]),
 kn (.st [] 6 (t 2) (t 26))])
 .ret))))⟩
theorem e143 : slimF Try.prog Try.f143 [[(0, []), (1, []), (2, []), (3, []), (4, []), (5, []), (6, [])]] = some c143 := by kernel_rfl
/-- cellar/val.cross -/
def c144 : SF := ⟨54, [.t 4, .t 5, .t 6], (.seq (.ops [k 2 (.bx 34 (t 0)),
 k 3 (.bx 34 (t 1)),
 o 4 (.mv (i 0)),
 o 5 (.mv (i 0)),
 o 6 (.mv (b false))])
 (.seq (.opd [o 9 (.ld true 6 (t 3)),
 o 10 (.fa 2 (t 2)),
 o 11 (.ld false 1 (t 10)),
 o 13 (.ld true 6 (t 3)),
 o 14 (.fa 3 (t 2)),
 o 15 (.ld false 1 (t 14)),
 k 12 (.ca (.func 142) [(t 9), (t 11)]),
 k 16 (.ca (.func 142) [(t 13), (t 15)]),
 o 7 (.mv (t 12)),
 o 8 (.mv (t 16))])
 (.seq (.block 0 (.seq (.ops [o 18 (.ld true 6 (t 2)),
 o 19 (.ld true 6 (t 3)),
 k 20 (.ca (.func 152) [(t 18), (t 19)]),
 o 17 (.mv (t 20))])
 (.cond (t 17)
 (.seq (.opq [o 21 (.fa 2 (t 2)),
 o 22 (.ld false 1 (t 21)),
 o 23 (.fa 3 (t 2)),
 o 24 (.ld false 1 (t 23)),
 o 4 (.mv (t 22)),
 o 5 (.mv (t 24)),
 o 6 (.mv (b true))])
 .ret)
 (.seq (.ops [o 26 (.ld true 6 (t 3)),
 o 27 (.ld true 6 (t 2)),
 k 28 (.ca (.func 152) [(t 26), (t 27)]),
 o 25 (.mv (t 28))])
 (.cond (t 25)
 (.seq (.opq [o 29 (.fa 2 (t 3)),
 o 30 (.ld false 1 (t 29)),
 o 31 (.fa 3 (t 3)),
 o 32 (.ld false 1 (t 31)),
 o 4 (.mv (t 30)),
 o 5 (.mv (t 32)),
 o 6 (.mv (b true))])
 .ret)
 (.seq (.ops [o 34 (.mv (t 7)),
 o 35 (.mv (t 34)),
 og 36 35 true (.mv (t 8)),
 o 37 (.pick (t 35) (t 36) (b false)),
 o 33 (.mv (t 37))])
 (.cond (t 33)
 (.seq (.opq [o 38 (.fa 2 (t 2)),
 o 39 (.ld false 1 (t 38)),
 o 40 (.fa 3 (t 2)),
 o 41 (.ld false 1 (t 40)),
 o 4 (.mv (t 39)),
 o 5 (.mv (t 41)),
 o 6 (.mv (b true))])
 .ret)
 (.seq (.ops [o 43 (.mv (t 7)),
 o 42 (.mv (t 43))])
 (.cond (t 42)
 (.seq (.opq [o 44 (.fa 2 (t 2)),
 o 45 (.ld false 1 (t 44)),
 o 46 (.fa 3 (t 3)),
 o 47 (.ld false 1 (t 46)),
 o 4 (.mv (t 45)),
 o 5 (.mv (t 47)),
 o 6 (.mv (b true))])
 .ret)
 (.seq (.ops [o 49 (.mv (t 8)),
 o 48 (.mv (t 49))])
 (.cond (t 48)
 (.seq (.opq [o 50 (.fa 2 (t 3)),
 o 51 (.ld false 1 (t 50)),
 o 52 (.fa 3 (t 2)),
 o 53 (.ld false 1 (t 52)),
 o 4 (.mv (t 51)),
 o 5 (.mv (t 53)),
 o 6 (.mv (b true))])
 .ret)
 .skip)))))))))))
 (.seq (.ops [o 4 (.mv (i 0)),
 o 5 (.mv (i 0)),
 o 6 (.mv (b false))])
 .ret))))⟩
theorem e144 : slimF Try.prog Try.f144 [[(0, []), (1, []), (2, []), (4, []), (5, []), (6, []), (3, []), (7, []), (8, []), (9, [])], [(0, []), (1, []), (2, []), (3, []), (4, []), (5, []), (6, [])], [(0, []), (1, []), (2, []), (3, []), (4, []), (5, []), (6, [])], [(0, []), (1, []), (2, []), (3, []), (4, []), (5, []), (6, [])], [(0, []), (1, []), (2, []), (3, []), (4, []), (5, []), (6, [])], [(0, []), (1, []), (2, []), (3, []), (4, []), (5, []), (6, [])]] = some c144 := by kernel_rfl
/-- cellar/word.Cut -/
def c145 : SF := ⟨9, [.t 4], (.seq (.ops [o 4 (.mv (i 0))])
 (.seq (.ops [o 5 (.mv (t 0)),
 o 6 (.mv (t 1)),
 k 7 (.ca (.func 137) [(t 6)]),
 o 8 (.bin .and (t 5) (t 7)),
 o 4 (.mv (t 8))])
 .ret))⟩
theorem e145 : slimF Try.prog Try.f145 [] = some c145 := by kernel_rfl
/-- cellar/val.cover -/
def c150 : SF := ⟨63, [.t 4, .t 5], (.seq (.ops [k 2 (.bx 34 (t 0)),
 k 3 (.bx 34 (t 1)),
 o 4 (.mv (i 0)),
 o 5 (.mv (i 0))])
 (.seq (.opd [o 12 (.fa 0 (t 2)),
 o 13 (.ld false 1 (t 12)),
 o 14 (.fa 0 (t 2)),
 o 15 (.ld false 1 (t 14)),
 k 16 (.ca (.func 137) [(t 15)]),
 o 17 (.bd [.int .i64 0, .bool false, .int .i64 0, .int .i64 0, .int .i64 0, .int .i64 0] [(0, 1, (t 13)), (3, 1, (t 16))]),
 k 6 (.al 34 [.int .i64 0, .bool false, .int .i64 0, .int .i64 0, .int .i64 0, .int .i64 0]),
 kn (.st [] 6 (t 6) (t 17))])
 (.seq (.seq (.ops [o 18 (.ld true 6 (t 2)),
 o 19 (.ld true 6 (t 3)),
 k 20 (.bs 34 2 [.int .i64 0, .bool false, .int .i64 0, .int .i64 0, .int .i64 0, .int .i64 0, .int .i64 0, .bool false, .int .i64 0, .int .i64 0, .int .i64 0, .int .i64 0] [(0, 6, (t 18)), (6, 6, (t 19))]),
 o 21 (.ln (t 20)),
 o 22 (.mv (i 0))])
 (.block 0 (.loop (.seq (.ops [o 23 (.bin .lss (t 22) (t 21))])
 (.seq (.cond (t 23)
 .skip
 (.exit 0))
 (.seq (.block 1 (.seq (.ops [o 24 (.ia 6 (t 20) (t 22)),
 o 25 (.ld true 6 (t 24)),
 k 8 (.al 34 [.int .i64 0, .bool false, .int .i64 0, .int .i64 0, .int .i64 0, .int .i64 0]),
 kn (.st [] 6 (t 8) (t 25))])
 (.seq (.ops [o 26 (.ld true 6 (t 2)),
 o 27 (.ld true 6 (t 3)),
 k 28 (.bs 34 2 [.int .i64 0, .bool false, .int .i64 0, .int .i64 0, .int .i64 0, .int .i64 0, .int .i64 0, .bool false, .int .i64 0, .int .i64 0, .int .i64 0, .int .i64 0] [(0, 6, (t 26)), (6, 6, (t 27))]),
 o 29 (.ln (t 28)),
 o 30 (.mv (i 0))])
 (.block 2 (.loop (.seq (.ops [o 31 (.bin .lss (t 30) (t 29))])
 (.seq (.cond (t 31)
 .skip
 (.exit 2))
 (.seq (.block 3 (.seq (.ops [o 32 (.ia 6 (t 28) (t 30)),
 o 33 (.ld true 6 (t 32)),
 k 10 (.al 34 [.int .i64 0, .bool false, .int .i64 0, .int .i64 0, .int .i64 0, .int .i64 0]),
 kn (.st [] 6 (t 10) (t 33))])
 (.seq (.ops [o 34 (.fa 0 (t 2)),
 o 35 (.ld false 1 (t 34)),
 o 36 (.fa 2 (t 8)),
 o 37 (.ld false 1 (t 36)),
 o 38 (.fa 3 (t 10)),
 o 39 (.ld false 1 (t 38)),
 o 40 (.bd [.int .i64 0, .bool false, .int .i64 0, .int .i64 0, .int .i64 0, .int .i64 0] [(0, 1, (t 35)), (2, 1, (t 37)), (3, 1, (t 39))]),
 k 11 (.al 34 [.int .i64 0, .bool false, .int .i64 0, .int .i64 0, .int .i64 0, .int .i64 0]),
 kn (.st [] 6 (t 11) (t 40))])
 (.seq (.opd [o 41 (.ld true 6 (t 2)),
 o 42 (.ld true 6 (t 11)),
 k 43 (.ca (.func 152) [(t 41), (t 42)]),
 o 44 (.mv (t 43)),
 og 45 44 true (.ld true 6 (t 3)),
 og 46 44 true (.ld true 6 (t 11)),
 ⟨some 47, some (44, true), .ca (.func 152) [(t 45), (t 46)]⟩,
 o 48 (.pick (t 44) (t 47) (b false)),
 o 49 (.mv (t 48)),
 og 50 49 true (.ld true 6 (t 11)),
 og 52 49 true (.ld true 6 (t 6)),
 ⟨some 51, some (49, true), .ca (.func 160) [(t 50)]⟩,
 ⟨some 53, some (49, true), .ca (.func 160) [(t 52)]⟩,
 og 54 49 true (.bin .lss (t 51) (t 53)),
 o 55 (.pick (t 49) (t 54) (b false))])
 (.cond (t 55)
 (.ops [o 56 (.ld true 6 (t 11)),
 kn (.st [] 6 (t 6) (t 56))])
 .skip)))))
 (.ops [o 57 (.bin .add (t 30) (i 1)),
 o 30 (.mv (t 57))])))))))))
 (.ops [o 58 (.bin .add (t 22) (i 1)),
 o 22 (.mv (t 58))])))))))
 (.seq (.opq [o 59 (.fa 2 (t 6)),
 o 60 (.ld false 1 (t 59)),
 o 61 (.fa 3 (t 6)),
 o 62 (.ld false 1 (t 61)),
 o 4 (.mv (t 60)),
 o 5 (.mv (t 62))])
 .ret))))⟩
theorem e150 : slimF Try.prog Try.f150 [[(0, []), (1, []), (2, []), (3, []), (4, []), (5, []), (6, []), (7, [])], [(0, []), (1, []), (2, []), (3, []), (4, []), (5, []), (6, []), (7, []), (8, []), (9, []), (11, []), (10, []), (12, []), (13, []), (14, [])], [(0, []), (1, []), (2, []), (3, []), (4, []), (5, [])]] = some c150 := by kernel_rfl
/-- cellar/val.inside -/
def c152 : SF := ⟨35, [.t 4], (.seq (.ops [k 2 (.bx 34 (t 0)),
 k 3 (.bx 34 (t 1)),
 o 4 (.mv (b false))])
 (.seq (.ops [o 6 (.fa 2 (t 2)),
 o 7 (.ld false 1 (t 6)),
 o 8 (.fa 2 (t 3)),
 o 9 (.ld false 1 (t 8)),
 o 10 (.bin .sub (t 7) (t 9)),
 o 11 (.fa 0 (t 2)),
 o 12 (.ld false 1 (t 11)),
 k 13 (.ca (.func 145) [(t 10), (t 12)]),
 o 5 (.mv (t 13))])
 (.seq (.opd [o 14 (.ld true 6 (t 3)),
 o 16 (.fa 0 (t 3)),
 o 17 (.ld false 1 (t 16)),
 k 15 (.ca (.func 160) [(t 14)]),
 k 18 (.ca (.func 137) [(t 17)]),
 o 19 (.bin .eql (t 15) (t 18)),
 o 20 (.mv (t 19)),
 og 21 20 false (.mv (t 5)),
 og 22 20 false (.ld true 6 (t 3)),
 ⟨some 23, some (20, false), .ca (.func 160) [(t 22)]⟩,
 og 24 20 false (.bin .leq (t 21) (t 23)),
 og 25 20 false (.mv (t 24)),
 og 26 25 true (.ld true 6 (t 2)),
 og 28 25 true (.ld true 6 (t 3)),
 og 30 25 true (.mv (t 5)),
 ⟨some 27, some (25, true), .ca (.func 160) [(t 26)]⟩,
 ⟨some 29, some (25, true), .ca (.func 160) [(t 28)]⟩,
 og 31 25 true (.bin .sub (t 29) (t 30)),
 og 32 25 true (.bin .leq (t 27) (t 31)),
 og 33 20 false (.pick (t 25) (t 32) (b false)),
 o 34 (.pick (t 20) (b true) (t 33)),
 o 4 (.mv (t 34))])
 .ret)))⟩
theorem e152 : slimF Try.prog Try.f152 [[(0, []), (2, []), (3, []), (1, []), (4, []), (5, []), (6, []), (7, []), (8, []), (9, []), (10, []), (11, []), (12, []), (14, []), (16, []), (13, []), (15, []), (17, []), (18, []), (19, []), (20, []), (21, [])]] = some c152 := by kernel_rfl
/-- cellar/val.length -/
def c160 : SF := ⟨11, [.t 2], (.seq (.ops [k 1 (.bx 34 (t 0)),
 o 2 (.mv (i 0))])
 (.seq (.ops [o 3 (.fa 3 (t 1)),
 o 4 (.ld false 1 (t 3)),
 o 5 (.fa 2 (t 1)),
 o 6 (.ld false 1 (t 5)),
 o 7 (.bin .sub (t 4) (t 6)),
 o 8 (.fa 0 (t 1)),
 o 9 (.ld false 1 (t 8)),
 k 10 (.ca (.func 145) [(t 7), (t 9)]),
 o 2 (.mv (t 10))])
 .ret))⟩
theorem e160 : slimF Try.prog Try.f160 [] = some c160 := by kernel_rfl
end Go.Proofs.Try.S
/- Contracts: lengths of ranges, one in another, tidied, told to be in. -/
namespace Go.Proofs.Try.K
open Go Go.Ax Go.Proofs.Try.S
set_option maxRecDepth 100000
set_option linter.unusedSimpArgs false
set_option linter.unusedVariables false
variable (F : Fz) (M : Hp)

theorem k145 (n w : Int) (h0 : 0 ≤ w) (h1 : w ≤ 62) : CallsA Try.prog 145 [.int .i64 n, .int .i64 w] F M (Same F M (.int .i64 (n % 2 ^ w.toNat))) := by
  refine callsA_of hm Try.func145 e145 (Nat.le_of_ble_eq_true rfl) ?_
  simp only [c145, go_sem, reduceCtorEq, reduceIte, Nat.reduceEqDiff, Nat.reduceAdd, Nat.reduceLeDiff, Nat.reduceMul, Int.reduceLT, Int.reduceLE, Int.reduceAdd, Int.reduceSub, Int.reduceMul, Int.reduceNeg, Int.reduceToNat, Int.reduceEq]
  refine callK_same (k137 F _ w h0 h1) ?_
  simp only [go_sem, reduceCtorEq, reduceIte, Nat.reduceEqDiff, Nat.reduceAdd, Nat.reduceLeDiff, Nat.reduceMul, Int.reduceLT, Int.reduceLE, Int.reduceAdd, Int.reduceSub, Int.reduceMul, Int.reduceNeg, Int.reduceToNat, Int.reduceEq, band_mostV n h1]
  exact endK_same ⟨rfl, rfl, rfl⟩
theorem k160 (v : V) (h : v.In) : CallsA Try.prog 160 [v.val] F M (Same F M (.int .i64 v.len)) := by
  refine callsA_of hm Try.func160 e160 (Nat.le_of_ble_eq_true rfl) ?_
  have hl := isW_le h.w
  have hb := h.big
  have h1 := h.low
  have h2 := h.high
  have e : IntKind.i64.wrap (v.high - v.low) = v.high - v.low := w64 (by omega) (by omega)
  simp only [c160, go_sem, reduceCtorEq, reduceIte, Nat.reduceEqDiff, Nat.reduceAdd, Nat.reduceLeDiff, Nat.reduceMul, Int.reduceLT, Int.reduceLE, Int.reduceAdd, Int.reduceSub, Int.reduceMul, Int.reduceNeg, Int.reduceToNat, Int.reduceEq]
  intro r hF hM
  simp only [go_sem, reduceCtorEq, reduceIte, Nat.reduceEqDiff, Nat.reduceAdd, Nat.reduceLeDiff, Nat.reduceMul, Int.reduceLT, Int.reduceLE, Int.reduceAdd, Int.reduceSub, Int.reduceMul, Int.reduceNeg, Int.reduceToNat, Int.reduceEq, e]
  refine callK_same (k145 F _ _ v.w hl.1 hl.2) ?_
  simp only [go_sem, reduceCtorEq, reduceIte, Nat.reduceEqDiff, Nat.reduceAdd, Nat.reduceLeDiff, Nat.reduceMul, Int.reduceLT, Int.reduceLE, Int.reduceAdd, Int.reduceSub, Int.reduceMul, Int.reduceNeg, Int.reduceToNat, Int.reduceEq]
  exact endK_drop hM (endK_same ⟨rfl, rfl, rfl⟩)
theorem k152 (a b : V) (ha : a.In) (hb : b.In) : CallsA Try.prog 152 [a.val, b.val] F M (Same F M (.bool (a.inside b))) := by
  refine callsA_of hm Try.func152 e152 (Nat.le_of_ble_eq_true rfl) ?_
  have la := isW_le ha.w
  have lb := isW_le hb.w
  have ga := ha.big
  have gb := hb.big
  have a1 := ha.low
  have b1 := hb.low
  have e1 : IntKind.i64.wrap (a.low - b.low) = a.low - b.low := w64 (by omega) (by omega)
  have f0 := Int.emod_nonneg (a.low - b.low) (show (2 : Int) ^ a.w.toNat ≠ 0 by omega)
  have f1 := Int.emod_lt_of_pos (a.low - b.low) (show 0 < (2 : Int) ^ a.w.toNat by omega)
  have l0 := Int.emod_nonneg (b.high - b.low) (show (2 : Int) ^ b.w.toNat ≠ 0 by omega)
  have l1 := Int.emod_lt_of_pos (b.high - b.low) (show 0 < (2 : Int) ^ b.w.toNat by omega)
  have e2 : IntKind.i64.wrap (b.len - a.from b) = b.len - a.from b := by unfold V.len V.from; exact w64 (by omega) (by omega)
  simp only [c152, go_sem, reduceCtorEq, reduceIte, Nat.reduceEqDiff, Nat.reduceAdd, Nat.reduceLeDiff, Nat.reduceMul, Int.reduceLT, Int.reduceLE, Int.reduceAdd, Int.reduceSub, Int.reduceMul, Int.reduceNeg, Int.reduceToNat, Int.reduceEq]
  intro r hF hM
  simp only [go_sem, reduceCtorEq, reduceIte, Nat.reduceEqDiff, Nat.reduceAdd, Nat.reduceLeDiff, Nat.reduceMul, Int.reduceLT, Int.reduceLE, Int.reduceAdd, Int.reduceSub, Int.reduceMul, Int.reduceNeg, Int.reduceToNat, Int.reduceEq]
  intro r1 hF1 hM1
  have g := fresh_of hM1
  simp only [go_sem, reduceCtorEq, reduceIte, Nat.reduceEqDiff, Nat.reduceAdd, Nat.reduceLeDiff, Nat.reduceMul, Int.reduceLT, Int.reduceLE, Int.reduceAdd, Int.reduceSub, Int.reduceMul, Int.reduceNeg, Int.reduceToNat, Int.reduceEq, g, e1]
  refine callK_same (k145 F _ _ a.w la.1 la.2) ?_
  have ef : (a.low - b.low) % 2 ^ a.w.toNat = a.from b := rfl
  simp only [go_sem, reduceCtorEq, reduceIte, Nat.reduceEqDiff, Nat.reduceAdd, Nat.reduceLeDiff, Nat.reduceMul, Int.reduceLT, Int.reduceLE, Int.reduceAdd, Int.reduceSub, Int.reduceMul, Int.reduceNeg, Int.reduceToNat, Int.reduceEq, g, ef]
  refine callK_same (k160 F _ b hb) ?_
  simp only [go_sem, reduceCtorEq, reduceIte, Nat.reduceEqDiff, Nat.reduceAdd, Nat.reduceLeDiff, Nat.reduceMul, Int.reduceLT, Int.reduceLE, Int.reduceAdd, Int.reduceSub, Int.reduceMul, Int.reduceNeg, Int.reduceToNat, Int.reduceEq, g, ef]
  refine callK_same (k137 F _ b.w lb.1 lb.2) ?_
  by_cases c1 : b.len = mostV b.w
  · simp only [go_sem, reduceCtorEq, reduceIte, Nat.reduceEqDiff, Nat.reduceAdd, Nat.reduceLeDiff, Nat.reduceMul, Int.reduceLT, Int.reduceLE, Int.reduceAdd, Int.reduceSub, Int.reduceMul, Int.reduceNeg, Int.reduceToNat, Int.reduceEq, g, ef, c1]
    exact endK_drop hM1 (endK_drop hM (endK_same ⟨by simp [V.inside, c1], rfl, rfl⟩))
  · simp only [go_sem, reduceCtorEq, reduceIte, Nat.reduceEqDiff, Nat.reduceAdd, Nat.reduceLeDiff, Nat.reduceMul, Int.reduceLT, Int.reduceLE, Int.reduceAdd, Int.reduceSub, Int.reduceMul, Int.reduceNeg, Int.reduceToNat, Int.reduceEq, g, ef, c1]
    refine callK_same (k160 F _ b hb) ?_
    by_cases c2 : a.from b ≤ b.len
    · simp only [go_sem, reduceCtorEq, reduceIte, Nat.reduceEqDiff, Nat.reduceAdd, Nat.reduceLeDiff, Nat.reduceMul, Int.reduceLT, Int.reduceLE, Int.reduceAdd, Int.reduceSub, Int.reduceMul, Int.reduceNeg, Int.reduceToNat, Int.reduceEq, g, ef, c1, c2]
      refine callK_same (k160 F _ a ha) ?_
      simp only [go_sem, reduceCtorEq, reduceIte, Nat.reduceEqDiff, Nat.reduceAdd, Nat.reduceLeDiff, Nat.reduceMul, Int.reduceLT, Int.reduceLE, Int.reduceAdd, Int.reduceSub, Int.reduceMul, Int.reduceNeg, Int.reduceToNat, Int.reduceEq, g, ef, c1, c2]
      refine callK_same (k160 F _ b hb) ?_
      simp only [go_sem, reduceCtorEq, reduceIte, Nat.reduceEqDiff, Nat.reduceAdd, Nat.reduceLeDiff, Nat.reduceMul, Int.reduceLT, Int.reduceLE, Int.reduceAdd, Int.reduceSub, Int.reduceMul, Int.reduceNeg, Int.reduceToNat, Int.reduceEq, g, ef, c1, c2, e2]
      exact endK_drop hM1 (endK_drop hM (endK_same ⟨by simp [V.inside, c1, c2], rfl, rfl⟩))
    · simp only [go_sem, reduceCtorEq, reduceIte, Nat.reduceEqDiff, Nat.reduceAdd, Nat.reduceLeDiff, Nat.reduceMul, Int.reduceLT, Int.reduceLE, Int.reduceAdd, Int.reduceSub, Int.reduceMul, Int.reduceNeg, Int.reduceToNat, Int.reduceEq, g, ef, c1, c2]
      exact endK_drop hM1 (endK_drop hM (endK_same ⟨by simp [V.inside, c1, c2], rfl, rfl⟩))

def V.pair (a b : V) : Bool := a.ok && b.ok && decide (a.w = b.w)
theorem k143 (v : V) (hv : v.ok = true) : CallsA Try.prog 143 [v.val] F M (Same F M v.tidy.val) := by
  refine callsA_of hm Try.func143 e143 (Nat.le_of_ble_eq_true rfl) ?_
  simp only [c143, go_sem, reduceCtorEq, reduceIte, Nat.reduceEqDiff, Nat.reduceAdd, Nat.reduceLeDiff, Nat.reduceMul, Int.reduceLT, Int.reduceLE, Int.reduceAdd, Int.reduceSub, Int.reduceMul, Int.reduceNeg, Int.reduceToNat, Int.reduceEq]
  intro r hF hM
  simp only [go_sem, reduceCtorEq, reduceIte, Nat.reduceEqDiff, Nat.reduceAdd, Nat.reduceLeDiff, Nat.reduceMul, Int.reduceLT, Int.reduceLE, Int.reduceAdd, Int.reduceSub, Int.reduceMul, Int.reduceNeg, Int.reduceToNat, Int.reduceEq]
  intro r1 hF1 hM1
  have gr := fresh_of hM1
  simp only [go_sem, reduceCtorEq, reduceIte, Nat.reduceEqDiff, Nat.reduceAdd, Nat.reduceLeDiff, Nat.reduceMul, Int.reduceLT, Int.reduceLE, Int.reduceAdd, Int.reduceSub, Int.reduceMul, Int.reduceNeg, Int.reduceToNat, Int.reduceEq, gr]
  refine callK_of (k123 F _ v 1 hv (by omega)) ?_
  have m1 := v.members1
  rintro u G M' ⟨hG, ⟨hlen, ⟨hnil, rfl, rfl⟩ | ⟨g, cap, hFg, hMg, rfl, rfl⟩⟩ | ⟨hlen, rfl, rfl⟩⟩ <;> rw [hG] <;> refine ⟨(fun h => by cases h), ?_⟩
  · have e : v.nextR 0 < 0 := by
      rw [m1] at hnil
      split at hnil
      · assumption
      · cases hnil
    simp only [go_sem, reduceCtorEq, reduceIte, Nat.reduceEqDiff, Nat.reduceAdd, Nat.reduceLeDiff, Nat.reduceMul, Int.reduceLT, Int.reduceLE, Int.reduceAdd, Int.reduceSub, Int.reduceMul, Int.reduceNeg, Int.reduceToNat, Int.reduceEq, gr]
    refine callK_same (k115 F _ v.w) ?_
    simp only [go_sem, reduceCtorEq, reduceIte, Nat.reduceEqDiff, Nat.reduceAdd, Nat.reduceLeDiff, Nat.reduceMul, Int.reduceLT, Int.reduceLE, Int.reduceAdd, Int.reduceSub, Int.reduceMul, Int.reduceNeg, Int.reduceToNat, Int.reduceEq, gr]
    exact endK_drop hM1 (endK_drop hM (endK_same ⟨by simp [V.tidy, e], rfl, rfl⟩))
  · have g1 := fresh_of hMg
    have g2 := fresh_of g1.2.2
    by_cases hx : v.nextR 0 < 0
    · have hm : v.members 1 = [] := by rw [m1, if_pos hx]
      simp only [hm, go_sem, reduceCtorEq, reduceIte, Nat.reduceEqDiff, Nat.reduceAdd, Nat.reduceLeDiff, Nat.reduceMul, Int.reduceLT, Int.reduceLE, Int.reduceAdd, Int.reduceSub, Int.reduceMul, Int.reduceNeg, Int.reduceToNat, Int.reduceEq, gr, g1, g2]
      refine callK_same (k115 F _ v.w) ?_
      simp only [go_sem, reduceCtorEq, reduceIte, Nat.reduceEqDiff, Nat.reduceAdd, Nat.reduceLeDiff, Nat.reduceMul, Int.reduceLT, Int.reduceLE, Int.reduceAdd, Int.reduceSub, Int.reduceMul, Int.reduceNeg, Int.reduceToNat, Int.reduceEq, gr, g1, g2]
      refine endK_keep ?_ ⟨by simp [V.tidy, hx], rfl, rfl⟩
      exact (((Keep.refl M).new hM).new gr.2.2).new g2.2.2
    · by_cases hy : v.nextR (v.nextR 0 + 1) < 0
      · have e : v.is1 = true := by simp [V.is1, hy]; omega
        have hm : v.members 1 = [v.nextR 0] := by rw [m1, if_neg hx, if_pos hy]
        simp only [hm, go_sem, reduceCtorEq, reduceIte, Nat.reduceEqDiff, Nat.reduceAdd, Nat.reduceLeDiff, Nat.reduceMul, Int.reduceLT, Int.reduceLE, Int.reduceAdd, Int.reduceSub, Int.reduceMul, Int.reduceNeg, Int.reduceToNat, Int.reduceEq, gr, g1, g2, List.map_cons, List.map_nil, intV]
        refine callK_same (k100 F _ v.w (v.nextR 0)) ?_
        simp only [go_sem, reduceCtorEq, reduceIte, Nat.reduceEqDiff, Nat.reduceAdd, Nat.reduceLeDiff, Nat.reduceMul, Int.reduceLT, Int.reduceLE, Int.reduceAdd, Int.reduceSub, Int.reduceMul, Int.reduceNeg, Int.reduceToNat, Int.reduceEq, gr, g1, g2]
        refine endK_keep ?_ ⟨by simp [V.tidy, hx, e], rfl, rfl⟩
        exact (((Keep.refl M).new hM).new gr.2.2).new g2.2.2
      · rw [m1, if_neg hx, if_neg hy] at hlen
        simp at hlen
  · have e : v.is1 = false ∧ ¬ v.nextR 0 < 0 := by
      rw [m1] at hlen
      split at hlen
      · simp at hlen
      · split at hlen
        · simp at hlen
        · rename_i hx hy
          exact ⟨by simp [V.is1, hy], hx⟩
    simp only [go_sem, reduceCtorEq, reduceIte, Nat.reduceEqDiff, Nat.reduceAdd, Nat.reduceLeDiff, Nat.reduceMul, Int.reduceLT, Int.reduceLE, Int.reduceAdd, Int.reduceSub, Int.reduceMul, Int.reduceNeg, Int.reduceToNat, Int.reduceEq, gr]
    exact endK_drop hM1 (endK_drop hM (endK_same ⟨by simp [V.tidy, e.1, e.2], rfl, rfl⟩))
end Go.Proofs.Try.K

/- Contracts: told to be in another one. -/
namespace Go.Proofs.Try.K
open Go Go.Ax Go.Proofs.Try.S
set_option maxRecDepth 100000
set_option linter.unusedSimpArgs false
set_option linter.unusedVariables false
variable (F : Fz) (M : Hp)

def underI (b : V) (l : List Int) (cap : Nat) (F0 : Fz) (M0 : Hp) (r1 g : Nat) (m : Nat) (σ : Env) (F' : Fz) (M' : Hp) : Prop :=
  F' = F0 ∧ M' = M0 ∧ Ax.look σ 3 = some (.pointer (some ⟨r1, 0, none⟩)) ∧ Ax.look σ 25 = some (.slice (some ⟨g, 0, none⟩) l.length cap) ∧ Ax.look σ 26 = some (.int .i64 l.length) ∧
  ∃ i : Nat, i + m = l.length ∧ Ax.look σ 27 = some (.int .i64 i) ∧ (l.all b.has = (l.drop i).all b.has)

theorem k130 (a b : V) (ha : a.ok = true) (hb : b.ok = true) : CallsA Try.prog 130 [a.val, b.val] F M (Same F M (.bool (a.under b))) := by
  refine callsA_of hm Try.func130 e130 (Nat.le_of_ble_eq_true rfl) ?_
  have lb := isW_le (ok_in hb).w
  simp only [c130, go_sem, reduceCtorEq, reduceIte, Nat.reduceEqDiff, Nat.reduceAdd, Nat.reduceLeDiff, Nat.reduceMul, Int.reduceLT, Int.reduceLE, Int.reduceAdd, Int.reduceSub, Int.reduceMul, Int.reduceNeg, Int.reduceToNat, Int.reduceEq]
  intro r hF hM
  simp only [go_sem, reduceCtorEq, reduceIte, Nat.reduceEqDiff, Nat.reduceAdd, Nat.reduceLeDiff, Nat.reduceMul, Int.reduceLT, Int.reduceLE, Int.reduceAdd, Int.reduceSub, Int.reduceMul, Int.reduceNeg, Int.reduceToNat, Int.reduceEq]
  intro r1 hF1 hM1
  have gr := fresh_of hM1
  simp only [go_sem, reduceCtorEq, reduceIte, Nat.reduceEqDiff, Nat.reduceAdd, Nat.reduceLeDiff, Nat.reduceMul, Int.reduceLT, Int.reduceLE, Int.reduceAdd, Int.reduceSub, Int.reduceMul, Int.reduceNeg, Int.reduceToNat, Int.reduceEq, gr]
  by_cases c1 : a = b
  · subst c1
    simp only [go_sem, reduceCtorEq, reduceIte, Nat.reduceEqDiff, Nat.reduceAdd, Nat.reduceLeDiff, Nat.reduceMul, Int.reduceLT, Int.reduceLE, Int.reduceAdd, Int.reduceSub, Int.reduceMul, Int.reduceNeg, Int.reduceToNat, Int.reduceEq, gr, eq_self]
    exact endK_drop hM1 (endK_drop hM (endK_same ⟨by simp [V.under], rfl, rfl⟩))
  simp only [go_sem, reduceCtorEq, reduceIte, Nat.reduceEqDiff, Nat.reduceAdd, Nat.reduceLeDiff, Nat.reduceMul, Int.reduceLT, Int.reduceLE, Int.reduceAdd, Int.reduceSub, Int.reduceMul, Int.reduceNeg, Int.reduceToNat, Int.reduceEq, gr, c1]
  refine callK_same (k102 F _ b.w lb.1 lb.2) ?_
  by_cases c2 : b = V.whole b.w
  · have e2 : decide (b = V.whole b.w) = true := by simpa using c2
    simp only [go_sem, reduceCtorEq, reduceIte, Nat.reduceEqDiff, Nat.reduceAdd, Nat.reduceLeDiff, Nat.reduceMul, Int.reduceLT, Int.reduceLE, Int.reduceAdd, Int.reduceSub, Int.reduceMul, Int.reduceNeg, Int.reduceToNat, Int.reduceEq, gr, c1, e2]
    exact endK_drop hM1 (endK_drop hM (endK_same ⟨by simp [V.under, e2], rfl, rfl⟩))
  have e2 : decide (b = V.whole b.w) = false := by simpa using c2
  simp only [go_sem, reduceCtorEq, reduceIte, Nat.reduceEqDiff, Nat.reduceAdd, Nat.reduceLeDiff, Nat.reduceMul, Int.reduceLT, Int.reduceLE, Int.reduceAdd, Int.reduceSub, Int.reduceMul, Int.reduceNeg, Int.reduceToNat, Int.reduceEq, gr, c1, e2]
  refine callK_of (k123 F _ a 16 ha (by omega)) ?_
  rintro u G M' ⟨hG, ⟨hlen, ⟨hnil, rfl, rfl⟩ | ⟨g, cap, hFg, hMg, rfl, rfl⟩⟩ | ⟨hlen, rfl, rfl⟩⟩ <;> rw [hG] <;> refine ⟨(fun h => by cases h), ?_⟩
  · have e : a.under b = true := by simp [V.under, c1, e2, hnil]
    simp only [go_sem, reduceCtorEq, reduceIte, Nat.reduceEqDiff, Nat.reduceAdd, Nat.reduceLeDiff, Nat.reduceMul, Int.reduceLT, Int.reduceLE, Int.reduceAdd, Int.reduceSub, Int.reduceMul, Int.reduceNeg, Int.reduceToNat, Int.reduceEq, gr]
    refine loop_of (fun m σ F' M' => F' = F ∧ M' = (M.upd r ⟨a.cs, 34, 6⟩).upd r1 ⟨b.cs, 34, 6⟩ ∧ Ax.look σ 26 = some (.int .i64 0) ∧ Ax.look σ 27 = some (.int .i64 0)) 0 ?_ ?_
    · exact ⟨rfl, rfl, by simp only [go_sem, reduceCtorEq, reduceIte, Nat.reduceEqDiff], by simp only [go_sem, reduceCtorEq, reduceIte, Nat.reduceEqDiff]⟩
    · rintro m σ F' M' ⟨rfl, rfl, h26, h27⟩
      simp only [go_sem, reduceCtorEq, reduceIte, Nat.reduceEqDiff, Nat.reduceAdd, Nat.reduceLeDiff, Nat.reduceMul, Int.reduceLT, Int.reduceLE, Int.reduceAdd, Int.reduceSub, Int.reduceMul, Int.reduceNeg, Int.reduceToNat, Int.reduceEq, h26, h27, Int.lt_irrefl]
      exact endK_drop hM1 (endK_drop hM (endK_same ⟨by rw [e], rfl, rfl⟩))
  · have g1 := fresh_of hMg
    have g2 := fresh_of g1.2.2
    have e : a.under b = (a.members 16).all b.has := by simp [V.under, c1, e2, hlen]
    rw [e]
    generalize a.members 16 = l at *
    simp only [go_sem, reduceCtorEq, reduceIte, Nat.reduceEqDiff, Nat.reduceAdd, Nat.reduceLeDiff, Nat.reduceMul, Int.reduceLT, Int.reduceLE, Int.reduceAdd, Int.reduceSub, Int.reduceMul, Int.reduceNeg, Int.reduceToNat, Int.reduceEq, gr]
    refine loop_of (underI b l cap F (((M.upd r ⟨a.cs, 34, 6⟩).upd r1 ⟨b.cs, 34, 6⟩).upd g ⟨l.map intV, 3, cap * 1⟩) r1 g) l.length ?_ ?_
    · exact ⟨rfl, rfl, by simp only [go_sem, reduceCtorEq, reduceIte, Nat.reduceEqDiff], by simp only [go_sem, reduceCtorEq, reduceIte, Nat.reduceEqDiff], by simp only [go_sem, reduceCtorEq, reduceIte, Nat.reduceEqDiff], 0, by omega, by simp only [go_sem, reduceCtorEq, reduceIte, Nat.reduceEqDiff] <;> rfl, rfl⟩
    · rintro m σ F' M' ⟨rfl, rfl, h3, h25, h26, i, hi, h27, hall⟩
      by_cases hil : (i : Int) < l.length
      · have hi0 : (0 : Int) ≤ i := by omega
        have hil' : i < l.length := by omega
        have hget := get_ints hil'
        have ei : IntKind.i64.wrap ((i : Int) + 1) = i + 1 := w64 (by omega) (by omega)
        have hd : (l.drop i).all b.has = (b.has l[i] && (l.drop (i + 1)).all b.has) := by rw [List.drop_eq_getElem_cons hil']; rfl
        simp only [go_sem, reduceCtorEq, reduceIte, Nat.reduceEqDiff, Nat.reduceAdd, Nat.reduceLeDiff, Nat.reduceMul, Int.reduceLT, Int.reduceLE, Int.reduceAdd, Int.reduceSub, Int.reduceMul, Int.reduceNeg, Int.reduceToNat, Int.reduceEq, h3, h25, h26, h27, hil, hi0, Int.toNat_natCast, Nat.mul_one, hget, gr, g1, g2]
        refine callK_same (k113 F' _ b l[i]) ?_
        cases hh : b.has l[i]
        · rw [hh, Bool.false_and] at hd
          simp only [go_sem, reduceCtorEq, reduceIte, Nat.reduceEqDiff, Nat.reduceAdd, Nat.reduceLeDiff, Nat.reduceMul, Int.reduceLT, Int.reduceLE, Int.reduceAdd, Int.reduceSub, Int.reduceMul, Int.reduceNeg, Int.reduceToNat, Int.reduceEq, h3, h25, h26, h27]
          exact endK_keep ((((Keep.refl M).new hM).new gr.2.2).new g2.2.2) ⟨by rw [hall, hd], rfl, rfl⟩
        · rw [hh, Bool.true_and] at hd
          simp only [go_sem, reduceCtorEq, reduceIte, Nat.reduceEqDiff, Nat.reduceAdd, Nat.reduceLeDiff, Nat.reduceMul, Int.reduceLT, Int.reduceLE, Int.reduceAdd, Int.reduceSub, Int.reduceMul, Int.reduceNeg, Int.reduceToNat, Int.reduceEq, h3, h25, h26, h27, ei]
          exact ⟨m - 1, by omega, rfl, rfl, by simp only [go_sem, reduceCtorEq, reduceIte, Nat.reduceEqDiff, h3], by simp only [go_sem, reduceCtorEq, reduceIte, Nat.reduceEqDiff, h25], by simp only [go_sem, reduceCtorEq, reduceIte, Nat.reduceEqDiff, h26], i + 1, by omega, by simp only [go_sem, reduceCtorEq, reduceIte, Nat.reduceEqDiff]; rfl, by rw [hall, hd]⟩
      · simp only [go_sem, reduceCtorEq, reduceIte, Nat.reduceEqDiff, Nat.reduceAdd, Nat.reduceLeDiff, Nat.reduceMul, Int.reduceLT, Int.reduceLE, Int.reduceAdd, Int.reduceSub, Int.reduceMul, Int.reduceNeg, Int.reduceToNat, Int.reduceEq, h3, h25, h26, h27, hil]
        have : l.drop i = [] := List.drop_eq_nil_of_le (by omega)
        rw [this] at hall
        exact endK_keep ((((Keep.refl M).new hM).new gr.2.2).new g2.2.2) ⟨by rw [hall]; rfl, rfl, rfl⟩
  · have hl : ¬ (a.members 16).length ≤ 16 := by omega
    have e : a.under b = (!b.no && a.inside b && decide (bclr .i64 a.free b.free = 0) && decide (bclr .i64 a.bits b.free = b.bits)) := by simp [V.under, c1, e2, hl]
    rw [e]
    simp only [go_sem, reduceCtorEq, reduceIte, Nat.reduceEqDiff, Nat.reduceAdd, Nat.reduceLeDiff, Nat.reduceMul, Int.reduceLT, Int.reduceLE, Int.reduceAdd, Int.reduceSub, Int.reduceMul, Int.reduceNeg, Int.reduceToNat, Int.reduceEq, gr]
    cases hno : b.no
    rotate_left
    · simp only [go_sem, reduceCtorEq, reduceIte, Nat.reduceEqDiff, Nat.reduceAdd, Nat.reduceLeDiff, Nat.reduceMul, Int.reduceLT, Int.reduceLE, Int.reduceAdd, Int.reduceSub, Int.reduceMul, Int.reduceNeg, Int.reduceToNat, Int.reduceEq, gr]
      exact endK_drop hM1 (endK_drop hM (endK_same ⟨rfl, rfl, rfl⟩))
    simp only [go_sem, reduceCtorEq, reduceIte, Nat.reduceEqDiff, Nat.reduceAdd, Nat.reduceLeDiff, Nat.reduceMul, Int.reduceLT, Int.reduceLE, Int.reduceAdd, Int.reduceSub, Int.reduceMul, Int.reduceNeg, Int.reduceToNat, Int.reduceEq, gr]
    refine callK_same (k152 F _ a b (ok_in ha) (ok_in hb)) ?_
    cases hin : a.inside b
    · simp only [go_sem, reduceCtorEq, reduceIte, Nat.reduceEqDiff, Nat.reduceAdd, Nat.reduceLeDiff, Nat.reduceMul, Int.reduceLT, Int.reduceLE, Int.reduceAdd, Int.reduceSub, Int.reduceMul, Int.reduceNeg, Int.reduceToNat, Int.reduceEq, gr]
      exact endK_drop hM1 (endK_drop hM (endK_same ⟨rfl, rfl, rfl⟩))
    by_cases d1 : bclr .i64 a.free b.free = 0
    · simp only [go_sem, reduceCtorEq, reduceIte, Nat.reduceEqDiff, Nat.reduceAdd, Nat.reduceLeDiff, Nat.reduceMul, Int.reduceLT, Int.reduceLE, Int.reduceAdd, Int.reduceSub, Int.reduceMul, Int.reduceNeg, Int.reduceToNat, Int.reduceEq, gr, d1]
      exact endK_drop hM1 (endK_drop hM (endK_same ⟨by simp [d1], rfl, rfl⟩))
    · simp only [go_sem, reduceCtorEq, reduceIte, Nat.reduceEqDiff, Nat.reduceAdd, Nat.reduceLeDiff, Nat.reduceMul, Int.reduceLT, Int.reduceLE, Int.reduceAdd, Int.reduceSub, Int.reduceMul, Int.reduceNeg, Int.reduceToNat, Int.reduceEq, gr, d1]
      exact endK_drop hM1 (endK_drop hM (endK_same ⟨by simp [d1], rfl, rfl⟩))

end Go.Proofs.Try.K

/- Contract: a range that both lie in. -/
namespace Go.Proofs.Try.K
open Go Go.Ax Go.Proofs.Try.S
set_option maxRecDepth 100000
set_option linter.unusedSimpArgs false
set_option linter.unusedVariables false
set_option maxHeartbeats 4000000
variable (F : Fz) (M : Hp)

/-- What stays through the rounds: the two sets, the best range so far. -/
structure CovM (a b : V) (M : Hp) (ra rb rz : Nat) (M' : Hp) (l h : Int) : Prop where
  keep : Keep M M'
  fa : M' ra = some ⟨a.cs, 34, 6⟩
  fb : M' rb = some ⟨b.cs, 34, 6⟩
  fz : M' rz = some ⟨(V.mk a.w false l h 0 0).cs, 34, 6⟩
  nz : M rz = none
  na : ¬ ra = rz
  nb : ¬ rb = rz
  cov : Cov a b l h
theorem CovM.new {a b : V} {M M' : Hp} {ra rb rz : Nat} {l h : Int} (c : CovM a b M ra rb rz M' l h) {r : Nat} {e : Ent} (hr : M' r = none) : CovM a b M ra rb rz (M'.upd r e) l h :=
  ⟨c.keep.new (c.keep.free hr), by rw [Hp.upd_ne' (ne_of_none hr c.fa).1]; exact c.fa, by rw [Hp.upd_ne' (ne_of_none hr c.fb).1]; exact c.fb, by rw [Hp.upd_ne' (ne_of_none hr c.fz).1]; exact c.fz, c.nz, c.na, c.nb, c.cov⟩
theorem CovM.set {a b : V} {M M' : Hp} {ra rb rz : Nat} {l h l' h' : Int} (c : CovM a b M ra rb rz M' l h) (k : Cov a b l' h') : CovM a b M ra rb rz (M'.upd rz ⟨(V.mk a.w false l' h' 0 0).cs, 34, 6⟩) l' h' :=
  ⟨c.keep.new c.nz, by rw [Hp.upd_ne' c.na]; exact c.fa, by rw [Hp.upd_ne' c.nb]; exact c.fb, Hp.upd_same _ _ _, c.nz, c.na, c.nb, k⟩
def outI (a b : V) (F0 : Fz) (M : Hp) (ra rb rz r20 : Nat) (m : Nat) (σ : Env) (F' : Fz) (M' : Hp) : Prop :=
  F' = F0 ∧ ¬ r20 = rz ∧ M' r20 = some ⟨a.cs ++ b.cs, 34, 12⟩ ∧ (∃ l h, CovM a b M ra rb rz M' l h) ∧
  Ax.look σ 2 = some (.pointer (some ⟨ra, 0, none⟩)) ∧ Ax.look σ 3 = some (.pointer (some ⟨rb, 0, none⟩)) ∧ Ax.look σ 6 = some (.pointer (some ⟨rz, 0, none⟩)) ∧
  Ax.look σ 20 = some (.slice (some ⟨r20, 0, none⟩) 2 2) ∧ Ax.look σ 21 = some (.int .i64 2) ∧ (m = 2 ∧ Ax.look σ 22 = some (.int .i64 0) ∨ m = 1 ∧ Ax.look σ 22 = some (.int .i64 1) ∨ m = 0 ∧ Ax.look σ 22 = some (.int .i64 2))
def inI (a b x : V) (i : Int) (F0 : Fz) (M : Hp) (ra rb rz r20 rx r28 : Nat) (m : Nat) (σ : Env) (F' : Fz) (M' : Hp) : Prop :=
  F' = F0 ∧ (¬ r20 = rz ∧ ¬ r28 = rz ∧ ¬ rx = rz) ∧ M' r20 = some ⟨a.cs ++ b.cs, 34, 12⟩ ∧ M' r28 = some ⟨a.cs ++ b.cs, 34, 12⟩ ∧ M' rx = some ⟨x.cs, 34, 6⟩ ∧ (∃ l h, CovM a b M ra rb rz M' l h) ∧
  Ax.look σ 2 = some (.pointer (some ⟨ra, 0, none⟩)) ∧ Ax.look σ 3 = some (.pointer (some ⟨rb, 0, none⟩)) ∧ Ax.look σ 6 = some (.pointer (some ⟨rz, 0, none⟩)) ∧
  Ax.look σ 20 = some (.slice (some ⟨r20, 0, none⟩) 2 2) ∧ Ax.look σ 21 = some (.int .i64 2) ∧ Ax.look σ 22 = some (.int .i64 i) ∧ Ax.look σ 8 = some (.pointer (some ⟨rx, 0, none⟩)) ∧
  Ax.look σ 28 = some (.slice (some ⟨r28, 0, none⟩) 2 2) ∧ Ax.look σ 29 = some (.int .i64 2) ∧ (m = 2 ∧ Ax.look σ 30 = some (.int .i64 0) ∨ m = 1 ∧ Ax.look σ 30 = some (.int .i64 1) ∨ m = 0 ∧ Ax.look σ 30 = some (.int .i64 2))

theorem k150 (a b : V) (ha : a.In) (hb : b.In) (hw : b.w = a.w) : CallsA Try.prog 150 [a.val, b.val] F M fun u F' M' => F' = F ∧ M' = M ∧ ∃ l h, u = .tuple #[.int .i64 l, .int .i64 h] ∧ Cov a b l h := by
  refine callsA_of hm Try.func150 e150 (Nat.le_of_ble_eq_true rfl) ?_
  have la := isW_le ha.w
  simp only [c150, go_sem, reduceCtorEq, reduceIte, Nat.reduceEqDiff, Nat.reduceAdd, Nat.reduceLeDiff, Nat.reduceMul, Int.reduceLT, Int.reduceLE, Int.reduceAdd, Int.reduceSub, Int.reduceMul, Int.reduceNeg, Int.reduceToNat, Int.reduceEq]
  intro ra hFa hMa
  simp only [go_sem, reduceCtorEq, reduceIte, Nat.reduceEqDiff, Nat.reduceAdd, Nat.reduceLeDiff, Nat.reduceMul, Int.reduceLT, Int.reduceLE, Int.reduceAdd, Int.reduceSub, Int.reduceMul, Int.reduceNeg, Int.reduceToNat, Int.reduceEq]
  intro rb hFb hMb
  have gb := fresh_of hMb
  simp only [go_sem, reduceCtorEq, reduceIte, Nat.reduceEqDiff, Nat.reduceAdd, Nat.reduceLeDiff, Nat.reduceMul, Int.reduceLT, Int.reduceLE, Int.reduceAdd, Int.reduceSub, Int.reduceMul, Int.reduceNeg, Int.reduceToNat, Int.reduceEq, gb]
  refine callK_same (k137 F _ a.w la.1 la.2) ?_
  simp only [go_sem, reduceCtorEq, reduceIte, Nat.reduceEqDiff, Nat.reduceAdd, Nat.reduceLeDiff, Nat.reduceMul, Int.reduceLT, Int.reduceLE, Int.reduceAdd, Int.reduceSub, Int.reduceMul, Int.reduceNeg, Int.reduceToNat, Int.reduceEq, gb]
  intro rz hFz hMz
  have gz := fresh_of hMz
  have gz2 := fresh_of gz.2.2
  simp only [go_sem, reduceCtorEq, reduceIte, Nat.reduceEqDiff, Nat.reduceAdd, Nat.reduceLeDiff, Nat.reduceMul, Int.reduceLT, Int.reduceLE, Int.reduceAdd, Int.reduceSub, Int.reduceMul, Int.reduceNeg, Int.reduceToNat, Int.reduceEq, gb, gz, gz2]
  intro r20 hF20 hM20
  have g20 := fresh_of hM20
  have c0 : CovM a b M ra rb rz (((M.upd ra ⟨a.cs, 34, 6⟩).upd rb ⟨b.cs, 34, 6⟩).upd rz ⟨(V.mk a.w false 0 (mostV a.w) 0 0).cs, 34, 6⟩) 0 (mostV a.w) := by
    refine ⟨(((Keep.refl M).new hMa).new gb.2.2).new gz2.2.2, ?_, ?_, Hp.upd_same _ _ _, gz2.2.2, gz2.2.1, gz.2.1, cov_all ha⟩
    · rw [Hp.upd_ne' gz2.2.1, Hp.upd_ne' gb.2.1]; exact Hp.upd_same _ _ _
    · rw [Hp.upd_ne' gz.2.1]; exact Hp.upd_same _ _ _
  simp only [go_sem, reduceCtorEq, reduceIte, Nat.reduceEqDiff, Nat.reduceAdd, Nat.reduceLeDiff, Nat.reduceMul, Int.reduceLT, Int.reduceLE, Int.reduceAdd, Int.reduceSub, Int.reduceMul, Int.reduceNeg, Int.reduceToNat, Int.reduceEq, gb, gz, gz2]
  refine loop_of (outI a b F M ra rb rz r20) 2 ?_ ?_
  · exact ⟨rfl, g20.1, Hp.upd_same _ _ _, ⟨_, _, c0.new hM20⟩, by simp only [go_sem, reduceCtorEq, reduceIte, Nat.reduceEqDiff], by simp only [go_sem, reduceCtorEq, reduceIte, Nat.reduceEqDiff], by simp only [go_sem, reduceCtorEq, reduceIte, Nat.reduceEqDiff], by simp only [go_sem, reduceCtorEq, reduceIte, Nat.reduceEqDiff], by simp only [go_sem, reduceCtorEq, reduceIte, Nat.reduceEqDiff], .inl ⟨rfl, by simp only [go_sem, reduceCtorEq, reduceIte, Nat.reduceEqDiff]⟩⟩
  clear c0 hM20 g20 hMz gz gz2 hFz hF20
  rintro mo σ F' M' ⟨rfl, n20, f20, ⟨l, h, c⟩, h2, h3, h6, h20, h21, h22⟩
  have b2 := blk_M (F := F') c.fa
  have b3 := blk_M (F := F') c.fb
  have b6 := blk_M (F := F') c.fz
  have b20 := blk_M (F := F') f20
  rcases h22 with ⟨rfl, h22⟩ | ⟨rfl, h22⟩ | ⟨rfl, h22⟩
  · simp only [go_sem, reduceCtorEq, reduceIte, Nat.reduceEqDiff, Nat.reduceAdd, Nat.reduceLeDiff, Nat.reduceMul, Int.reduceLT, Int.reduceLE, Int.reduceAdd, Int.reduceSub, Int.reduceMul, Int.reduceNeg, Int.reduceToNat, Int.reduceEq, h2, h3, h6, h20, h21, h22, b2, b3, b6, b20]
    intro rx hFx hMx
    have o1 := ne_of_none hMx c.fa
    have o2 := ne_of_none hMx c.fb
    have o3 := ne_of_none hMx c.fz
    have o4 := ne_of_none hMx f20
    simp only [go_sem, reduceCtorEq, reduceIte, Nat.reduceEqDiff, Nat.reduceAdd, Nat.reduceLeDiff, Nat.reduceMul, Int.reduceLT, Int.reduceLE, Int.reduceAdd, Int.reduceSub, Int.reduceMul, Int.reduceNeg, Int.reduceToNat, Int.reduceEq, h2, h3, h6, h20, h21, h22, o1, o2, o3, o4, b2, b3, b6, b20]
    intro r28 hF28 hM28
    have p1 := fresh_of hM28
    have p4 := ne_of_none p1.2.2 f20
    have p3 := ne_of_none p1.2.2 c.fz
    simp only [go_sem, reduceCtorEq, reduceIte, Nat.reduceEqDiff, Nat.reduceAdd, Nat.reduceLeDiff, Nat.reduceMul, Int.reduceLT, Int.reduceLE, Int.reduceAdd, Int.reduceSub, Int.reduceMul, Int.reduceNeg, Int.reduceToNat, Int.reduceEq, h2, h3, h6, h20, h21, h22, o1, o2, o3, o4, p1, p3, p4, b2, b3, b6, b20]
    refine loop_of (inI a b a 0 F' M ra rb rz r20 rx r28) 2 ?_ ?_
    · exact ⟨rfl, ⟨n20, p3.2, o3.2⟩, by rw [Hp.upd_ne' p4.1, Hp.upd_ne' o4.1]; exact f20, Hp.upd_same _ _ _, by rw [Hp.upd_ne' p1.2.1]; exact Hp.upd_same _ _ _, ⟨_, _, (c.new hMx).new hM28⟩,
        by simp only [go_sem, reduceCtorEq, reduceIte, Nat.reduceEqDiff, h2], by simp only [go_sem, reduceCtorEq, reduceIte, Nat.reduceEqDiff, h3], by simp only [go_sem, reduceCtorEq, reduceIte, Nat.reduceEqDiff, h6], by simp only [go_sem, reduceCtorEq, reduceIte, Nat.reduceEqDiff, h20], by simp only [go_sem, reduceCtorEq, reduceIte, Nat.reduceEqDiff, h21], by simp only [go_sem, reduceCtorEq, reduceIte, Nat.reduceEqDiff, h22], by simp only [go_sem, reduceCtorEq, reduceIte, Nat.reduceEqDiff], by simp only [go_sem, reduceCtorEq, reduceIte, Nat.reduceEqDiff], by simp only [go_sem, reduceCtorEq, reduceIte, Nat.reduceEqDiff], .inl ⟨rfl, by simp only [go_sem, reduceCtorEq, reduceIte, Nat.reduceEqDiff]⟩⟩
    have hx : a.In := ha
    have hxw : a.w = a.w := rfl
    clear h2 h3 h6 h20 h21 h22 b2 b3 b6 b20 f20 hM28 p1 p3 p4 o1 o2 o3 o4 hMx
    clear c
    clear l h
    clear hFx hF28
    rintro m σ F'' M'' ⟨rfl, nn, f20, f28, fx, ⟨l, h, c⟩, h2, h3, h6, h20, h21, h22, h8, h28, h29, h30⟩
    have b2 := blk_M (F := F'') c.fa
    have b3 := blk_M (F := F'') c.fb
    have b6 := blk_M (F := F'') c.fz
    have b8 := blk_M (F := F'') fx
    have b28 := blk_M (F := F'') f28
    rcases h30 with ⟨rfl, h30⟩ | ⟨rfl, h30⟩ | ⟨rfl, h30⟩
    · simp only [go_sem, reduceCtorEq, reduceIte, Nat.reduceEqDiff, Nat.reduceAdd, Nat.reduceLeDiff, Nat.reduceMul, Int.reduceLT, Int.reduceLE, Int.reduceAdd, Int.reduceSub, Int.reduceMul, Int.reduceNeg, Int.reduceToNat, Int.reduceEq, h2, h3, h6, h20, h21, h22, h8, h28, h29, h30, b2, b3, b6, b8, b28]
      intro ry hFy hMy
      have q1 := ne_of_none hMy c.fa
      have q2 := ne_of_none hMy c.fb
      have q3 := ne_of_none hMy c.fz
      have q4 := ne_of_none hMy fx
      have q5 := ne_of_none hMy f20
      have q6 := ne_of_none hMy f28
      simp only [go_sem, reduceCtorEq, reduceIte, Nat.reduceEqDiff, Nat.reduceAdd, Nat.reduceLeDiff, Nat.reduceMul, Int.reduceLT, Int.reduceLE, Int.reduceAdd, Int.reduceSub, Int.reduceMul, Int.reduceNeg, Int.reduceToNat, Int.reduceEq, h2, h3, h6, h20, h21, h22, h8, h28, h29, h30, b2, b3, b6, b8, b28, q1, q2, q3, q4, q5, q6]
      intro rw' hFw hMw
      have w1 := fresh_of hMw
      have u1 := ne_of_none w1.2.2 c.fa
      have u2 := ne_of_none w1.2.2 c.fb
      have u3 := ne_of_none w1.2.2 c.fz
      have ux := ne_of_none w1.2.2 fx
      have q7 := ne_of_none w1.2.2 f20
      have u28 := ne_of_none w1.2.2 f28
      have hz : (V.mk a.w false a.low a.high 0 0).In := span_in ha hx ha hxw rfl
      simp only [go_sem, reduceCtorEq, reduceIte, Nat.reduceEqDiff, Nat.reduceAdd, Nat.reduceLeDiff, Nat.reduceMul, Int.reduceLT, Int.reduceLE, Int.reduceAdd, Int.reduceSub, Int.reduceMul, Int.reduceNeg, Int.reduceToNat, Int.reduceEq, h2, h3, h6, h20, h21, h22, h8, h28, h29, h30, b2, b3, b6, b8, b28, q1, q2, q3, q4, q5, q6, q7, w1, u1, u2, u3, ux, u28]
      refine callK_same (k152 _ _ a (V.mk a.w false a.low a.high 0 0) ha hz) ?_
      cases i1 : a.inside (V.mk a.w false a.low a.high 0 0)
      · simp only [go_sem, reduceCtorEq, reduceIte, Nat.reduceEqDiff, Nat.reduceAdd, Nat.reduceLeDiff, Nat.reduceMul, Int.reduceLT, Int.reduceLE, Int.reduceAdd, Int.reduceSub, Int.reduceMul, Int.reduceNeg, Int.reduceToNat, Int.reduceEq, h2, h3, h6, h20, h21, h22, h8, h28, h29, h30, b2, b3, b6, b8, b28, q1, q2, q3, q4, q5, q6, q7, w1, u1, u2, u3, ux, u28]
        exact ⟨1, by omega, rfl, nn, by rw [Hp.upd_ne' q7.1, Hp.upd_ne' q5.1]; exact f20, by rw [Hp.upd_ne' u28.1, Hp.upd_ne' q6.1]; exact f28, by rw [Hp.upd_ne' ux.1, Hp.upd_ne' q4.1]; exact fx, ⟨_, _, (c.new hMy).new hMw⟩, by simp only [go_sem, reduceCtorEq, reduceIte, Nat.reduceEqDiff, h2], by simp only [go_sem, reduceCtorEq, reduceIte, Nat.reduceEqDiff, h3], by simp only [go_sem, reduceCtorEq, reduceIte, Nat.reduceEqDiff, h6], by simp only [go_sem, reduceCtorEq, reduceIte, Nat.reduceEqDiff, h20], by simp only [go_sem, reduceCtorEq, reduceIte, Nat.reduceEqDiff, h21], by simp only [go_sem, reduceCtorEq, reduceIte, Nat.reduceEqDiff, h22], by simp only [go_sem, reduceCtorEq, reduceIte, Nat.reduceEqDiff, h8], by simp only [go_sem, reduceCtorEq, reduceIte, Nat.reduceEqDiff, h28], by simp only [go_sem, reduceCtorEq, reduceIte, Nat.reduceEqDiff, h29], (.inr (.inl ⟨rfl, by simp only [go_sem, reduceCtorEq, reduceIte, Nat.reduceEqDiff]⟩))⟩
      simp only [go_sem, reduceCtorEq, reduceIte, Nat.reduceEqDiff, Nat.reduceAdd, Nat.reduceLeDiff, Nat.reduceMul, Int.reduceLT, Int.reduceLE, Int.reduceAdd, Int.reduceSub, Int.reduceMul, Int.reduceNeg, Int.reduceToNat, Int.reduceEq, h2, h3, h6, h20, h21, h22, h8, h28, h29, h30, b2, b3, b6, b8, b28, q1, q2, q3, q4, q5, q6, q7, w1, u1, u2, u3, ux, u28]
      refine callK_same (k152 _ _ b (V.mk a.w false a.low a.high 0 0) hb hz) ?_
      cases i2 : b.inside (V.mk a.w false a.low a.high 0 0)
      · simp only [go_sem, reduceCtorEq, reduceIte, Nat.reduceEqDiff, Nat.reduceAdd, Nat.reduceLeDiff, Nat.reduceMul, Int.reduceLT, Int.reduceLE, Int.reduceAdd, Int.reduceSub, Int.reduceMul, Int.reduceNeg, Int.reduceToNat, Int.reduceEq, h2, h3, h6, h20, h21, h22, h8, h28, h29, h30, b2, b3, b6, b8, b28, q1, q2, q3, q4, q5, q6, q7, w1, u1, u2, u3, ux, u28]
        exact ⟨1, by omega, rfl, nn, by rw [Hp.upd_ne' q7.1, Hp.upd_ne' q5.1]; exact f20, by rw [Hp.upd_ne' u28.1, Hp.upd_ne' q6.1]; exact f28, by rw [Hp.upd_ne' ux.1, Hp.upd_ne' q4.1]; exact fx, ⟨_, _, (c.new hMy).new hMw⟩, by simp only [go_sem, reduceCtorEq, reduceIte, Nat.reduceEqDiff, h2], by simp only [go_sem, reduceCtorEq, reduceIte, Nat.reduceEqDiff, h3], by simp only [go_sem, reduceCtorEq, reduceIte, Nat.reduceEqDiff, h6], by simp only [go_sem, reduceCtorEq, reduceIte, Nat.reduceEqDiff, h20], by simp only [go_sem, reduceCtorEq, reduceIte, Nat.reduceEqDiff, h21], by simp only [go_sem, reduceCtorEq, reduceIte, Nat.reduceEqDiff, h22], by simp only [go_sem, reduceCtorEq, reduceIte, Nat.reduceEqDiff, h8], by simp only [go_sem, reduceCtorEq, reduceIte, Nat.reduceEqDiff, h28], by simp only [go_sem, reduceCtorEq, reduceIte, Nat.reduceEqDiff, h29], (.inr (.inl ⟨rfl, by simp only [go_sem, reduceCtorEq, reduceIte, Nat.reduceEqDiff]⟩))⟩
      simp only [go_sem, reduceCtorEq, reduceIte, Nat.reduceEqDiff, Nat.reduceAdd, Nat.reduceLeDiff, Nat.reduceMul, Int.reduceLT, Int.reduceLE, Int.reduceAdd, Int.reduceSub, Int.reduceMul, Int.reduceNeg, Int.reduceToNat, Int.reduceEq, h2, h3, h6, h20, h21, h22, h8, h28, h29, h30, b2, b3, b6, b8, b28, q1, q2, q3, q4, q5, q6, q7, w1, u1, u2, u3, ux, u28]
      refine callK_same (k160 _ _ _ hz) ?_
      simp only [go_sem, reduceCtorEq, reduceIte, Nat.reduceEqDiff, Nat.reduceAdd, Nat.reduceLeDiff, Nat.reduceMul, Int.reduceLT, Int.reduceLE, Int.reduceAdd, Int.reduceSub, Int.reduceMul, Int.reduceNeg, Int.reduceToNat, Int.reduceEq, h2, h3, h6, h20, h21, h22, h8, h28, h29, h30, b2, b3, b6, b8, b28, q1, q2, q3, q4, q5, q6, q7, w1, u1, u2, u3, ux, u28]
      refine callK_same (k160 _ _ _ c.cov.1) ?_
      by_cases hlt : (V.mk a.w false a.low a.high 0 0).len < (V.mk a.w false l h 0 0).len
      · simp only [go_sem, reduceCtorEq, reduceIte, Nat.reduceEqDiff, Nat.reduceAdd, Nat.reduceLeDiff, Nat.reduceMul, Int.reduceLT, Int.reduceLE, Int.reduceAdd, Int.reduceSub, Int.reduceMul, Int.reduceNeg, Int.reduceToNat, Int.reduceEq, h2, h3, h6, h20, h21, h22, h8, h28, h29, h30, b2, b3, b6, b8, b28, q1, q2, q3, q4, q5, q6, q7, w1, u1, u2, u3, ux, u28, hlt, c.fz]
        exact ⟨1, by omega, rfl, nn, by rw [Hp.upd_ne' q7.1, Hp.upd_ne' q5.1, setH, Hp.upd_ne' nn.1]; exact f20, by rw [Hp.upd_ne' u28.1, Hp.upd_ne' q6.1, setH, Hp.upd_ne' nn.2.1]; exact f28, by rw [Hp.upd_ne' ux.1, Hp.upd_ne' q4.1, setH, Hp.upd_ne' nn.2.2]; exact fx, ⟨_, _, ((c.set ⟨hz, i1, i2⟩).new (by rw [upd_none]; exact ⟨q3.2, hMy⟩)).new (by rw [upd_none, upd_none]; exact ⟨w1.1, u3.2, w1.2.2⟩)⟩, by simp only [go_sem, reduceCtorEq, reduceIte, Nat.reduceEqDiff, h2], by simp only [go_sem, reduceCtorEq, reduceIte, Nat.reduceEqDiff, h3], by simp only [go_sem, reduceCtorEq, reduceIte, Nat.reduceEqDiff, h6], by simp only [go_sem, reduceCtorEq, reduceIte, Nat.reduceEqDiff, h20], by simp only [go_sem, reduceCtorEq, reduceIte, Nat.reduceEqDiff, h21], by simp only [go_sem, reduceCtorEq, reduceIte, Nat.reduceEqDiff, h22], by simp only [go_sem, reduceCtorEq, reduceIte, Nat.reduceEqDiff, h8], by simp only [go_sem, reduceCtorEq, reduceIte, Nat.reduceEqDiff, h28], by simp only [go_sem, reduceCtorEq, reduceIte, Nat.reduceEqDiff, h29], (.inr (.inl ⟨rfl, by simp only [go_sem, reduceCtorEq, reduceIte, Nat.reduceEqDiff]⟩))⟩
      · simp only [go_sem, reduceCtorEq, reduceIte, Nat.reduceEqDiff, Nat.reduceAdd, Nat.reduceLeDiff, Nat.reduceMul, Int.reduceLT, Int.reduceLE, Int.reduceAdd, Int.reduceSub, Int.reduceMul, Int.reduceNeg, Int.reduceToNat, Int.reduceEq, h2, h3, h6, h20, h21, h22, h8, h28, h29, h30, b2, b3, b6, b8, b28, q1, q2, q3, q4, q5, q6, q7, w1, u1, u2, u3, ux, u28, hlt]
        exact ⟨1, by omega, rfl, nn, by rw [Hp.upd_ne' q7.1, Hp.upd_ne' q5.1]; exact f20, by rw [Hp.upd_ne' u28.1, Hp.upd_ne' q6.1]; exact f28, by rw [Hp.upd_ne' ux.1, Hp.upd_ne' q4.1]; exact fx, ⟨_, _, (c.new hMy).new hMw⟩, by simp only [go_sem, reduceCtorEq, reduceIte, Nat.reduceEqDiff, h2], by simp only [go_sem, reduceCtorEq, reduceIte, Nat.reduceEqDiff, h3], by simp only [go_sem, reduceCtorEq, reduceIte, Nat.reduceEqDiff, h6], by simp only [go_sem, reduceCtorEq, reduceIte, Nat.reduceEqDiff, h20], by simp only [go_sem, reduceCtorEq, reduceIte, Nat.reduceEqDiff, h21], by simp only [go_sem, reduceCtorEq, reduceIte, Nat.reduceEqDiff, h22], by simp only [go_sem, reduceCtorEq, reduceIte, Nat.reduceEqDiff, h8], by simp only [go_sem, reduceCtorEq, reduceIte, Nat.reduceEqDiff, h28], by simp only [go_sem, reduceCtorEq, reduceIte, Nat.reduceEqDiff, h29], (.inr (.inl ⟨rfl, by simp only [go_sem, reduceCtorEq, reduceIte, Nat.reduceEqDiff]⟩))⟩
    · simp only [go_sem, reduceCtorEq, reduceIte, Nat.reduceEqDiff, Nat.reduceAdd, Nat.reduceLeDiff, Nat.reduceMul, Int.reduceLT, Int.reduceLE, Int.reduceAdd, Int.reduceSub, Int.reduceMul, Int.reduceNeg, Int.reduceToNat, Int.reduceEq, h2, h3, h6, h20, h21, h22, h8, h28, h29, h30, b2, b3, b6, b8, b28]
      intro ry hFy hMy
      have q1 := ne_of_none hMy c.fa
      have q2 := ne_of_none hMy c.fb
      have q3 := ne_of_none hMy c.fz
      have q4 := ne_of_none hMy fx
      have q5 := ne_of_none hMy f20
      have q6 := ne_of_none hMy f28
      simp only [go_sem, reduceCtorEq, reduceIte, Nat.reduceEqDiff, Nat.reduceAdd, Nat.reduceLeDiff, Nat.reduceMul, Int.reduceLT, Int.reduceLE, Int.reduceAdd, Int.reduceSub, Int.reduceMul, Int.reduceNeg, Int.reduceToNat, Int.reduceEq, h2, h3, h6, h20, h21, h22, h8, h28, h29, h30, b2, b3, b6, b8, b28, q1, q2, q3, q4, q5, q6]
      intro rw' hFw hMw
      have w1 := fresh_of hMw
      have u1 := ne_of_none w1.2.2 c.fa
      have u2 := ne_of_none w1.2.2 c.fb
      have u3 := ne_of_none w1.2.2 c.fz
      have ux := ne_of_none w1.2.2 fx
      have q7 := ne_of_none w1.2.2 f20
      have u28 := ne_of_none w1.2.2 f28
      have hz : (V.mk a.w false a.low b.high 0 0).In := span_in ha hx hb hxw hw
      simp only [go_sem, reduceCtorEq, reduceIte, Nat.reduceEqDiff, Nat.reduceAdd, Nat.reduceLeDiff, Nat.reduceMul, Int.reduceLT, Int.reduceLE, Int.reduceAdd, Int.reduceSub, Int.reduceMul, Int.reduceNeg, Int.reduceToNat, Int.reduceEq, h2, h3, h6, h20, h21, h22, h8, h28, h29, h30, b2, b3, b6, b8, b28, q1, q2, q3, q4, q5, q6, q7, w1, u1, u2, u3, ux, u28]
      refine callK_same (k152 _ _ a (V.mk a.w false a.low b.high 0 0) ha hz) ?_
      cases i1 : a.inside (V.mk a.w false a.low b.high 0 0)
      · simp only [go_sem, reduceCtorEq, reduceIte, Nat.reduceEqDiff, Nat.reduceAdd, Nat.reduceLeDiff, Nat.reduceMul, Int.reduceLT, Int.reduceLE, Int.reduceAdd, Int.reduceSub, Int.reduceMul, Int.reduceNeg, Int.reduceToNat, Int.reduceEq, h2, h3, h6, h20, h21, h22, h8, h28, h29, h30, b2, b3, b6, b8, b28, q1, q2, q3, q4, q5, q6, q7, w1, u1, u2, u3, ux, u28]
        exact ⟨0, by omega, rfl, nn, by rw [Hp.upd_ne' q7.1, Hp.upd_ne' q5.1]; exact f20, by rw [Hp.upd_ne' u28.1, Hp.upd_ne' q6.1]; exact f28, by rw [Hp.upd_ne' ux.1, Hp.upd_ne' q4.1]; exact fx, ⟨_, _, (c.new hMy).new hMw⟩, by simp only [go_sem, reduceCtorEq, reduceIte, Nat.reduceEqDiff, h2], by simp only [go_sem, reduceCtorEq, reduceIte, Nat.reduceEqDiff, h3], by simp only [go_sem, reduceCtorEq, reduceIte, Nat.reduceEqDiff, h6], by simp only [go_sem, reduceCtorEq, reduceIte, Nat.reduceEqDiff, h20], by simp only [go_sem, reduceCtorEq, reduceIte, Nat.reduceEqDiff, h21], by simp only [go_sem, reduceCtorEq, reduceIte, Nat.reduceEqDiff, h22], by simp only [go_sem, reduceCtorEq, reduceIte, Nat.reduceEqDiff, h8], by simp only [go_sem, reduceCtorEq, reduceIte, Nat.reduceEqDiff, h28], by simp only [go_sem, reduceCtorEq, reduceIte, Nat.reduceEqDiff, h29], (.inr (.inr ⟨rfl, by simp only [go_sem, reduceCtorEq, reduceIte, Nat.reduceEqDiff]⟩))⟩
      simp only [go_sem, reduceCtorEq, reduceIte, Nat.reduceEqDiff, Nat.reduceAdd, Nat.reduceLeDiff, Nat.reduceMul, Int.reduceLT, Int.reduceLE, Int.reduceAdd, Int.reduceSub, Int.reduceMul, Int.reduceNeg, Int.reduceToNat, Int.reduceEq, h2, h3, h6, h20, h21, h22, h8, h28, h29, h30, b2, b3, b6, b8, b28, q1, q2, q3, q4, q5, q6, q7, w1, u1, u2, u3, ux, u28]
      refine callK_same (k152 _ _ b (V.mk a.w false a.low b.high 0 0) hb hz) ?_
      cases i2 : b.inside (V.mk a.w false a.low b.high 0 0)
      · simp only [go_sem, reduceCtorEq, reduceIte, Nat.reduceEqDiff, Nat.reduceAdd, Nat.reduceLeDiff, Nat.reduceMul, Int.reduceLT, Int.reduceLE, Int.reduceAdd, Int.reduceSub, Int.reduceMul, Int.reduceNeg, Int.reduceToNat, Int.reduceEq, h2, h3, h6, h20, h21, h22, h8, h28, h29, h30, b2, b3, b6, b8, b28, q1, q2, q3, q4, q5, q6, q7, w1, u1, u2, u3, ux, u28]
        exact ⟨0, by omega, rfl, nn, by rw [Hp.upd_ne' q7.1, Hp.upd_ne' q5.1]; exact f20, by rw [Hp.upd_ne' u28.1, Hp.upd_ne' q6.1]; exact f28, by rw [Hp.upd_ne' ux.1, Hp.upd_ne' q4.1]; exact fx, ⟨_, _, (c.new hMy).new hMw⟩, by simp only [go_sem, reduceCtorEq, reduceIte, Nat.reduceEqDiff, h2], by simp only [go_sem, reduceCtorEq, reduceIte, Nat.reduceEqDiff, h3], by simp only [go_sem, reduceCtorEq, reduceIte, Nat.reduceEqDiff, h6], by simp only [go_sem, reduceCtorEq, reduceIte, Nat.reduceEqDiff, h20], by simp only [go_sem, reduceCtorEq, reduceIte, Nat.reduceEqDiff, h21], by simp only [go_sem, reduceCtorEq, reduceIte, Nat.reduceEqDiff, h22], by simp only [go_sem, reduceCtorEq, reduceIte, Nat.reduceEqDiff, h8], by simp only [go_sem, reduceCtorEq, reduceIte, Nat.reduceEqDiff, h28], by simp only [go_sem, reduceCtorEq, reduceIte, Nat.reduceEqDiff, h29], (.inr (.inr ⟨rfl, by simp only [go_sem, reduceCtorEq, reduceIte, Nat.reduceEqDiff]⟩))⟩
      simp only [go_sem, reduceCtorEq, reduceIte, Nat.reduceEqDiff, Nat.reduceAdd, Nat.reduceLeDiff, Nat.reduceMul, Int.reduceLT, Int.reduceLE, Int.reduceAdd, Int.reduceSub, Int.reduceMul, Int.reduceNeg, Int.reduceToNat, Int.reduceEq, h2, h3, h6, h20, h21, h22, h8, h28, h29, h30, b2, b3, b6, b8, b28, q1, q2, q3, q4, q5, q6, q7, w1, u1, u2, u3, ux, u28]
      refine callK_same (k160 _ _ _ hz) ?_
      simp only [go_sem, reduceCtorEq, reduceIte, Nat.reduceEqDiff, Nat.reduceAdd, Nat.reduceLeDiff, Nat.reduceMul, Int.reduceLT, Int.reduceLE, Int.reduceAdd, Int.reduceSub, Int.reduceMul, Int.reduceNeg, Int.reduceToNat, Int.reduceEq, h2, h3, h6, h20, h21, h22, h8, h28, h29, h30, b2, b3, b6, b8, b28, q1, q2, q3, q4, q5, q6, q7, w1, u1, u2, u3, ux, u28]
      refine callK_same (k160 _ _ _ c.cov.1) ?_
      by_cases hlt : (V.mk a.w false a.low b.high 0 0).len < (V.mk a.w false l h 0 0).len
      · simp only [go_sem, reduceCtorEq, reduceIte, Nat.reduceEqDiff, Nat.reduceAdd, Nat.reduceLeDiff, Nat.reduceMul, Int.reduceLT, Int.reduceLE, Int.reduceAdd, Int.reduceSub, Int.reduceMul, Int.reduceNeg, Int.reduceToNat, Int.reduceEq, h2, h3, h6, h20, h21, h22, h8, h28, h29, h30, b2, b3, b6, b8, b28, q1, q2, q3, q4, q5, q6, q7, w1, u1, u2, u3, ux, u28, hlt, c.fz]
        exact ⟨0, by omega, rfl, nn, by rw [Hp.upd_ne' q7.1, Hp.upd_ne' q5.1, setH, Hp.upd_ne' nn.1]; exact f20, by rw [Hp.upd_ne' u28.1, Hp.upd_ne' q6.1, setH, Hp.upd_ne' nn.2.1]; exact f28, by rw [Hp.upd_ne' ux.1, Hp.upd_ne' q4.1, setH, Hp.upd_ne' nn.2.2]; exact fx, ⟨_, _, ((c.set ⟨hz, i1, i2⟩).new (by rw [upd_none]; exact ⟨q3.2, hMy⟩)).new (by rw [upd_none, upd_none]; exact ⟨w1.1, u3.2, w1.2.2⟩)⟩, by simp only [go_sem, reduceCtorEq, reduceIte, Nat.reduceEqDiff, h2], by simp only [go_sem, reduceCtorEq, reduceIte, Nat.reduceEqDiff, h3], by simp only [go_sem, reduceCtorEq, reduceIte, Nat.reduceEqDiff, h6], by simp only [go_sem, reduceCtorEq, reduceIte, Nat.reduceEqDiff, h20], by simp only [go_sem, reduceCtorEq, reduceIte, Nat.reduceEqDiff, h21], by simp only [go_sem, reduceCtorEq, reduceIte, Nat.reduceEqDiff, h22], by simp only [go_sem, reduceCtorEq, reduceIte, Nat.reduceEqDiff, h8], by simp only [go_sem, reduceCtorEq, reduceIte, Nat.reduceEqDiff, h28], by simp only [go_sem, reduceCtorEq, reduceIte, Nat.reduceEqDiff, h29], (.inr (.inr ⟨rfl, by simp only [go_sem, reduceCtorEq, reduceIte, Nat.reduceEqDiff]⟩))⟩
      · simp only [go_sem, reduceCtorEq, reduceIte, Nat.reduceEqDiff, Nat.reduceAdd, Nat.reduceLeDiff, Nat.reduceMul, Int.reduceLT, Int.reduceLE, Int.reduceAdd, Int.reduceSub, Int.reduceMul, Int.reduceNeg, Int.reduceToNat, Int.reduceEq, h2, h3, h6, h20, h21, h22, h8, h28, h29, h30, b2, b3, b6, b8, b28, q1, q2, q3, q4, q5, q6, q7, w1, u1, u2, u3, ux, u28, hlt]
        exact ⟨0, by omega, rfl, nn, by rw [Hp.upd_ne' q7.1, Hp.upd_ne' q5.1]; exact f20, by rw [Hp.upd_ne' u28.1, Hp.upd_ne' q6.1]; exact f28, by rw [Hp.upd_ne' ux.1, Hp.upd_ne' q4.1]; exact fx, ⟨_, _, (c.new hMy).new hMw⟩, by simp only [go_sem, reduceCtorEq, reduceIte, Nat.reduceEqDiff, h2], by simp only [go_sem, reduceCtorEq, reduceIte, Nat.reduceEqDiff, h3], by simp only [go_sem, reduceCtorEq, reduceIte, Nat.reduceEqDiff, h6], by simp only [go_sem, reduceCtorEq, reduceIte, Nat.reduceEqDiff, h20], by simp only [go_sem, reduceCtorEq, reduceIte, Nat.reduceEqDiff, h21], by simp only [go_sem, reduceCtorEq, reduceIte, Nat.reduceEqDiff, h22], by simp only [go_sem, reduceCtorEq, reduceIte, Nat.reduceEqDiff, h8], by simp only [go_sem, reduceCtorEq, reduceIte, Nat.reduceEqDiff, h28], by simp only [go_sem, reduceCtorEq, reduceIte, Nat.reduceEqDiff, h29], (.inr (.inr ⟨rfl, by simp only [go_sem, reduceCtorEq, reduceIte, Nat.reduceEqDiff]⟩))⟩
    · simp only [go_sem, reduceCtorEq, reduceIte, Nat.reduceEqDiff, Nat.reduceAdd, Nat.reduceLeDiff, Nat.reduceMul, Int.reduceLT, Int.reduceLE, Int.reduceAdd, Int.reduceSub, Int.reduceMul, Int.reduceNeg, Int.reduceToNat, Int.reduceEq, h2, h3, h6, h20, h21, h22, h8, h28, h29, h30]
      exact ⟨1, by omega, rfl, nn.1, f20, ⟨_, _, c⟩, by simp only [go_sem, reduceCtorEq, reduceIte, Nat.reduceEqDiff, h2], by simp only [go_sem, reduceCtorEq, reduceIte, Nat.reduceEqDiff, h3], by simp only [go_sem, reduceCtorEq, reduceIte, Nat.reduceEqDiff, h6], by simp only [go_sem, reduceCtorEq, reduceIte, Nat.reduceEqDiff, h20], by simp only [go_sem, reduceCtorEq, reduceIte, Nat.reduceEqDiff, h21], .inr (.inl ⟨rfl, by simp only [go_sem, reduceCtorEq, reduceIte, Nat.reduceEqDiff]⟩)⟩
  · simp only [go_sem, reduceCtorEq, reduceIte, Nat.reduceEqDiff, Nat.reduceAdd, Nat.reduceLeDiff, Nat.reduceMul, Int.reduceLT, Int.reduceLE, Int.reduceAdd, Int.reduceSub, Int.reduceMul, Int.reduceNeg, Int.reduceToNat, Int.reduceEq, h2, h3, h6, h20, h21, h22, b2, b3, b6, b20]
    intro rx hFx hMx
    have o1 := ne_of_none hMx c.fa
    have o2 := ne_of_none hMx c.fb
    have o3 := ne_of_none hMx c.fz
    have o4 := ne_of_none hMx f20
    simp only [go_sem, reduceCtorEq, reduceIte, Nat.reduceEqDiff, Nat.reduceAdd, Nat.reduceLeDiff, Nat.reduceMul, Int.reduceLT, Int.reduceLE, Int.reduceAdd, Int.reduceSub, Int.reduceMul, Int.reduceNeg, Int.reduceToNat, Int.reduceEq, h2, h3, h6, h20, h21, h22, o1, o2, o3, o4, b2, b3, b6, b20]
    intro r28 hF28 hM28
    have p1 := fresh_of hM28
    have p4 := ne_of_none p1.2.2 f20
    have p3 := ne_of_none p1.2.2 c.fz
    simp only [go_sem, reduceCtorEq, reduceIte, Nat.reduceEqDiff, Nat.reduceAdd, Nat.reduceLeDiff, Nat.reduceMul, Int.reduceLT, Int.reduceLE, Int.reduceAdd, Int.reduceSub, Int.reduceMul, Int.reduceNeg, Int.reduceToNat, Int.reduceEq, h2, h3, h6, h20, h21, h22, o1, o2, o3, o4, p1, p3, p4, b2, b3, b6, b20]
    refine loop_of (inI a b b 1 F' M ra rb rz r20 rx r28) 2 ?_ ?_
    · exact ⟨rfl, ⟨n20, p3.2, o3.2⟩, by rw [Hp.upd_ne' p4.1, Hp.upd_ne' o4.1]; exact f20, Hp.upd_same _ _ _, by rw [Hp.upd_ne' p1.2.1]; exact Hp.upd_same _ _ _, ⟨_, _, (c.new hMx).new hM28⟩,
        by simp only [go_sem, reduceCtorEq, reduceIte, Nat.reduceEqDiff, h2], by simp only [go_sem, reduceCtorEq, reduceIte, Nat.reduceEqDiff, h3], by simp only [go_sem, reduceCtorEq, reduceIte, Nat.reduceEqDiff, h6], by simp only [go_sem, reduceCtorEq, reduceIte, Nat.reduceEqDiff, h20], by simp only [go_sem, reduceCtorEq, reduceIte, Nat.reduceEqDiff, h21], by simp only [go_sem, reduceCtorEq, reduceIte, Nat.reduceEqDiff, h22], by simp only [go_sem, reduceCtorEq, reduceIte, Nat.reduceEqDiff], by simp only [go_sem, reduceCtorEq, reduceIte, Nat.reduceEqDiff], by simp only [go_sem, reduceCtorEq, reduceIte, Nat.reduceEqDiff], .inl ⟨rfl, by simp only [go_sem, reduceCtorEq, reduceIte, Nat.reduceEqDiff]⟩⟩
    have hx : b.In := hb
    have hxw : b.w = a.w := hw
    clear h2 h3 h6 h20 h21 h22 b2 b3 b6 b20 f20 hM28 p1 p3 p4 o1 o2 o3 o4 hMx
    clear c
    clear l h
    clear hFx hF28
    rintro m σ F'' M'' ⟨rfl, nn, f20, f28, fx, ⟨l, h, c⟩, h2, h3, h6, h20, h21, h22, h8, h28, h29, h30⟩
    have b2 := blk_M (F := F'') c.fa
    have b3 := blk_M (F := F'') c.fb
    have b6 := blk_M (F := F'') c.fz
    have b8 := blk_M (F := F'') fx
    have b28 := blk_M (F := F'') f28
    rcases h30 with ⟨rfl, h30⟩ | ⟨rfl, h30⟩ | ⟨rfl, h30⟩
    · simp only [go_sem, reduceCtorEq, reduceIte, Nat.reduceEqDiff, Nat.reduceAdd, Nat.reduceLeDiff, Nat.reduceMul, Int.reduceLT, Int.reduceLE, Int.reduceAdd, Int.reduceSub, Int.reduceMul, Int.reduceNeg, Int.reduceToNat, Int.reduceEq, h2, h3, h6, h20, h21, h22, h8, h28, h29, h30, b2, b3, b6, b8, b28]
      intro ry hFy hMy
      have q1 := ne_of_none hMy c.fa
      have q2 := ne_of_none hMy c.fb
      have q3 := ne_of_none hMy c.fz
      have q4 := ne_of_none hMy fx
      have q5 := ne_of_none hMy f20
      have q6 := ne_of_none hMy f28
      simp only [go_sem, reduceCtorEq, reduceIte, Nat.reduceEqDiff, Nat.reduceAdd, Nat.reduceLeDiff, Nat.reduceMul, Int.reduceLT, Int.reduceLE, Int.reduceAdd, Int.reduceSub, Int.reduceMul, Int.reduceNeg, Int.reduceToNat, Int.reduceEq, h2, h3, h6, h20, h21, h22, h8, h28, h29, h30, b2, b3, b6, b8, b28, q1, q2, q3, q4, q5, q6]
      intro rw' hFw hMw
      have w1 := fresh_of hMw
      have u1 := ne_of_none w1.2.2 c.fa
      have u2 := ne_of_none w1.2.2 c.fb
      have u3 := ne_of_none w1.2.2 c.fz
      have ux := ne_of_none w1.2.2 fx
      have q7 := ne_of_none w1.2.2 f20
      have u28 := ne_of_none w1.2.2 f28
      have hz : (V.mk a.w false b.low a.high 0 0).In := span_in ha hx ha hxw rfl
      simp only [go_sem, reduceCtorEq, reduceIte, Nat.reduceEqDiff, Nat.reduceAdd, Nat.reduceLeDiff, Nat.reduceMul, Int.reduceLT, Int.reduceLE, Int.reduceAdd, Int.reduceSub, Int.reduceMul, Int.reduceNeg, Int.reduceToNat, Int.reduceEq, h2, h3, h6, h20, h21, h22, h8, h28, h29, h30, b2, b3, b6, b8, b28, q1, q2, q3, q4, q5, q6, q7, w1, u1, u2, u3, ux, u28]
      refine callK_same (k152 _ _ a (V.mk a.w false b.low a.high 0 0) ha hz) ?_
      cases i1 : a.inside (V.mk a.w false b.low a.high 0 0)
      · simp only [go_sem, reduceCtorEq, reduceIte, Nat.reduceEqDiff, Nat.reduceAdd, Nat.reduceLeDiff, Nat.reduceMul, Int.reduceLT, Int.reduceLE, Int.reduceAdd, Int.reduceSub, Int.reduceMul, Int.reduceNeg, Int.reduceToNat, Int.reduceEq, h2, h3, h6, h20, h21, h22, h8, h28, h29, h30, b2, b3, b6, b8, b28, q1, q2, q3, q4, q5, q6, q7, w1, u1, u2, u3, ux, u28]
        exact ⟨1, by omega, rfl, nn, by rw [Hp.upd_ne' q7.1, Hp.upd_ne' q5.1]; exact f20, by rw [Hp.upd_ne' u28.1, Hp.upd_ne' q6.1]; exact f28, by rw [Hp.upd_ne' ux.1, Hp.upd_ne' q4.1]; exact fx, ⟨_, _, (c.new hMy).new hMw⟩, by simp only [go_sem, reduceCtorEq, reduceIte, Nat.reduceEqDiff, h2], by simp only [go_sem, reduceCtorEq, reduceIte, Nat.reduceEqDiff, h3], by simp only [go_sem, reduceCtorEq, reduceIte, Nat.reduceEqDiff, h6], by simp only [go_sem, reduceCtorEq, reduceIte, Nat.reduceEqDiff, h20], by simp only [go_sem, reduceCtorEq, reduceIte, Nat.reduceEqDiff, h21], by simp only [go_sem, reduceCtorEq, reduceIte, Nat.reduceEqDiff, h22], by simp only [go_sem, reduceCtorEq, reduceIte, Nat.reduceEqDiff, h8], by simp only [go_sem, reduceCtorEq, reduceIte, Nat.reduceEqDiff, h28], by simp only [go_sem, reduceCtorEq, reduceIte, Nat.reduceEqDiff, h29], (.inr (.inl ⟨rfl, by simp only [go_sem, reduceCtorEq, reduceIte, Nat.reduceEqDiff]⟩))⟩
      simp only [go_sem, reduceCtorEq, reduceIte, Nat.reduceEqDiff, Nat.reduceAdd, Nat.reduceLeDiff, Nat.reduceMul, Int.reduceLT, Int.reduceLE, Int.reduceAdd, Int.reduceSub, Int.reduceMul, Int.reduceNeg, Int.reduceToNat, Int.reduceEq, h2, h3, h6, h20, h21, h22, h8, h28, h29, h30, b2, b3, b6, b8, b28, q1, q2, q3, q4, q5, q6, q7, w1, u1, u2, u3, ux, u28]
      refine callK_same (k152 _ _ b (V.mk a.w false b.low a.high 0 0) hb hz) ?_
      cases i2 : b.inside (V.mk a.w false b.low a.high 0 0)
      · simp only [go_sem, reduceCtorEq, reduceIte, Nat.reduceEqDiff, Nat.reduceAdd, Nat.reduceLeDiff, Nat.reduceMul, Int.reduceLT, Int.reduceLE, Int.reduceAdd, Int.reduceSub, Int.reduceMul, Int.reduceNeg, Int.reduceToNat, Int.reduceEq, h2, h3, h6, h20, h21, h22, h8, h28, h29, h30, b2, b3, b6, b8, b28, q1, q2, q3, q4, q5, q6, q7, w1, u1, u2, u3, ux, u28]
        exact ⟨1, by omega, rfl, nn, by rw [Hp.upd_ne' q7.1, Hp.upd_ne' q5.1]; exact f20, by rw [Hp.upd_ne' u28.1, Hp.upd_ne' q6.1]; exact f28, by rw [Hp.upd_ne' ux.1, Hp.upd_ne' q4.1]; exact fx, ⟨_, _, (c.new hMy).new hMw⟩, by simp only [go_sem, reduceCtorEq, reduceIte, Nat.reduceEqDiff, h2], by simp only [go_sem, reduceCtorEq, reduceIte, Nat.reduceEqDiff, h3], by simp only [go_sem, reduceCtorEq, reduceIte, Nat.reduceEqDiff, h6], by simp only [go_sem, reduceCtorEq, reduceIte, Nat.reduceEqDiff, h20], by simp only [go_sem, reduceCtorEq, reduceIte, Nat.reduceEqDiff, h21], by simp only [go_sem, reduceCtorEq, reduceIte, Nat.reduceEqDiff, h22], by simp only [go_sem, reduceCtorEq, reduceIte, Nat.reduceEqDiff, h8], by simp only [go_sem, reduceCtorEq, reduceIte, Nat.reduceEqDiff, h28], by simp only [go_sem, reduceCtorEq, reduceIte, Nat.reduceEqDiff, h29], (.inr (.inl ⟨rfl, by simp only [go_sem, reduceCtorEq, reduceIte, Nat.reduceEqDiff]⟩))⟩
      simp only [go_sem, reduceCtorEq, reduceIte, Nat.reduceEqDiff, Nat.reduceAdd, Nat.reduceLeDiff, Nat.reduceMul, Int.reduceLT, Int.reduceLE, Int.reduceAdd, Int.reduceSub, Int.reduceMul, Int.reduceNeg, Int.reduceToNat, Int.reduceEq, h2, h3, h6, h20, h21, h22, h8, h28, h29, h30, b2, b3, b6, b8, b28, q1, q2, q3, q4, q5, q6, q7, w1, u1, u2, u3, ux, u28]
      refine callK_same (k160 _ _ _ hz) ?_
      simp only [go_sem, reduceCtorEq, reduceIte, Nat.reduceEqDiff, Nat.reduceAdd, Nat.reduceLeDiff, Nat.reduceMul, Int.reduceLT, Int.reduceLE, Int.reduceAdd, Int.reduceSub, Int.reduceMul, Int.reduceNeg, Int.reduceToNat, Int.reduceEq, h2, h3, h6, h20, h21, h22, h8, h28, h29, h30, b2, b3, b6, b8, b28, q1, q2, q3, q4, q5, q6, q7, w1, u1, u2, u3, ux, u28]
      refine callK_same (k160 _ _ _ c.cov.1) ?_
      by_cases hlt : (V.mk a.w false b.low a.high 0 0).len < (V.mk a.w false l h 0 0).len
      · simp only [go_sem, reduceCtorEq, reduceIte, Nat.reduceEqDiff, Nat.reduceAdd, Nat.reduceLeDiff, Nat.reduceMul, Int.reduceLT, Int.reduceLE, Int.reduceAdd, Int.reduceSub, Int.reduceMul, Int.reduceNeg, Int.reduceToNat, Int.reduceEq, h2, h3, h6, h20, h21, h22, h8, h28, h29, h30, b2, b3, b6, b8, b28, q1, q2, q3, q4, q5, q6, q7, w1, u1, u2, u3, ux, u28, hlt, c.fz]
        exact ⟨1, by omega, rfl, nn, by rw [Hp.upd_ne' q7.1, Hp.upd_ne' q5.1, setH, Hp.upd_ne' nn.1]; exact f20, by rw [Hp.upd_ne' u28.1, Hp.upd_ne' q6.1, setH, Hp.upd_ne' nn.2.1]; exact f28, by rw [Hp.upd_ne' ux.1, Hp.upd_ne' q4.1, setH, Hp.upd_ne' nn.2.2]; exact fx, ⟨_, _, ((c.set ⟨hz, i1, i2⟩).new (by rw [upd_none]; exact ⟨q3.2, hMy⟩)).new (by rw [upd_none, upd_none]; exact ⟨w1.1, u3.2, w1.2.2⟩)⟩, by simp only [go_sem, reduceCtorEq, reduceIte, Nat.reduceEqDiff, h2], by simp only [go_sem, reduceCtorEq, reduceIte, Nat.reduceEqDiff, h3], by simp only [go_sem, reduceCtorEq, reduceIte, Nat.reduceEqDiff, h6], by simp only [go_sem, reduceCtorEq, reduceIte, Nat.reduceEqDiff, h20], by simp only [go_sem, reduceCtorEq, reduceIte, Nat.reduceEqDiff, h21], by simp only [go_sem, reduceCtorEq, reduceIte, Nat.reduceEqDiff, h22], by simp only [go_sem, reduceCtorEq, reduceIte, Nat.reduceEqDiff, h8], by simp only [go_sem, reduceCtorEq, reduceIte, Nat.reduceEqDiff, h28], by simp only [go_sem, reduceCtorEq, reduceIte, Nat.reduceEqDiff, h29], (.inr (.inl ⟨rfl, by simp only [go_sem, reduceCtorEq, reduceIte, Nat.reduceEqDiff]⟩))⟩
      · simp only [go_sem, reduceCtorEq, reduceIte, Nat.reduceEqDiff, Nat.reduceAdd, Nat.reduceLeDiff, Nat.reduceMul, Int.reduceLT, Int.reduceLE, Int.reduceAdd, Int.reduceSub, Int.reduceMul, Int.reduceNeg, Int.reduceToNat, Int.reduceEq, h2, h3, h6, h20, h21, h22, h8, h28, h29, h30, b2, b3, b6, b8, b28, q1, q2, q3, q4, q5, q6, q7, w1, u1, u2, u3, ux, u28, hlt]
        exact ⟨1, by omega, rfl, nn, by rw [Hp.upd_ne' q7.1, Hp.upd_ne' q5.1]; exact f20, by rw [Hp.upd_ne' u28.1, Hp.upd_ne' q6.1]; exact f28, by rw [Hp.upd_ne' ux.1, Hp.upd_ne' q4.1]; exact fx, ⟨_, _, (c.new hMy).new hMw⟩, by simp only [go_sem, reduceCtorEq, reduceIte, Nat.reduceEqDiff, h2], by simp only [go_sem, reduceCtorEq, reduceIte, Nat.reduceEqDiff, h3], by simp only [go_sem, reduceCtorEq, reduceIte, Nat.reduceEqDiff, h6], by simp only [go_sem, reduceCtorEq, reduceIte, Nat.reduceEqDiff, h20], by simp only [go_sem, reduceCtorEq, reduceIte, Nat.reduceEqDiff, h21], by simp only [go_sem, reduceCtorEq, reduceIte, Nat.reduceEqDiff, h22], by simp only [go_sem, reduceCtorEq, reduceIte, Nat.reduceEqDiff, h8], by simp only [go_sem, reduceCtorEq, reduceIte, Nat.reduceEqDiff, h28], by simp only [go_sem, reduceCtorEq, reduceIte, Nat.reduceEqDiff, h29], (.inr (.inl ⟨rfl, by simp only [go_sem, reduceCtorEq, reduceIte, Nat.reduceEqDiff]⟩))⟩
    · simp only [go_sem, reduceCtorEq, reduceIte, Nat.reduceEqDiff, Nat.reduceAdd, Nat.reduceLeDiff, Nat.reduceMul, Int.reduceLT, Int.reduceLE, Int.reduceAdd, Int.reduceSub, Int.reduceMul, Int.reduceNeg, Int.reduceToNat, Int.reduceEq, h2, h3, h6, h20, h21, h22, h8, h28, h29, h30, b2, b3, b6, b8, b28]
      intro ry hFy hMy
      have q1 := ne_of_none hMy c.fa
      have q2 := ne_of_none hMy c.fb
      have q3 := ne_of_none hMy c.fz
      have q4 := ne_of_none hMy fx
      have q5 := ne_of_none hMy f20
      have q6 := ne_of_none hMy f28
      simp only [go_sem, reduceCtorEq, reduceIte, Nat.reduceEqDiff, Nat.reduceAdd, Nat.reduceLeDiff, Nat.reduceMul, Int.reduceLT, Int.reduceLE, Int.reduceAdd, Int.reduceSub, Int.reduceMul, Int.reduceNeg, Int.reduceToNat, Int.reduceEq, h2, h3, h6, h20, h21, h22, h8, h28, h29, h30, b2, b3, b6, b8, b28, q1, q2, q3, q4, q5, q6]
      intro rw' hFw hMw
      have w1 := fresh_of hMw
      have u1 := ne_of_none w1.2.2 c.fa
      have u2 := ne_of_none w1.2.2 c.fb
      have u3 := ne_of_none w1.2.2 c.fz
      have ux := ne_of_none w1.2.2 fx
      have q7 := ne_of_none w1.2.2 f20
      have u28 := ne_of_none w1.2.2 f28
      have hz : (V.mk a.w false b.low b.high 0 0).In := span_in ha hx hb hxw hw
      simp only [go_sem, reduceCtorEq, reduceIte, Nat.reduceEqDiff, Nat.reduceAdd, Nat.reduceLeDiff, Nat.reduceMul, Int.reduceLT, Int.reduceLE, Int.reduceAdd, Int.reduceSub, Int.reduceMul, Int.reduceNeg, Int.reduceToNat, Int.reduceEq, h2, h3, h6, h20, h21, h22, h8, h28, h29, h30, b2, b3, b6, b8, b28, q1, q2, q3, q4, q5, q6, q7, w1, u1, u2, u3, ux, u28]
      refine callK_same (k152 _ _ a (V.mk a.w false b.low b.high 0 0) ha hz) ?_
      cases i1 : a.inside (V.mk a.w false b.low b.high 0 0)
      · simp only [go_sem, reduceCtorEq, reduceIte, Nat.reduceEqDiff, Nat.reduceAdd, Nat.reduceLeDiff, Nat.reduceMul, Int.reduceLT, Int.reduceLE, Int.reduceAdd, Int.reduceSub, Int.reduceMul, Int.reduceNeg, Int.reduceToNat, Int.reduceEq, h2, h3, h6, h20, h21, h22, h8, h28, h29, h30, b2, b3, b6, b8, b28, q1, q2, q3, q4, q5, q6, q7, w1, u1, u2, u3, ux, u28]
        exact ⟨0, by omega, rfl, nn, by rw [Hp.upd_ne' q7.1, Hp.upd_ne' q5.1]; exact f20, by rw [Hp.upd_ne' u28.1, Hp.upd_ne' q6.1]; exact f28, by rw [Hp.upd_ne' ux.1, Hp.upd_ne' q4.1]; exact fx, ⟨_, _, (c.new hMy).new hMw⟩, by simp only [go_sem, reduceCtorEq, reduceIte, Nat.reduceEqDiff, h2], by simp only [go_sem, reduceCtorEq, reduceIte, Nat.reduceEqDiff, h3], by simp only [go_sem, reduceCtorEq, reduceIte, Nat.reduceEqDiff, h6], by simp only [go_sem, reduceCtorEq, reduceIte, Nat.reduceEqDiff, h20], by simp only [go_sem, reduceCtorEq, reduceIte, Nat.reduceEqDiff, h21], by simp only [go_sem, reduceCtorEq, reduceIte, Nat.reduceEqDiff, h22], by simp only [go_sem, reduceCtorEq, reduceIte, Nat.reduceEqDiff, h8], by simp only [go_sem, reduceCtorEq, reduceIte, Nat.reduceEqDiff, h28], by simp only [go_sem, reduceCtorEq, reduceIte, Nat.reduceEqDiff, h29], (.inr (.inr ⟨rfl, by simp only [go_sem, reduceCtorEq, reduceIte, Nat.reduceEqDiff]⟩))⟩
      simp only [go_sem, reduceCtorEq, reduceIte, Nat.reduceEqDiff, Nat.reduceAdd, Nat.reduceLeDiff, Nat.reduceMul, Int.reduceLT, Int.reduceLE, Int.reduceAdd, Int.reduceSub, Int.reduceMul, Int.reduceNeg, Int.reduceToNat, Int.reduceEq, h2, h3, h6, h20, h21, h22, h8, h28, h29, h30, b2, b3, b6, b8, b28, q1, q2, q3, q4, q5, q6, q7, w1, u1, u2, u3, ux, u28]
      refine callK_same (k152 _ _ b (V.mk a.w false b.low b.high 0 0) hb hz) ?_
      cases i2 : b.inside (V.mk a.w false b.low b.high 0 0)
      · simp only [go_sem, reduceCtorEq, reduceIte, Nat.reduceEqDiff, Nat.reduceAdd, Nat.reduceLeDiff, Nat.reduceMul, Int.reduceLT, Int.reduceLE, Int.reduceAdd, Int.reduceSub, Int.reduceMul, Int.reduceNeg, Int.reduceToNat, Int.reduceEq, h2, h3, h6, h20, h21, h22, h8, h28, h29, h30, b2, b3, b6, b8, b28, q1, q2, q3, q4, q5, q6, q7, w1, u1, u2, u3, ux, u28]
        exact ⟨0, by omega, rfl, nn, by rw [Hp.upd_ne' q7.1, Hp.upd_ne' q5.1]; exact f20, by rw [Hp.upd_ne' u28.1, Hp.upd_ne' q6.1]; exact f28, by rw [Hp.upd_ne' ux.1, Hp.upd_ne' q4.1]; exact fx, ⟨_, _, (c.new hMy).new hMw⟩, by simp only [go_sem, reduceCtorEq, reduceIte, Nat.reduceEqDiff, h2], by simp only [go_sem, reduceCtorEq, reduceIte, Nat.reduceEqDiff, h3], by simp only [go_sem, reduceCtorEq, reduceIte, Nat.reduceEqDiff, h6], by simp only [go_sem, reduceCtorEq, reduceIte, Nat.reduceEqDiff, h20], by simp only [go_sem, reduceCtorEq, reduceIte, Nat.reduceEqDiff, h21], by simp only [go_sem, reduceCtorEq, reduceIte, Nat.reduceEqDiff, h22], by simp only [go_sem, reduceCtorEq, reduceIte, Nat.reduceEqDiff, h8], by simp only [go_sem, reduceCtorEq, reduceIte, Nat.reduceEqDiff, h28], by simp only [go_sem, reduceCtorEq, reduceIte, Nat.reduceEqDiff, h29], (.inr (.inr ⟨rfl, by simp only [go_sem, reduceCtorEq, reduceIte, Nat.reduceEqDiff]⟩))⟩
      simp only [go_sem, reduceCtorEq, reduceIte, Nat.reduceEqDiff, Nat.reduceAdd, Nat.reduceLeDiff, Nat.reduceMul, Int.reduceLT, Int.reduceLE, Int.reduceAdd, Int.reduceSub, Int.reduceMul, Int.reduceNeg, Int.reduceToNat, Int.reduceEq, h2, h3, h6, h20, h21, h22, h8, h28, h29, h30, b2, b3, b6, b8, b28, q1, q2, q3, q4, q5, q6, q7, w1, u1, u2, u3, ux, u28]
      refine callK_same (k160 _ _ _ hz) ?_
      simp only [go_sem, reduceCtorEq, reduceIte, Nat.reduceEqDiff, Nat.reduceAdd, Nat.reduceLeDiff, Nat.reduceMul, Int.reduceLT, Int.reduceLE, Int.reduceAdd, Int.reduceSub, Int.reduceMul, Int.reduceNeg, Int.reduceToNat, Int.reduceEq, h2, h3, h6, h20, h21, h22, h8, h28, h29, h30, b2, b3, b6, b8, b28, q1, q2, q3, q4, q5, q6, q7, w1, u1, u2, u3, ux, u28]
      refine callK_same (k160 _ _ _ c.cov.1) ?_
      by_cases hlt : (V.mk a.w false b.low b.high 0 0).len < (V.mk a.w false l h 0 0).len
      · simp only [go_sem, reduceCtorEq, reduceIte, Nat.reduceEqDiff, Nat.reduceAdd, Nat.reduceLeDiff, Nat.reduceMul, Int.reduceLT, Int.reduceLE, Int.reduceAdd, Int.reduceSub, Int.reduceMul, Int.reduceNeg, Int.reduceToNat, Int.reduceEq, h2, h3, h6, h20, h21, h22, h8, h28, h29, h30, b2, b3, b6, b8, b28, q1, q2, q3, q4, q5, q6, q7, w1, u1, u2, u3, ux, u28, hlt, c.fz]
        exact ⟨0, by omega, rfl, nn, by rw [Hp.upd_ne' q7.1, Hp.upd_ne' q5.1, setH, Hp.upd_ne' nn.1]; exact f20, by rw [Hp.upd_ne' u28.1, Hp.upd_ne' q6.1, setH, Hp.upd_ne' nn.2.1]; exact f28, by rw [Hp.upd_ne' ux.1, Hp.upd_ne' q4.1, setH, Hp.upd_ne' nn.2.2]; exact fx, ⟨_, _, ((c.set ⟨hz, i1, i2⟩).new (by rw [upd_none]; exact ⟨q3.2, hMy⟩)).new (by rw [upd_none, upd_none]; exact ⟨w1.1, u3.2, w1.2.2⟩)⟩, by simp only [go_sem, reduceCtorEq, reduceIte, Nat.reduceEqDiff, h2], by simp only [go_sem, reduceCtorEq, reduceIte, Nat.reduceEqDiff, h3], by simp only [go_sem, reduceCtorEq, reduceIte, Nat.reduceEqDiff, h6], by simp only [go_sem, reduceCtorEq, reduceIte, Nat.reduceEqDiff, h20], by simp only [go_sem, reduceCtorEq, reduceIte, Nat.reduceEqDiff, h21], by simp only [go_sem, reduceCtorEq, reduceIte, Nat.reduceEqDiff, h22], by simp only [go_sem, reduceCtorEq, reduceIte, Nat.reduceEqDiff, h8], by simp only [go_sem, reduceCtorEq, reduceIte, Nat.reduceEqDiff, h28], by simp only [go_sem, reduceCtorEq, reduceIte, Nat.reduceEqDiff, h29], (.inr (.inr ⟨rfl, by simp only [go_sem, reduceCtorEq, reduceIte, Nat.reduceEqDiff]⟩))⟩
      · simp only [go_sem, reduceCtorEq, reduceIte, Nat.reduceEqDiff, Nat.reduceAdd, Nat.reduceLeDiff, Nat.reduceMul, Int.reduceLT, Int.reduceLE, Int.reduceAdd, Int.reduceSub, Int.reduceMul, Int.reduceNeg, Int.reduceToNat, Int.reduceEq, h2, h3, h6, h20, h21, h22, h8, h28, h29, h30, b2, b3, b6, b8, b28, q1, q2, q3, q4, q5, q6, q7, w1, u1, u2, u3, ux, u28, hlt]
        exact ⟨0, by omega, rfl, nn, by rw [Hp.upd_ne' q7.1, Hp.upd_ne' q5.1]; exact f20, by rw [Hp.upd_ne' u28.1, Hp.upd_ne' q6.1]; exact f28, by rw [Hp.upd_ne' ux.1, Hp.upd_ne' q4.1]; exact fx, ⟨_, _, (c.new hMy).new hMw⟩, by simp only [go_sem, reduceCtorEq, reduceIte, Nat.reduceEqDiff, h2], by simp only [go_sem, reduceCtorEq, reduceIte, Nat.reduceEqDiff, h3], by simp only [go_sem, reduceCtorEq, reduceIte, Nat.reduceEqDiff, h6], by simp only [go_sem, reduceCtorEq, reduceIte, Nat.reduceEqDiff, h20], by simp only [go_sem, reduceCtorEq, reduceIte, Nat.reduceEqDiff, h21], by simp only [go_sem, reduceCtorEq, reduceIte, Nat.reduceEqDiff, h22], by simp only [go_sem, reduceCtorEq, reduceIte, Nat.reduceEqDiff, h8], by simp only [go_sem, reduceCtorEq, reduceIte, Nat.reduceEqDiff, h28], by simp only [go_sem, reduceCtorEq, reduceIte, Nat.reduceEqDiff, h29], (.inr (.inr ⟨rfl, by simp only [go_sem, reduceCtorEq, reduceIte, Nat.reduceEqDiff]⟩))⟩
    · simp only [go_sem, reduceCtorEq, reduceIte, Nat.reduceEqDiff, Nat.reduceAdd, Nat.reduceLeDiff, Nat.reduceMul, Int.reduceLT, Int.reduceLE, Int.reduceAdd, Int.reduceSub, Int.reduceMul, Int.reduceNeg, Int.reduceToNat, Int.reduceEq, h2, h3, h6, h20, h21, h22, h8, h28, h29, h30]
      exact ⟨0, by omega, rfl, nn.1, f20, ⟨_, _, c⟩, by simp only [go_sem, reduceCtorEq, reduceIte, Nat.reduceEqDiff, h2], by simp only [go_sem, reduceCtorEq, reduceIte, Nat.reduceEqDiff, h3], by simp only [go_sem, reduceCtorEq, reduceIte, Nat.reduceEqDiff, h6], by simp only [go_sem, reduceCtorEq, reduceIte, Nat.reduceEqDiff, h20], by simp only [go_sem, reduceCtorEq, reduceIte, Nat.reduceEqDiff, h21], .inr (.inr ⟨rfl, by simp only [go_sem, reduceCtorEq, reduceIte, Nat.reduceEqDiff]⟩)⟩
  · simp only [go_sem, reduceCtorEq, reduceIte, Nat.reduceEqDiff, Nat.reduceAdd, Nat.reduceLeDiff, Nat.reduceMul, Int.reduceLT, Int.reduceLE, Int.reduceAdd, Int.reduceSub, Int.reduceMul, Int.reduceNeg, Int.reduceToNat, Int.reduceEq, h2, h3, h6, h20, h21, h22, b2, b3, b6, b20]
    exact endK_keep c.keep ⟨rfl, rfl, l, h, rfl, c.cov⟩
end Go.Proofs.Try.K

/- Contracts: two sets together. -/
namespace Go.Proofs.Try.K
open Go Go.Ax Go.Proofs.Try.S
set_option maxRecDepth 100000
set_option linter.unusedSimpArgs false
set_option linter.unusedVariables false
variable (F : Fz) (M : Hp)

theorem k125 (a b : V) (ha : a.ok = true) (hb : b.ok = true) (hw : b.w = a.w) : CallsA Try.prog 125 [a.val, b.val] F M fun u F' M' => F' = F ∧ M' = M ∧ ∃ z, u = V.val z ∧ BothR a b z := by
  refine callsA_of hm Try.func125 e125 (Nat.le_of_ble_eq_true rfl) ?_
  simp only [c125, go_sem, reduceCtorEq, reduceIte, Nat.reduceEqDiff, Nat.reduceAdd, Nat.reduceLeDiff, Nat.reduceMul, Int.reduceLT, Int.reduceLE, Int.reduceAdd, Int.reduceSub, Int.reduceMul, Int.reduceNeg, Int.reduceToNat, Int.reduceEq]
  intro ra hFa hMa
  simp only [go_sem, reduceCtorEq, reduceIte, Nat.reduceEqDiff, Nat.reduceAdd, Nat.reduceLeDiff, Nat.reduceMul, Int.reduceLT, Int.reduceLE, Int.reduceAdd, Int.reduceSub, Int.reduceMul, Int.reduceNeg, Int.reduceToNat, Int.reduceEq]
  intro rb hFb hMb
  have gb := fresh_of hMb
  simp only [go_sem, reduceCtorEq, reduceIte, Nat.reduceEqDiff, Nat.reduceAdd, Nat.reduceLeDiff, Nat.reduceMul, Int.reduceLT, Int.reduceLE, Int.reduceAdd, Int.reduceSub, Int.reduceMul, Int.reduceNeg, Int.reduceToNat, Int.reduceEq, gb]
  intro rz hFz hMz
  have gz := fresh_of hMz
  have gz2 := fresh_of gz.2.2
  simp only [go_sem, reduceCtorEq, reduceIte, Nat.reduceEqDiff, Nat.reduceAdd, Nat.reduceLeDiff, Nat.reduceMul, Int.reduceLT, Int.reduceLE, Int.reduceAdd, Int.reduceSub, Int.reduceMul, Int.reduceNeg, Int.reduceToNat, Int.reduceEq, gb, gz, gz2]
  refine callK_same (k109 F _ a ha) ?_
  by_cases h0 : a.nextR 0 < 0
  · simp only [go_sem, reduceCtorEq, reduceIte, Nat.reduceEqDiff, Nat.reduceAdd, Nat.reduceLeDiff, Nat.reduceMul, Int.reduceLT, Int.reduceLE, Int.reduceAdd, Int.reduceSub, Int.reduceMul, Int.reduceNeg, Int.reduceToNat, Int.reduceEq, gb, gz, gz2, h0]
    refine callK_same (k143 F _ b hb) ?_
    simp only [go_sem, reduceCtorEq, reduceIte, Nat.reduceEqDiff, Nat.reduceAdd, Nat.reduceLeDiff, Nat.reduceMul, Int.reduceLT, Int.reduceLE, Int.reduceAdd, Int.reduceSub, Int.reduceMul, Int.reduceNeg, Int.reduceToNat, Int.reduceEq, gb, gz, gz2]
    exact endK_keep ((((Keep.refl M).new hMa).new gb.2.2).new gz2.2.2) ⟨rfl, rfl, _, rfl, both_void ha hb hw h0⟩
  simp only [go_sem, reduceCtorEq, reduceIte, Nat.reduceEqDiff, Nat.reduceAdd, Nat.reduceLeDiff, Nat.reduceMul, Int.reduceLT, Int.reduceLE, Int.reduceAdd, Int.reduceSub, Int.reduceMul, Int.reduceNeg, Int.reduceToNat, Int.reduceEq, gb, gz, gz2, h0]
  refine callK_same (k109 F _ b hb) ?_
  by_cases h1 : b.nextR 0 < 0
  · simp only [go_sem, reduceCtorEq, reduceIte, Nat.reduceEqDiff, Nat.reduceAdd, Nat.reduceLeDiff, Nat.reduceMul, Int.reduceLT, Int.reduceLE, Int.reduceAdd, Int.reduceSub, Int.reduceMul, Int.reduceNeg, Int.reduceToNat, Int.reduceEq, gb, gz, gz2, h1]
    refine callK_same (k143 F _ a ha) ?_
    simp only [go_sem, reduceCtorEq, reduceIte, Nat.reduceEqDiff, Nat.reduceAdd, Nat.reduceLeDiff, Nat.reduceMul, Int.reduceLT, Int.reduceLE, Int.reduceAdd, Int.reduceSub, Int.reduceMul, Int.reduceNeg, Int.reduceToNat, Int.reduceEq, gb, gz, gz2]
    exact endK_keep ((((Keep.refl M).new hMa).new gb.2.2).new gz2.2.2) ⟨rfl, rfl, _, rfl, both_void' ha hb hw h1⟩
  simp only [go_sem, reduceCtorEq, reduceIte, Nat.reduceEqDiff, Nat.reduceAdd, Nat.reduceLeDiff, Nat.reduceMul, Int.reduceLT, Int.reduceLE, Int.reduceAdd, Int.reduceSub, Int.reduceMul, Int.reduceNeg, Int.reduceToNat, Int.reduceEq, gb, gz, gz2, h1]
  by_cases hab : a = b
  · subst hab
    simp only [go_sem, reduceCtorEq, reduceIte, Nat.reduceEqDiff, Nat.reduceAdd, Nat.reduceLeDiff, Nat.reduceMul, Int.reduceLT, Int.reduceLE, Int.reduceAdd, Int.reduceSub, Int.reduceMul, Int.reduceNeg, Int.reduceToNat, Int.reduceEq, gb, gz, gz2, eq_self]
    exact endK_keep ((((Keep.refl M).new hMa).new gb.2.2).new gz2.2.2) ⟨rfl, rfl, _, rfl, both_same ha⟩
  simp only [go_sem, reduceCtorEq, reduceIte, Nat.reduceEqDiff, Nat.reduceAdd, Nat.reduceLeDiff, Nat.reduceMul, Int.reduceLT, Int.reduceLE, Int.reduceAdd, Int.reduceSub, Int.reduceMul, Int.reduceNeg, Int.reduceToNat, Int.reduceEq, gb, gz, gz2, hab]
  refine callK_same (k143 F _ a ha) ?_
  simp only [go_sem, reduceCtorEq, reduceIte, Nat.reduceEqDiff, Nat.reduceAdd, Nat.reduceLeDiff, Nat.reduceMul, Int.reduceLT, Int.reduceLE, Int.reduceAdd, Int.reduceSub, Int.reduceMul, Int.reduceNeg, Int.reduceToNat, Int.reduceEq, gb, gz, gz2]
  refine callK_same (k143 F _ b hb) ?_
  simp only [go_sem, reduceCtorEq, reduceIte, Nat.reduceEqDiff, Nat.reduceAdd, Nat.reduceLeDiff, Nat.reduceMul, Int.reduceLT, Int.reduceLE, Int.reduceAdd, Int.reduceSub, Int.reduceMul, Int.reduceNeg, Int.reduceToNat, Int.reduceEq, gb, gz, gz2]
  have ta := tidy_spec ha
  have tb := tidy_spec hb
  refine callK_of (k150 F _ a.tidy b.tidy (ok_in ta.ok) (ok_in tb.ok) (by rw [ta.w, tb.w, hw])) ?_
  rintro u G M' ⟨hG, rfl, l, h, rfl, c⟩
  rw [hG]
  refine ⟨(fun h => by cases h), ?_⟩
  have hz := both_mix ha hb hw h0 h1 c
  have em : bor .i64 (bor .i64 a.tidy.free b.tidy.free) (bxor .i64 a.tidy.bits b.tidy.bits) = a.tidy.mix b.tidy := rfl
  simp only [go_sem, reduceCtorEq, reduceIte, Nat.reduceEqDiff, Nat.reduceAdd, Nat.reduceLeDiff, Nat.reduceMul, Int.reduceLT, Int.reduceLE, Int.reduceAdd, Int.reduceSub, Int.reduceMul, Int.reduceNeg, Int.reduceToNat, Int.reduceEq, gb, gz, gz2, em]
  refine callK_same (k143 F _ _ hz.1) ?_
  simp only [go_sem, reduceCtorEq, reduceIte, Nat.reduceEqDiff, Nat.reduceAdd, Nat.reduceLeDiff, Nat.reduceMul, Int.reduceLT, Int.reduceLE, Int.reduceAdd, Int.reduceSub, Int.reduceMul, Int.reduceNeg, Int.reduceToNat, Int.reduceEq, gb, gz, gz2]
  exact endK_keep ((((Keep.refl M).new hMa).new gb.2.2).new gz2.2.2) ⟨rfl, rfl, _, rfl, hz.2⟩

end Go.Proofs.Try.K

/- Contracts: what two sets have both. -/
namespace Go.Proofs.Try.K
open Go Go.Ax Go.Proofs.Try.S
set_option maxRecDepth 100000
set_option linter.unusedSimpArgs false
set_option linter.unusedVariables false
variable (F : Fz) (M : Hp)

theorem k144 (a b : V) (ha : a.In) (hb : b.In) (hw : b.w = a.w) : CallsA Try.prog 144 [a.val, b.val] F M fun u F' M' => F' = F ∧ M' = M ∧ ∃ l h ok, u = .tuple #[.int .i64 l, .int .i64 h, .bool ok] ∧
    (ok = true ∧ CrossP a b l h ∨ ok = false ∧ ∀ n, 0 ≤ n → n ≤ mostV a.w → a.within n = true → b.within n = true → False) := by
  refine callsA_of hm Try.func144 e144 (Nat.le_of_ble_eq_true rfl) ?_
  simp only [c144, go_sem, reduceCtorEq, reduceIte, Nat.reduceEqDiff, Nat.reduceAdd, Nat.reduceLeDiff, Nat.reduceMul, Int.reduceLT, Int.reduceLE, Int.reduceAdd, Int.reduceSub, Int.reduceMul, Int.reduceNeg, Int.reduceToNat, Int.reduceEq]
  intro ra hFa hMa
  simp only [go_sem, reduceCtorEq, reduceIte, Nat.reduceEqDiff, Nat.reduceAdd, Nat.reduceLeDiff, Nat.reduceMul, Int.reduceLT, Int.reduceLE, Int.reduceAdd, Int.reduceSub, Int.reduceMul, Int.reduceNeg, Int.reduceToNat, Int.reduceEq]
  intro rb hFb hMb
  have gb := fresh_of hMb
  simp only [go_sem, reduceCtorEq, reduceIte, Nat.reduceEqDiff, Nat.reduceAdd, Nat.reduceLeDiff, Nat.reduceMul, Int.reduceLT, Int.reduceLE, Int.reduceAdd, Int.reduceSub, Int.reduceMul, Int.reduceNeg, Int.reduceToNat, Int.reduceEq, gb]
  refine callK_same (k142 F _ b a.low) ?_
  simp only [go_sem, reduceCtorEq, reduceIte, Nat.reduceEqDiff, Nat.reduceAdd, Nat.reduceLeDiff, Nat.reduceMul, Int.reduceLT, Int.reduceLE, Int.reduceAdd, Int.reduceSub, Int.reduceMul, Int.reduceNeg, Int.reduceToNat, Int.reduceEq, gb]
  refine callK_same (k142 F _ b a.high) ?_
  simp only [go_sem, reduceCtorEq, reduceIte, Nat.reduceEqDiff, Nat.reduceAdd, Nat.reduceLeDiff, Nat.reduceMul, Int.reduceLT, Int.reduceLE, Int.reduceAdd, Int.reduceSub, Int.reduceMul, Int.reduceNeg, Int.reduceToNat, Int.reduceEq, gb]
  refine callK_same (k152 F _ a b ha hb) ?_
  cases h1 : a.inside b
  rotate_left
  · simp only [go_sem, reduceCtorEq, reduceIte, Nat.reduceEqDiff, Nat.reduceAdd, Nat.reduceLeDiff, Nat.reduceMul, Int.reduceLT, Int.reduceLE, Int.reduceAdd, Int.reduceSub, Int.reduceMul, Int.reduceNeg, Int.reduceToNat, Int.reduceEq, gb]
    exact endK_keep (((Keep.refl M).new hMa).new gb.2.2) ⟨rfl, rfl, _, _, _, rfl, .inl ⟨rfl, cross_a ha hb hw h1⟩⟩
  simp only [go_sem, reduceCtorEq, reduceIte, Nat.reduceEqDiff, Nat.reduceAdd, Nat.reduceLeDiff, Nat.reduceMul, Int.reduceLT, Int.reduceLE, Int.reduceAdd, Int.reduceSub, Int.reduceMul, Int.reduceNeg, Int.reduceToNat, Int.reduceEq, gb]
  refine callK_same (k152 F _ b a hb ha) ?_
  cases h2 : b.inside a
  rotate_left
  · simp only [go_sem, reduceCtorEq, reduceIte, Nat.reduceEqDiff, Nat.reduceAdd, Nat.reduceLeDiff, Nat.reduceMul, Int.reduceLT, Int.reduceLE, Int.reduceAdd, Int.reduceSub, Int.reduceMul, Int.reduceNeg, Int.reduceToNat, Int.reduceEq, gb]
    exact endK_keep (((Keep.refl M).new hMa).new gb.2.2) ⟨rfl, rfl, _, _, _, rfl, .inl ⟨rfl, cross_b ha hb hw h2⟩⟩
  cases h3 : b.within a.low
  · cases h4 : b.within a.high
    · simp only [go_sem, reduceCtorEq, reduceIte, Nat.reduceEqDiff, Nat.reduceAdd, Nat.reduceLeDiff, Nat.reduceMul, Int.reduceLT, Int.reduceLE, Int.reduceAdd, Int.reduceSub, Int.reduceMul, Int.reduceNeg, Int.reduceToNat, Int.reduceEq, gb]
      exact endK_keep (((Keep.refl M).new hMa).new gb.2.2) ⟨rfl, rfl, _, _, _, rfl, .inr ⟨rfl, cross_f ha hb hw h2 h3 h4⟩⟩
    · simp only [go_sem, reduceCtorEq, reduceIte, Nat.reduceEqDiff, Nat.reduceAdd, Nat.reduceLeDiff, Nat.reduceMul, Int.reduceLT, Int.reduceLE, Int.reduceAdd, Int.reduceSub, Int.reduceMul, Int.reduceNeg, Int.reduceToNat, Int.reduceEq, gb]
      exact endK_keep (((Keep.refl M).new hMa).new gb.2.2) ⟨rfl, rfl, _, _, _, rfl, .inl ⟨rfl, cross_e ha hb hw h2 h3 h4⟩⟩
  · cases h4 : b.within a.high
    · simp only [go_sem, reduceCtorEq, reduceIte, Nat.reduceEqDiff, Nat.reduceAdd, Nat.reduceLeDiff, Nat.reduceMul, Int.reduceLT, Int.reduceLE, Int.reduceAdd, Int.reduceSub, Int.reduceMul, Int.reduceNeg, Int.reduceToNat, Int.reduceEq, gb]
      exact endK_keep (((Keep.refl M).new hMa).new gb.2.2) ⟨rfl, rfl, _, _, _, rfl, .inl ⟨rfl, cross_d ha hb hw h2 h3 h4⟩⟩
    · simp only [go_sem, reduceCtorEq, reduceIte, Nat.reduceEqDiff, Nat.reduceAdd, Nat.reduceLeDiff, Nat.reduceMul, Int.reduceLT, Int.reduceLE, Int.reduceAdd, Int.reduceSub, Int.reduceMul, Int.reduceNeg, Int.reduceToNat, Int.reduceEq, gb]
      exact endK_keep (((Keep.refl M).new hMa).new gb.2.2) ⟨rfl, rfl, _, _, _, rfl, .inl ⟨rfl, cross_c ha hb hw h3 h4⟩⟩

theorem k117 (a b : V) (ha : a.ok = true) (hb : b.ok = true) (hw : b.w = a.w) : CallsA Try.prog 117 [a.val, b.val] F M fun u F' M' => F' = F ∧ M' = M ∧ ∃ z, u = V.val z ∧ MeetR a b z := by
  refine callsA_of hm Try.func117 e117 (Nat.le_of_ble_eq_true rfl) ?_
  have ta := tidy_spec ha
  have tb := tidy_spec hb
  have hw' : b.tidy.w = a.tidy.w := by rw [ta.w, tb.w, hw]
  simp only [c117, go_sem, reduceCtorEq, reduceIte, Nat.reduceEqDiff, Nat.reduceAdd, Nat.reduceLeDiff, Nat.reduceMul, Int.reduceLT, Int.reduceLE, Int.reduceAdd, Int.reduceSub, Int.reduceMul, Int.reduceNeg, Int.reduceToNat, Int.reduceEq]
  intro ra hFa hMa
  simp only [go_sem, reduceCtorEq, reduceIte, Nat.reduceEqDiff, Nat.reduceAdd, Nat.reduceLeDiff, Nat.reduceMul, Int.reduceLT, Int.reduceLE, Int.reduceAdd, Int.reduceSub, Int.reduceMul, Int.reduceNeg, Int.reduceToNat, Int.reduceEq]
  intro rb hFb hMb
  have gb := fresh_of hMb
  simp only [go_sem, reduceCtorEq, reduceIte, Nat.reduceEqDiff, Nat.reduceAdd, Nat.reduceLeDiff, Nat.reduceMul, Int.reduceLT, Int.reduceLE, Int.reduceAdd, Int.reduceSub, Int.reduceMul, Int.reduceNeg, Int.reduceToNat, Int.reduceEq, gb]
  intro rz hFz hMz
  have gz := fresh_of hMz
  have gz2 := fresh_of gz.2.2
  simp only [go_sem, reduceCtorEq, reduceIte, Nat.reduceEqDiff, Nat.reduceAdd, Nat.reduceLeDiff, Nat.reduceMul, Int.reduceLT, Int.reduceLE, Int.reduceAdd, Int.reduceSub, Int.reduceMul, Int.reduceNeg, Int.reduceToNat, Int.reduceEq, gb, gz, gz2]
  refine callK_same (k143 F _ a ha) ?_
  simp only [go_sem, reduceCtorEq, reduceIte, Nat.reduceEqDiff, Nat.reduceAdd, Nat.reduceLeDiff, Nat.reduceMul, Int.reduceLT, Int.reduceLE, Int.reduceAdd, Int.reduceSub, Int.reduceMul, Int.reduceNeg, Int.reduceToNat, Int.reduceEq, gb, gz, gz2]
  refine callK_same (k143 F _ b hb) ?_
  simp only [go_sem, reduceCtorEq, reduceIte, Nat.reduceEqDiff, Nat.reduceAdd, Nat.reduceLeDiff, Nat.reduceMul, Int.reduceLT, Int.reduceLE, Int.reduceAdd, Int.reduceSub, Int.reduceMul, Int.reduceNeg, Int.reduceToNat, Int.reduceEq, gb, gz, gz2]
  cases na : a.tidy.no
  rotate_left
  · simp only [go_sem, reduceCtorEq, reduceIte, Nat.reduceEqDiff, Nat.reduceAdd, Nat.reduceLeDiff, Nat.reduceMul, Int.reduceLT, Int.reduceLE, Int.reduceAdd, Int.reduceSub, Int.reduceMul, Int.reduceNeg, Int.reduceToNat, Int.reduceEq, gb, gz, gz2]
    refine callK_same (k115 F _ a.tidy.w) ?_
    simp only [go_sem, reduceCtorEq, reduceIte, Nat.reduceEqDiff, Nat.reduceAdd, Nat.reduceLeDiff, Nat.reduceMul, Int.reduceLT, Int.reduceLE, Int.reduceAdd, Int.reduceSub, Int.reduceMul, Int.reduceNeg, Int.reduceToNat, Int.reduceEq, gb, gz, gz2]
    exact endK_keep ((((Keep.refl M).new hMa).new gb.2.2).new gz2.2.2) ⟨rfl, rfl, _, rfl, meet_of ha hb ta tb hw (meet_nothing ta.ok fun n _ _ q _ => by rw [(has_split.1 q).1] at na; cases na)⟩
  simp only [go_sem, reduceCtorEq, reduceIte, Nat.reduceEqDiff, Nat.reduceAdd, Nat.reduceLeDiff, Nat.reduceMul, Int.reduceLT, Int.reduceLE, Int.reduceAdd, Int.reduceSub, Int.reduceMul, Int.reduceNeg, Int.reduceToNat, Int.reduceEq, gb, gz, gz2]
  cases nb : b.tidy.no
  rotate_left
  · simp only [go_sem, reduceCtorEq, reduceIte, Nat.reduceEqDiff, Nat.reduceAdd, Nat.reduceLeDiff, Nat.reduceMul, Int.reduceLT, Int.reduceLE, Int.reduceAdd, Int.reduceSub, Int.reduceMul, Int.reduceNeg, Int.reduceToNat, Int.reduceEq, gb, gz, gz2]
    refine callK_same (k115 F _ a.tidy.w) ?_
    simp only [go_sem, reduceCtorEq, reduceIte, Nat.reduceEqDiff, Nat.reduceAdd, Nat.reduceLeDiff, Nat.reduceMul, Int.reduceLT, Int.reduceLE, Int.reduceAdd, Int.reduceSub, Int.reduceMul, Int.reduceNeg, Int.reduceToNat, Int.reduceEq, gb, gz, gz2]
    exact endK_keep ((((Keep.refl M).new hMa).new gb.2.2).new gz2.2.2) ⟨rfl, rfl, _, rfl, meet_of ha hb ta tb hw (meet_nothing ta.ok fun n _ _ _ q => by rw [(has_split.1 q).1] at nb; cases nb)⟩
  simp only [go_sem, reduceCtorEq, reduceIte, Nat.reduceEqDiff, Nat.reduceAdd, Nat.reduceLeDiff, Nat.reduceMul, Int.reduceLT, Int.reduceLE, Int.reduceAdd, Int.reduceSub, Int.reduceMul, Int.reduceNeg, Int.reduceToNat, Int.reduceEq, gb, gz, gz2]
  by_cases hc : bclr .i64 (bxor .i64 a.tidy.bits b.tidy.bits) (bor .i64 a.tidy.free b.tidy.free) = 0
  rotate_left
  · simp only [go_sem, reduceCtorEq, reduceIte, Nat.reduceEqDiff, Nat.reduceAdd, Nat.reduceLeDiff, Nat.reduceMul, Int.reduceLT, Int.reduceLE, Int.reduceAdd, Int.reduceSub, Int.reduceMul, Int.reduceNeg, Int.reduceToNat, Int.reduceEq, gb, gz, gz2, hc]
    refine callK_same (k115 F _ a.tidy.w) ?_
    simp only [go_sem, reduceCtorEq, reduceIte, Nat.reduceEqDiff, Nat.reduceAdd, Nat.reduceLeDiff, Nat.reduceMul, Int.reduceLT, Int.reduceLE, Int.reduceAdd, Int.reduceSub, Int.reduceMul, Int.reduceNeg, Int.reduceToNat, Int.reduceEq, gb, gz, gz2]
    exact endK_keep ((((Keep.refl M).new hMa).new gb.2.2).new gz2.2.2) ⟨rfl, rfl, _, rfl, meet_of ha hb ta tb hw (meet_nothing ta.ok fun n q0 q1 q2 q3 => hc (meet_masks ta.ok tb.ok hw' na nb q0 q1 q2 q3))⟩
  simp only [go_sem, reduceCtorEq, reduceIte, Nat.reduceEqDiff, Nat.reduceAdd, Nat.reduceLeDiff, Nat.reduceMul, Int.reduceLT, Int.reduceLE, Int.reduceAdd, Int.reduceSub, Int.reduceMul, Int.reduceNeg, Int.reduceToNat, Int.reduceEq, gb, gz, gz2, hc]
  refine callK_of (k144 F _ a.tidy b.tidy (ok_in ta.ok) (ok_in tb.ok) hw') ?_
  rintro u G M' ⟨hG, rfl, l, h, ok, rfl, ⟨rfl, c⟩ | ⟨rfl, c⟩⟩ <;> rw [hG] <;> refine ⟨(fun h => by cases h), ?_⟩
  · have hz := meet_fin ta.ok hb (hw.trans ta.w.symm) na nb (fun h => tidy_low h) hc c
    simp only [go_sem, reduceCtorEq, reduceIte, Nat.reduceEqDiff, Nat.reduceAdd, Nat.reduceLeDiff, Nat.reduceMul, Int.reduceLT, Int.reduceLE, Int.reduceAdd, Int.reduceSub, Int.reduceMul, Int.reduceNeg, Int.reduceToNat, Int.reduceEq, gb, gz, gz2]
    refine callK_same (k143 F _ _ hz.1) ?_
    simp only [go_sem, reduceCtorEq, reduceIte, Nat.reduceEqDiff, Nat.reduceAdd, Nat.reduceLeDiff, Nat.reduceMul, Int.reduceLT, Int.reduceLE, Int.reduceAdd, Int.reduceSub, Int.reduceMul, Int.reduceNeg, Int.reduceToNat, Int.reduceEq, gb, gz, gz2]
    exact endK_keep ((((Keep.refl M).new hMa).new gb.2.2).new gz2.2.2) ⟨rfl, rfl, _, rfl, meet_of ha hb ta tb hw hz.2⟩
  · simp only [go_sem, reduceCtorEq, reduceIte, Nat.reduceEqDiff, Nat.reduceAdd, Nat.reduceLeDiff, Nat.reduceMul, Int.reduceLT, Int.reduceLE, Int.reduceAdd, Int.reduceSub, Int.reduceMul, Int.reduceNeg, Int.reduceToNat, Int.reduceEq, gb, gz, gz2]
    refine callK_same (k115 F _ a.tidy.w) ?_
    simp only [go_sem, reduceCtorEq, reduceIte, Nat.reduceEqDiff, Nat.reduceAdd, Nat.reduceLeDiff, Nat.reduceMul, Int.reduceLT, Int.reduceLE, Int.reduceAdd, Int.reduceSub, Int.reduceMul, Int.reduceNeg, Int.reduceToNat, Int.reduceEq, gb, gz, gz2]
    exact endK_keep ((((Keep.refl M).new hMa).new gb.2.2).new gz2.2.2) ⟨rfl, rfl, _, rfl, meet_of ha hb ta tb hw (meet_nothing ta.ok fun n q0 q1 q2 q3 => c n q0 q1 (has_split.1 q2).2.2 (has_split.1 q3).2.2)⟩

end Go.Proofs.Try.K
