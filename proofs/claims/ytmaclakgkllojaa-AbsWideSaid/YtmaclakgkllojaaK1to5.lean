/- Parts K1to5: the machine's runs of small codes, contracts of functions, plain facts. -/
import Derived.Test.YtmaclakgkllojaaProg
import Derived.Test.YtmaclakgkllojaaA30to39
namespace Go.Proofs.Try.S
open Go Go.Ax Go.Ax.N
set_option maxRecDepth 100000

/-- cellar/cellarref0.Num -/
def c22 : SF := ⟨12, [.t 4], (.seq (.ops [o 4 (.mv (b false))])
 (.seq (.ops [o 5 (.mv (t 0)),
 o 6 (.bin .geq (t 5) (i 0)),
 o 7 (.mv (t 6)),
 og 8 7 true (.mv (t 0)),
 og 9 7 true (.mv (t 1)),
 og 10 7 true (.bin .leq (t 8) (t 9)),
 o 11 (.pick (t 7) (t 10) (b false)),
 o 4 (.mv (t 11))])
 .ret))⟩
theorem e22 : slimF Try.prog Try.f22 [] = some c22 := by kernel_rfl
/-- cellar/cellarlaw3.Heavy -/
def c34 : SF := ⟨13, [.t 2], (.seq (.ops [k 1 (.bx 27 (t 0)),
 o 2 (.mv (b false))])
 (.seq (.ops [o 3 (.fa 0 (t 1)),
 o 4 (.ld false 1 (t 3)),
 o 5 (.ln (t 4)),
 o 6 (.bin .gtr (t 5) (i 100)),
 o 7 (.mv (t 6)),
 og 8 7 false (.fa 1 (t 1)),
 og 9 7 false (.ld false 1 (t 8)),
 og 10 7 false (.ln (t 9)),
 og 11 7 false (.bin .gtr (t 10) (i 100)),
 o 12 (.pick (t 7) (b true) (t 11)),
 o 2 (.mv (t 12))])
 .ret))⟩
theorem e34 : slimF Try.prog Try.f34 [] = some c34 := by kernel_rfl
/-- cellar/cellarref1.Val -/
def c36 : SF := ⟨48, [.t 2], (.seq (.ops [k 1 (.bx 34 (t 0)),
 o 2 (.mv (b false))])
 (.seq (.seq (.ops [o 3 (.fa 0 (t 1)),
 o 4 (.ld false 1 (t 3)),
 k 5 (.ca (.func 76) [(t 4)]),
 o 6 (.un .not (t 5))])
 (.cond (t 6)
 (.seq (.ops [o 2 (.mv (b false))])
 .ret)
 .skip))
 (.seq (.seq (.ops [o 7 (.fa 1 (t 1)),
 o 8 (.ld false 1 (t 7))])
 (.cond (t 8)
 (.seq (.ops [o 9 (.ld true 6 (t 1)),
 o 10 (.fa 0 (t 1)),
 o 11 (.ld false 1 (t 10)),
 o 12 (.bd [.int .i64 0, .bool false, .int .i64 0, .int .i64 0, .int .i64 0, .int .i64 0] [(0, 1, (t 11)), (1, 1, (b true))]),
 o 13 (.eqs (.st [(false, 0, 1, .i), (false, 1, 1, .b), (false, 2, 1, .i), (false, 3, 1, .i), (false, 4, 1, .i), (false, 5, 1, .i)]) false (t 9) (t 12)),
 o 2 (.mv (t 13))])
 .ret)
 .skip))
 (.seq (.ops [o 14 (.fa 2 (t 1)),
 o 15 (.ld false 1 (t 14)),
 o 16 (.fa 0 (t 1)),
 o 17 (.ld false 1 (t 16)),
 k 18 (.ca (.func 77) [(t 15), (t 17)]),
 o 19 (.mv (t 18)),
 og 20 19 true (.fa 3 (t 1)),
 og 21 19 true (.ld false 1 (t 20)),
 og 22 19 true (.fa 0 (t 1)),
 og 23 19 true (.ld false 1 (t 22)),
 ⟨some 24, some (19, true), .ca (.func 77) [(t 21), (t 23)]⟩,
 o 25 (.pick (t 19) (t 24) (b false)),
 o 26 (.mv (t 25)),
 og 27 26 true (.fa 4 (t 1)),
 og 28 26 true (.ld false 1 (t 27)),
 og 29 26 true (.fa 0 (t 1)),
 og 30 26 true (.ld false 1 (t 29)),
 ⟨some 31, some (26, true), .ca (.func 77) [(t 28), (t 30)]⟩,
 o 32 (.pick (t 26) (t 31) (b false)),
 o 33 (.mv (t 32)),
 og 34 33 true (.fa 5 (t 1)),
 og 35 33 true (.ld false 1 (t 34)),
 og 36 33 true (.fa 0 (t 1)),
 og 37 33 true (.ld false 1 (t 36)),
 ⟨some 38, some (33, true), .ca (.func 77) [(t 35), (t 37)]⟩,
 o 39 (.pick (t 33) (t 38) (b false)),
 o 40 (.mv (t 39)),
 og 41 40 true (.fa 5 (t 1)),
 og 42 40 true (.ld false 1 (t 41)),
 og 43 40 true (.fa 4 (t 1)),
 og 44 40 true (.ld false 1 (t 43)),
 og 45 40 true (.bin .and (t 42) (t 44)),
 og 46 40 true (.bin .eql (t 45) (i 0)),
 o 47 (.pick (t 40) (t 46) (b false)),
 o 2 (.mv (t 47))])
 .ret))))⟩
theorem e36 : slimF Try.prog Try.f36 [] = some c36 := by kernel_rfl
/-- cellar/cellarref1.Has -/
def c40 : SF := ⟨37, [.t 4], (.seq (.ops [k 2 (.bx 34 (t 0)),
 o 4 (.mv (b false))])
 (.seq (.seq (.ops [o 5 (.fa 1 (t 2)),
 o 6 (.ld false 1 (t 5)),
 o 7 (.mv (t 6)),
 og 8 7 false (.mv (t 1)),
 og 9 7 false (.fa 4 (t 2)),
 og 10 7 false (.ld false 1 (t 9)),
 og 11 7 false (.bin .andNot (t 8) (t 10)),
 og 12 7 false (.fa 5 (t 2)),
 og 13 7 false (.ld false 1 (t 12)),
 og 14 7 false (.bin .neq (t 11) (t 13)),
 o 15 (.pick (t 7) (b true) (t 14))])
 (.cond (t 15)
 (.seq (.ops [o 4 (.mv (b false))])
 .ret)
 .skip))
 (.seq (.seq (.ops [o 16 (.fa 2 (t 2)),
 o 17 (.ld false 1 (t 16)),
 o 18 (.fa 3 (t 2)),
 o 19 (.ld false 1 (t 18)),
 o 20 (.bin .leq (t 17) (t 19))])
 (.cond (t 20)
 (.seq (.ops [o 21 (.mv (t 1)),
 o 22 (.fa 2 (t 2)),
 o 23 (.ld false 1 (t 22)),
 o 24 (.fa 3 (t 2)),
 o 25 (.ld false 1 (t 24)),
 k 26 (.ca (.func 66) [(t 21), (t 23), (t 25)]),
 o 4 (.mv (t 26))])
 .ret)
 .skip))
 (.seq (.ops [o 27 (.mv (t 1)),
 o 28 (.fa 2 (t 2)),
 o 29 (.ld false 1 (t 28)),
 o 30 (.bin .geq (t 27) (t 29)),
 o 31 (.mv (t 30)),
 og 32 31 false (.mv (t 1)),
 og 33 31 false (.fa 3 (t 2)),
 og 34 31 false (.ld false 1 (t 33)),
 og 35 31 false (.bin .leq (t 32) (t 34)),
 o 36 (.pick (t 31) (b true) (t 35)),
 o 4 (.mv (t 36))])
 .ret))))⟩
theorem e40 : slimF Try.prog Try.f40 [] = some c40 := by kernel_rfl
/-- cellar/cellarref1.Next -/
def c41 : SF := ⟨73, [.t 4], (.seq (.ops [k 2 (.bx 34 (t 0)),
 o 4 (.mv (i 0))])
 (.seq (.seq (.ops [o 9 (.fa 1 (t 2)),
 o 10 (.ld false 1 (t 9)),
 o 11 (.mv (t 10)),
 og 12 11 false (.mv (t 1)),
 og 13 11 false (.fa 0 (t 2)),
 og 14 11 false (.ld false 1 (t 13)),
 og 15 11 false (.bin .shl (i 1) (t 14)),
 og 16 11 false (.bin .geq (t 12) (t 15)),
 o 17 (.pick (t 11) (b true) (t 16))])
 (.cond (t 17)
 (.seq (.ops [o 4 (.mv (i (-1)))])
 .ret)
 .skip))
 (.seq (.ops [o 18 (.fa 2 (t 2)),
 o 19 (.ld false 1 (t 18)),
 k 20 (.bs 3 2 [.int .i64 0, .int .i64 0] [(0, 1, (t 19)), (1, 1, (i 0))]),
 o 5 (.mv (t 20))])
 (.seq (.ops [o 21 (.fa 3 (t 2)),
 o 22 (.ld false 1 (t 21)),
 k 23 (.bs 3 2 [.int .i64 0, .int .i64 0] [(0, 1, (t 22)), (1, 1, (i (-1)))]),
 o 6 (.mv (t 23))])
 (.seq (.seq (.ops [o 24 (.fa 2 (t 2)),
 o 25 (.ld false 1 (t 24)),
 o 26 (.fa 3 (t 2)),
 o 27 (.ld false 1 (t 26)),
 o 28 (.bin .gtr (t 25) (t 27))])
 (.cond (t 28)
 (.opq [o 29 (.fa 2 (t 2)),
 o 30 (.ld false 1 (t 29)),
 o 32 (.fa 3 (t 2)),
 o 33 (.ld false 1 (t 32)),
 o 34 (.fa 0 (t 2)),
 o 35 (.ld false 1 (t 34)),
 o 36 (.bin .shl (i 1) (t 35)),
 o 37 (.bin .sub (t 36) (i 1)),
 k 31 (.bs 3 2 [.int .i64 0, .int .i64 0] [(0, 1, (i 0)), (1, 1, (t 30))]),
 o 5 (.mv (t 31)),
 k 38 (.bs 3 2 [.int .i64 0, .int .i64 0] [(0, 1, (t 33)), (1, 1, (t 37))]),
 o 6 (.mv (t 38))])
 .skip))
 (.seq (.seq (.ops [o 7 (.mv (i 0))])
 (.block 0 (.loop (.seq (.seq (.ops [o 39 (.mv (t 7)),
 o 40 (.bin .lss (t 39) (i 2))])
 (.cond (t 40)
 .skip
 (.exit 0)))
 (.seq (.block 1 (.seq (.seq (.opq [o 43 (.mv (t 1)),
 o 44 (.mv (t 5)),
 o 45 (.mv (t 7)),
 o 46 (.ia 1 (t 44) (t 45)),
 o 47 (.ld false 1 (t 46)),
 o 48 (.mx [(t 43), (t 47)]),
 o 49 (.mv (t 6)),
 o 50 (.mv (t 7)),
 o 51 (.ia 1 (t 49) (t 50)),
 o 52 (.ld false 1 (t 51)),
 o 53 (.bin .gtr (t 48) (t 52))])
 (.cond (t 53)
 (.exit 1)
 .skip))
 (.seq (.opq [o 54 (.ld true 6 (t 2)),
 o 55 (.mv (t 1)),
 o 56 (.mv (t 5)),
 o 57 (.mv (t 7)),
 o 58 (.ia 1 (t 56) (t 57)),
 o 59 (.ld false 1 (t 58)),
 o 60 (.mx [(t 55), (t 59)]),
 k 61 (.ca (.func 80) [(t 54), (t 60)]),
 o 8 (.mv (t 61))])
 (.seq (.ops [o 62 (.mv (t 8)),
 o 63 (.bin .geq (t 62) (i 0)),
 o 64 (.mv (t 63)),
 og 65 64 true (.mv (t 8)),
 og 66 64 true (.mv (t 6)),
 og 67 64 true (.mv (t 7)),
 og 68 64 true (.ia 1 (t 66) (t 67)),
 og 69 64 true (.ld false 1 (t 68)),
 og 70 64 true (.bin .leq (t 65) (t 69)),
 o 71 (.pick (t 64) (t 70) (b false))])
 (.cond (t 71)
 (.seq (.ops [o 72 (.mv (t 8)),
 o 4 (.mv (t 72))])
 .ret)
 .skip)))))
 (.ops [o 41 (.mv (t 7)),
 o 42 (.bin .add (t 41) (i 1)),
 o 7 (.mv (t 42))]))))))
 (.seq (.ops [o 4 (.mv (i (-1)))])
 .ret)))))))⟩
theorem e41 : slimF Try.prog Try.f41 [[(0, []), (1, []), (3, []), (4, []), (5, []), (6, []), (7, []), (8, []), (2, []), (10, []), (9, []), (11, [])], [(0, []), (1, []), (2, []), (3, []), (4, []), (5, []), (6, []), (7, []), (8, []), (9, []), (10, [])], [(0, []), (1, []), (2, []), (3, []), (4, []), (5, []), (6, []), (7, []), (8, [])]] = some c41 := by kernel_rfl
/-- cellar/cellarref0.Between -/
def c66 : SF := ⟨15, [.t 6], (.seq (.ops [o 6 (.mv (b false))])
 (.seq (.ops [o 7 (.mv (t 0)),
 o 8 (.mv (t 1)),
 o 9 (.bin .geq (t 7) (t 8)),
 o 10 (.mv (t 9)),
 og 11 10 true (.mv (t 0)),
 og 12 10 true (.mv (t 2)),
 og 13 10 true (.bin .leq (t 11) (t 12)),
 o 14 (.pick (t 10) (t 13) (b false)),
 o 6 (.mv (t 14))])
 .ret))⟩
theorem e66 : slimF Try.prog Try.f66 [] = some c66 := by kernel_rfl
/-- cellar/val.May -/
def c74 : SF := ⟨42, [.t 2], (.seq (.ops [k 1 (.bx 34 (t 0)),
 o 2 (.mv (b false))])
 (.seq (.seq (.ops [o 5 (.fa 0 (t 1)),
 o 6 (.ld false 1 (t 5)),
 k 7 (.ca (.func 114) [(t 6)]),
 o 8 (.un .not (t 7))])
 (.cond (t 8)
 (.seq (.ops [o 2 (.mv (b false))])
 .ret)
 .skip))
 (.seq (.seq (.ops [o 9 (.fa 1 (t 1)),
 o 10 (.ld false 1 (t 9))])
 (.cond (t 10)
 (.seq (.opd [o 11 (.ld true 6 (t 1)),
 o 12 (.fa 0 (t 1)),
 o 13 (.ld false 1 (t 12)),
 k 14 (.ca (.func 115) [(t 13)]),
 o 15 (.eqs (.st [(false, 0, 1, .i), (false, 1, 1, .b), (false, 2, 1, .i), (false, 3, 1, .i), (false, 4, 1, .i), (false, 5, 1, .i)]) false (t 11) (t 14)),
 o 2 (.mv (t 15))])
 .ret)
 .skip))
 (.seq (.seq (.ops [o 16 (.fa 2 (t 1)),
 o 17 (.ld false 1 (t 16)),
 o 18 (.fa 3 (t 1)),
 o 19 (.ld false 1 (t 18)),
 o 20 (.fa 4 (t 1)),
 o 21 (.ld false 1 (t 20)),
 o 22 (.fa 5 (t 1)),
 o 23 (.ld false 1 (t 22)),
 k 24 (.bs 3 4 [.int .i64 0, .int .i64 0, .int .i64 0, .int .i64 0] [(0, 1, (t 17)), (1, 1, (t 19)), (2, 1, (t 21)), (3, 1, (t 23))]),
 o 25 (.ln (t 24)),
 o 26 (.mv (i 0))])
 (.block 0 (.loop (.seq (.ops [o 27 (.bin .lss (t 26) (t 25))])
 (.seq (.cond (t 27)
 .skip
 (.exit 0))
 (.seq (.block 1 (.seq (.ops [o 28 (.ia 1 (t 24) (t 26)),
 o 29 (.ld false 1 (t 28)),
 o 4 (.mv (t 29))])
 (.seq (.ops [o 30 (.mv (t 4)),
 o 31 (.fa 0 (t 1)),
 o 32 (.ld false 1 (t 31)),
 k 33 (.ca (.func 116) [(t 30), (t 32)]),
 o 34 (.un .not (t 33))])
 (.cond (t 34)
 (.seq (.ops [o 2 (.mv (b false))])
 .ret)
 .skip))))
 (.ops [o 35 (.bin .add (t 26) (i 1)),
 o 26 (.mv (t 35))])))))))
 (.seq (.ops [o 36 (.fa 5 (t 1)),
 o 37 (.ld false 1 (t 36)),
 o 38 (.fa 4 (t 1)),
 o 39 (.ld false 1 (t 38)),
 o 40 (.bin .and (t 37) (t 39)),
 o 41 (.bin .eql (t 40) (i 0)),
 o 2 (.mv (t 41))])
 .ret)))))⟩
theorem e74 : slimF Try.prog Try.f74 [[(0, []), (1, []), (2, []), (3, []), (4, []), (5, [])]] = some c74 := by kernel_rfl
/-- cellar/cellarref1.IsWidth -/
def c76 : SF := ⟨13, [.t 2], (.seq (.ops [o 2 (.mv (b false))])
 (.seq (.ops [o 3 (.mv (t 0)),
 o 4 (.bin .eql (t 3) (i 8)),
 o 5 (.mv (t 4)),
 og 6 5 false (.mv (t 0)),
 og 7 5 false (.bin .eql (t 6) (i 16)),
 o 8 (.pick (t 5) (b true) (t 7)),
 o 9 (.mv (t 8)),
 og 10 9 false (.mv (t 0)),
 og 11 9 false (.bin .eql (t 10) (i 32)),
 o 12 (.pick (t 9) (b true) (t 11)),
 o 2 (.mv (t 12))])
 .ret))⟩
theorem e76 : slimF Try.prog Try.f76 [] = some c76 := by kernel_rfl
/-- cellar/cellarref1.Number -/
def c77 : SF := ⟨10, [.t 4], (.seq (.ops [o 4 (.mv (b false))])
 (.seq (.ops [o 5 (.mv (t 0)),
 o 6 (.mv (t 1)),
 o 7 (.bin .shl (i 1) (t 6)),
 o 8 (.bin .sub (t 7) (i 1)),
 k 9 (.ca (.func 22) [(t 5), (t 8)]),
 o 4 (.mv (t 9))])
 .ret))⟩
theorem e77 : slimF Try.prog Try.f77 [] = some c77 := by kernel_rfl
/-- cellar/cellarref1.match -/
def c80 : SF := ⟨73, [.t 4], (.seq (.ops [k 2 (.bx 34 (t 0)),
 o 4 (.mv (i 0))])
 (.seq (.seq (.ops [o 7 (.mv (t 1)),
 o 8 (.fa 4 (t 2)),
 o 9 (.ld false 1 (t 8)),
 o 10 (.bin .andNot (t 7) (t 9)),
 o 11 (.fa 5 (t 2)),
 o 12 (.ld false 1 (t 11)),
 o 13 (.bin .eql (t 10) (t 12))])
 (.cond (t 13)
 (.seq (.ops [o 14 (.mv (t 1)),
 o 4 (.mv (t 14))])
 .ret)
 .skip))
 (.seq (.seq (.ops [o 5 (.mv (i 0))])
 (.block 0 (.loop (.seq (.seq (.ops [o 15 (.mv (t 5)),
 o 16 (.fa 0 (t 2)),
 o 17 (.ld false 1 (t 16)),
 o 18 (.bin .lss (t 15) (t 17))])
 (.cond (t 18)
 .skip
 (.exit 0)))
 (.seq (.block 1 (.seq (.ops [o 21 (.mv (t 1)),
 o 22 (.fa 4 (t 2)),
 o 23 (.ld false 1 (t 22)),
 o 24 (.bin .andNot (t 21) (t 23)),
 o 25 (.fa 5 (t 2)),
 o 26 (.ld false 1 (t 25)),
 o 27 (.bin .xor (t 24) (t 26)),
 o 28 (.mv (t 5)),
 o 29 (.bin .add (t 28) (i 1)),
 o 30 (.bin .shr (t 27) (t 29)),
 o 6 (.mv (t 30))])
 (.seq (.ops [o 31 (.mv (t 6)),
 o 32 (.bin .eql (t 31) (i 0)),
 o 33 (.mv (t 32)),
 og 34 33 true (.mv (t 1)),
 og 35 33 true (.mv (t 5)),
 og 36 33 true (.bin .shr (t 34) (t 35)),
 og 37 33 true (.bin .and (t 36) (i 1)),
 og 38 33 true (.bin .eql (t 37) (i 0)),
 o 39 (.pick (t 33) (t 38) (b false)),
 o 40 (.mv (t 39)),
 og 41 40 true (.fa 4 (t 2)),
 og 42 40 true (.ld false 1 (t 41)),
 og 43 40 true (.mv (t 5)),
 og 44 40 true (.bin .shr (t 42) (t 43)),
 og 45 40 true (.bin .and (t 44) (i 1)),
 og 46 40 true (.bin .eql (t 45) (i 1)),
 og 47 40 true (.mv (t 46)),
 og 48 47 false (.fa 5 (t 2)),
 og 49 47 false (.ld false 1 (t 48)),
 og 50 47 false (.mv (t 5)),
 og 51 47 false (.bin .shr (t 49) (t 50)),
 og 52 47 false (.bin .and (t 51) (i 1)),
 og 53 47 false (.bin .eql (t 52) (i 1)),
 og 54 40 true (.pick (t 47) (b true) (t 53)),
 o 55 (.pick (t 40) (t 54) (b false))])
 (.cond (t 55)
 (.seq (.opq [o 56 (.mv (t 1)),
 o 57 (.mv (t 5)),
 o 58 (.bin .add (t 57) (i 1)),
 o 59 (.bin .shr (t 56) (t 58)),
 o 60 (.mv (t 5)),
 o 61 (.bin .add (t 60) (i 1)),
 o 62 (.bin .shl (t 59) (t 61)),
 o 63 (.mv (t 5)),
 o 64 (.bin .shl (i 1) (t 63)),
 o 65 (.bin .or (t 62) (t 64)),
 o 66 (.fa 5 (t 2)),
 o 67 (.ld false 1 (t 66)),
 o 68 (.mv (t 5)),
 o 69 (.bin .shl (i 1) (t 68)),
 o 70 (.bin .sub (t 69) (i 1)),
 o 71 (.bin .and (t 67) (t 70)),
 o 72 (.bin .or (t 65) (t 71)),
 o 4 (.mv (t 72))])
 .ret)
 .skip))))
 (.ops [o 19 (.mv (t 5)),
 o 20 (.bin .add (t 19) (i 1)),
 o 5 (.mv (t 20))]))))))
 (.seq (.ops [o 4 (.mv (i (-1)))])
 .ret))))⟩
theorem e80 : slimF Try.prog Try.f80 [[(0, []), (1, []), (2, []), (3, []), (4, []), (5, []), (6, []), (7, []), (8, []), (9, []), (10, []), (11, []), (12, []), (13, []), (14, []), (15, []), (16, []), (17, [])]] = some c80 := by kernel_rfl
/-- cellar/val.Just -/
def c100 : SF := ⟨10, [.c true 6 4], (.seq (.ops [k 4 (.al 34 [.int .i64 0, .bool false, .int .i64 0, .int .i64 0, .int .i64 0, .int .i64 0])])
 (.seq (.ops [o 5 (.mv (t 0)),
 o 6 (.mv (t 1)),
 o 7 (.mv (t 1)),
 o 8 (.mv (t 1)),
 o 9 (.bd [.int .i64 0, .bool false, .int .i64 0, .int .i64 0, .int .i64 0, .int .i64 0] [(0, 1, (t 5)), (2, 1, (t 6)), (3, 1, (t 7)), (5, 1, (t 8))]),
 kn (.st [] 6 (t 4) (t 9))])
 .ret))⟩
theorem e100 : slimF Try.prog Try.f100 [] = some c100 := by kernel_rfl
/-- cellar/val.Whole -/
def c102 : SF := ⟨9, [.c true 6 2], (.seq (.ops [k 2 (.al 34 [.int .i64 0, .bool false, .int .i64 0, .int .i64 0, .int .i64 0, .int .i64 0])])
 (.seq (.ops [o 3 (.mv (t 0)),
 o 4 (.mv (t 0)),
 k 5 (.ca (.func 137) [(t 4)]),
 o 6 (.mv (t 0)),
 k 7 (.ca (.func 137) [(t 6)]),
 o 8 (.bd [.int .i64 0, .bool false, .int .i64 0, .int .i64 0, .int .i64 0, .int .i64 0] [(0, 1, (t 3)), (3, 1, (t 5)), (4, 1, (t 7))]),
 kn (.st [] 6 (t 2) (t 8))])
 .ret))⟩
theorem e102 : slimF Try.prog Try.f102 [] = some c102 := by kernel_rfl
/-- cellar/val.Holds -/
def c113 : SF := ⟨22, [.t 4], (.seq (.ops [k 2 (.bx 34 (t 0)),
 o 4 (.mv (b false))])
 (.seq (.ops [o 5 (.fa 1 (t 2)),
 o 6 (.ld false 1 (t 5)),
 o 7 (.un .not (t 6)),
 o 8 (.mv (t 7)),
 og 9 8 true (.mv (t 1)),
 og 10 8 true (.fa 4 (t 2)),
 og 11 8 true (.ld false 1 (t 10)),
 og 12 8 true (.bin .andNot (t 9) (t 11)),
 og 13 8 true (.fa 5 (t 2)),
 og 14 8 true (.ld false 1 (t 13)),
 og 15 8 true (.bin .eql (t 12) (t 14)),
 o 16 (.pick (t 8) (t 15) (b false)),
 o 17 (.mv (t 16)),
 og 18 17 true (.ld true 6 (t 2)),
 og 19 17 true (.mv (t 1)),
 ⟨some 20, some (17, true), .ca (.func 142) [(t 18), (t 19)]⟩,
 o 21 (.pick (t 17) (t 20) (b false)),
 o 4 (.mv (t 21))])
 .ret))⟩
theorem e113 : slimF Try.prog Try.f113 [] = some c113 := by kernel_rfl
/-- cellar/word.IsWidth -/
def c114 : SF := ⟨13, [.t 2], (.seq (.ops [o 2 (.mv (b false))])
 (.seq (.ops [o 3 (.mv (t 0)),
 o 4 (.bin .eql (t 3) (i 8)),
 o 5 (.mv (t 4)),
 og 6 5 false (.mv (t 0)),
 og 7 5 false (.bin .eql (t 6) (i 16)),
 o 8 (.pick (t 5) (b true) (t 7)),
 o 9 (.mv (t 8)),
 og 10 9 false (.mv (t 0)),
 og 11 9 false (.bin .eql (t 10) (i 32)),
 o 12 (.pick (t 9) (b true) (t 11)),
 o 2 (.mv (t 12))])
 .ret))⟩
theorem e114 : slimF Try.prog Try.f114 [] = some c114 := by kernel_rfl
/-- cellar/val.Nothing -/
def c115 : SF := ⟨5, [.c true 6 2], (.seq (.ops [k 2 (.al 34 [.int .i64 0, .bool false, .int .i64 0, .int .i64 0, .int .i64 0, .int .i64 0])])
 (.seq (.ops [o 3 (.mv (t 0)),
 o 4 (.bd [.int .i64 0, .bool false, .int .i64 0, .int .i64 0, .int .i64 0, .int .i64 0] [(0, 1, (t 3)), (1, 1, (b true))]),
 kn (.st [] 6 (t 2) (t 4))])
 .ret))⟩
theorem e115 : slimF Try.prog Try.f115 [] = some c115 := by kernel_rfl
/-- cellar/word.Is -/
def c116 : SF := ⟨13, [.t 4], (.seq (.ops [o 4 (.mv (b false))])
 (.seq (.ops [o 5 (.mv (t 0)),
 o 6 (.bin .geq (t 5) (i 0)),
 o 7 (.mv (t 6)),
 og 8 7 true (.mv (t 0)),
 og 9 7 true (.mv (t 1)),
 ⟨some 10, some (7, true), .ca (.func 137) [(t 9)]⟩,
 og 11 7 true (.bin .leq (t 8) (t 10)),
 o 12 (.pick (t 7) (t 11) (b false)),
 o 4 (.mv (t 12))])
 .ret))⟩
theorem e116 : slimF Try.prog Try.f116 [] = some c116 := by kernel_rfl
/-- cellar/word.Most -/
def c137 : SF := ⟨6, [.t 2], (.seq (.ops [o 2 (.mv (i 0))])
 (.seq (.ops [o 3 (.mv (t 0)),
 o 4 (.bin .shl (i 1) (t 3)),
 o 5 (.bin .sub (t 4) (i 1)),
 o 2 (.mv (t 5))])
 .ret))⟩
theorem e137 : slimF Try.prog Try.f137 [] = some c137 := by kernel_rfl
/-- cellar/val.within -/
def c142 : SF := ⟨30, [.t 4], (.seq (.ops [k 2 (.bx 34 (t 0)),
 o 4 (.mv (b false))])
 (.seq (.seq (.ops [o 5 (.fa 2 (t 2)),
 o 6 (.ld false 1 (t 5)),
 o 7 (.fa 3 (t 2)),
 o 8 (.ld false 1 (t 7)),
 o 9 (.bin .leq (t 6) (t 8))])
 (.cond (t 9)
 (.seq (.ops [o 10 (.mv (t 1)),
 o 11 (.fa 2 (t 2)),
 o 12 (.ld false 1 (t 11)),
 o 13 (.bin .geq (t 10) (t 12)),
 o 14 (.mv (t 13)),
 og 15 14 true (.mv (t 1)),
 og 16 14 true (.fa 3 (t 2)),
 og 17 14 true (.ld false 1 (t 16)),
 og 18 14 true (.bin .leq (t 15) (t 17)),
 o 19 (.pick (t 14) (t 18) (b false)),
 o 4 (.mv (t 19))])
 .ret)
 .skip))
 (.seq (.ops [o 20 (.mv (t 1)),
 o 21 (.fa 2 (t 2)),
 o 22 (.ld false 1 (t 21)),
 o 23 (.bin .geq (t 20) (t 22)),
 o 24 (.mv (t 23)),
 og 25 24 false (.mv (t 1)),
 og 26 24 false (.fa 3 (t 2)),
 og 27 24 false (.ld false 1 (t 26)),
 og 28 24 false (.bin .leq (t 25) (t 27)),
 o 29 (.pick (t 24) (b true) (t 28)),
 o 4 (.mv (t 29))])
 .ret)))⟩
theorem e142 : slimF Try.prog Try.f142 [] = some c142 := by kernel_rfl
end Go.Proofs.Try.S
/- Contracts of the words, and of the sets' small functions. -/
namespace Go.Proofs.Try.K
open Go Go.Ax Go.Proofs.Try.S
set_option maxRecDepth 100000
set_option linter.unusedSimpArgs false
set_option linter.unusedVariables false
abbrev Same (F : Fz) (M : Hp) (r : Value) : Value → Fz → Hp → Prop := fun v F' M' => v = r ∧ F' = F ∧ M' = M
theorem hm : Try.prog.follows .mixedOrders = true := by kernel_rfl
variable (F : Fz) (M : Hp)

theorem k114 (w : Int) : CallsA Try.prog 114 [.int .i64 w] F M (Same F M (.bool (isW w))) := by
  refine callsA_of hm Try.func114 e114 (Nat.le_of_ble_eq_true rfl) ?_
  simp only [c114, go_sem, reduceCtorEq, reduceIte, Nat.reduceEqDiff, Nat.reduceAdd, Nat.reduceLeDiff, Nat.reduceMul, Int.reduceLT, Int.reduceLE, Int.reduceAdd, Int.reduceSub, Int.reduceMul, Int.reduceNeg, Int.reduceToNat, Int.reduceEq]
  repeat' (refine gK_of (fun h => ?_) (fun h => ?_) <;> simp only [go_sem, reduceCtorEq, reduceIte, Nat.reduceEqDiff, Nat.reduceAdd, Nat.reduceLeDiff, Nat.reduceMul, Int.reduceLT, Int.reduceLE, Int.reduceAdd, Int.reduceSub, Int.reduceMul, Int.reduceNeg, Int.reduceToNat, Int.reduceEq, h])
  all_goals exact endK_same ⟨by simp_all [isW], rfl, rfl⟩
theorem k76 (w : Int) : CallsA Try.prog 76 [.int .i64 w] F M (Same F M (.bool (isW w))) := by
  refine callsA_of hm Try.func76 e76 (Nat.le_of_ble_eq_true rfl) ?_
  simp only [c76, go_sem, reduceCtorEq, reduceIte, Nat.reduceEqDiff, Nat.reduceAdd, Nat.reduceLeDiff, Nat.reduceMul, Int.reduceLT, Int.reduceLE, Int.reduceAdd, Int.reduceSub, Int.reduceMul, Int.reduceNeg, Int.reduceToNat, Int.reduceEq]
  repeat' (refine gK_of (fun h => ?_) (fun h => ?_) <;> simp only [go_sem, reduceCtorEq, reduceIte, Nat.reduceEqDiff, Nat.reduceAdd, Nat.reduceLeDiff, Nat.reduceMul, Int.reduceLT, Int.reduceLE, Int.reduceAdd, Int.reduceSub, Int.reduceMul, Int.reduceNeg, Int.reduceToNat, Int.reduceEq, h])
  all_goals exact endK_same ⟨by simp_all [isW], rfl, rfl⟩
theorem k22 (n m : Int) : CallsA Try.prog 22 [.int .i64 n, .int .i64 m] F M (Same F M (.bool (decide (0 ≤ n) && decide (n ≤ m)))) := by
  refine callsA_of hm Try.func22 e22 (Nat.le_of_ble_eq_true rfl) ?_
  simp only [c22, go_sem, reduceCtorEq, reduceIte, Nat.reduceEqDiff, Nat.reduceAdd, Nat.reduceLeDiff, Nat.reduceMul, Int.reduceLT, Int.reduceLE, Int.reduceAdd, Int.reduceSub, Int.reduceMul, Int.reduceNeg, Int.reduceToNat, Int.reduceEq]
  repeat' (refine gK_of (fun h => ?_) (fun h => ?_) <;> simp only [go_sem, reduceCtorEq, reduceIte, Nat.reduceEqDiff, Nat.reduceAdd, Nat.reduceLeDiff, Nat.reduceMul, Int.reduceLT, Int.reduceLE, Int.reduceAdd, Int.reduceSub, Int.reduceMul, Int.reduceNeg, Int.reduceToNat, Int.reduceEq, h])
  all_goals exact endK_same ⟨by simp_all, rfl, rfl⟩
theorem k66 (n l m : Int) : CallsA Try.prog 66 [.int .i64 n, .int .i64 l, .int .i64 m] F M (Same F M (.bool (decide (l ≤ n) && decide (n ≤ m)))) := by
  refine callsA_of hm Try.func66 e66 (Nat.le_of_ble_eq_true rfl) ?_
  simp only [c66, go_sem, reduceCtorEq, reduceIte, Nat.reduceEqDiff, Nat.reduceAdd, Nat.reduceLeDiff, Nat.reduceMul, Int.reduceLT, Int.reduceLE, Int.reduceAdd, Int.reduceSub, Int.reduceMul, Int.reduceNeg, Int.reduceToNat, Int.reduceEq]
  repeat' (refine gK_of (fun h => ?_) (fun h => ?_) <;> simp only [go_sem, reduceCtorEq, reduceIte, Nat.reduceEqDiff, Nat.reduceAdd, Nat.reduceLeDiff, Nat.reduceMul, Int.reduceLT, Int.reduceLE, Int.reduceAdd, Int.reduceSub, Int.reduceMul, Int.reduceNeg, Int.reduceToNat, Int.reduceEq, h])
  all_goals exact endK_same ⟨by simp_all, rfl, rfl⟩
theorem k137 (w : Int) (h0 : 0 ≤ w) (h1 : w ≤ 62) : CallsA Try.prog 137 [.int .i64 w] F M (Same F M (.int .i64 (mostV w))) := by
  refine callsA_of hm Try.func137 e137 (Nat.le_of_ble_eq_true rfl) ?_
  have : ¬ w < 0 := by omega
  simp only [c137, go_sem, reduceCtorEq, reduceIte, Nat.reduceEqDiff, Nat.reduceAdd, Nat.reduceLeDiff, Nat.reduceMul, Int.reduceLT, Int.reduceLE, Int.reduceAdd, Int.reduceSub, Int.reduceMul, Int.reduceNeg, Int.reduceToNat, Int.reduceEq, this, shl1 h0 h1, most_wrap h0 h1]
  exact endK_same ⟨rfl, rfl, rfl⟩
theorem k116 (n w : Int) (h0 : 0 ≤ w) (h1 : w ≤ 62) : CallsA Try.prog 116 [.int .i64 n, .int .i64 w] F M (Same F M (.bool (isN n w))) := by
  refine callsA_of hm Try.func116 e116 (Nat.le_of_ble_eq_true rfl) ?_
  simp only [c116, go_sem, reduceCtorEq, reduceIte, Nat.reduceEqDiff, Nat.reduceAdd, Nat.reduceLeDiff, Nat.reduceMul, Int.reduceLT, Int.reduceLE, Int.reduceAdd, Int.reduceSub, Int.reduceMul, Int.reduceNeg, Int.reduceToNat, Int.reduceEq]
  refine gK_of (fun h => ?_) (fun h => ?_) <;> simp only [go_sem, reduceCtorEq, reduceIte, Nat.reduceEqDiff, Nat.reduceAdd, Nat.reduceLeDiff, Nat.reduceMul, Int.reduceLT, Int.reduceLE, Int.reduceAdd, Int.reduceSub, Int.reduceMul, Int.reduceNeg, Int.reduceToNat, Int.reduceEq, h]
  · refine callK_same (k137 F M w h0 h1) ?_
    simp only [go_sem, reduceCtorEq, reduceIte, Nat.reduceEqDiff, Nat.reduceAdd, Nat.reduceLeDiff, Nat.reduceMul, Int.reduceLT, Int.reduceLE, Int.reduceAdd, Int.reduceSub, Int.reduceMul, Int.reduceNeg, Int.reduceToNat, Int.reduceEq, h]
    exact endK_same ⟨by simp_all [isN], rfl, rfl⟩
  · exact endK_same ⟨by simp_all [isN]; omega, rfl, rfl⟩
theorem k77 (n w : Int) (h0 : 0 ≤ w) (h1 : w ≤ 62) : CallsA Try.prog 77 [.int .i64 n, .int .i64 w] F M (Same F M (.bool (isN n w))) := by
  refine callsA_of hm Try.func77 e77 (Nat.le_of_ble_eq_true rfl) ?_
  have : ¬ w < 0 := by omega
  simp only [c77, go_sem, reduceCtorEq, reduceIte, Nat.reduceEqDiff, Nat.reduceAdd, Nat.reduceLeDiff, Nat.reduceMul, Int.reduceLT, Int.reduceLE, Int.reduceAdd, Int.reduceSub, Int.reduceMul, Int.reduceNeg, Int.reduceToNat, Int.reduceEq, this, shl1 h0 h1, most_wrap h0 h1]
  refine callK_same (k22 F M n (mostV w)) ?_
  simp only [go_sem, reduceCtorEq, reduceIte, Nat.reduceEqDiff, Nat.reduceAdd, Nat.reduceLeDiff, Nat.reduceMul, Int.reduceLT, Int.reduceLE, Int.reduceAdd, Int.reduceSub, Int.reduceMul, Int.reduceNeg, Int.reduceToNat, Int.reduceEq]
  exact endK_same ⟨rfl, rfl, rfl⟩
theorem k115 (w : Int) : CallsA Try.prog 115 [.int .i64 w] F M (Same F M (V.nothing w).val) := by
  refine callsA_of hm Try.func115 e115 (Nat.le_of_ble_eq_true rfl) ?_
  simp only [c115, go_sem, reduceCtorEq, reduceIte, Nat.reduceEqDiff, Nat.reduceAdd, Nat.reduceLeDiff, Nat.reduceMul, Int.reduceLT, Int.reduceLE, Int.reduceAdd, Int.reduceSub, Int.reduceMul, Int.reduceNeg, Int.reduceToNat, Int.reduceEq]
  intro r hF hM
  simp only [go_sem, reduceCtorEq, reduceIte, Nat.reduceEqDiff, Nat.reduceAdd, Nat.reduceLeDiff, Nat.reduceMul, Int.reduceLT, Int.reduceLE, Int.reduceAdd, Int.reduceSub, Int.reduceMul, Int.reduceNeg, Int.reduceToNat, Int.reduceEq]
  exact endK_drop hM (endK_same ⟨rfl, rfl, rfl⟩)
theorem k100 (w n : Int) : CallsA Try.prog 100 [.int .i64 w, .int .i64 n] F M (Same F M (V.just w n).val) := by
  refine callsA_of hm Try.func100 e100 (Nat.le_of_ble_eq_true rfl) ?_
  simp only [c100, go_sem, reduceCtorEq, reduceIte, Nat.reduceEqDiff, Nat.reduceAdd, Nat.reduceLeDiff, Nat.reduceMul, Int.reduceLT, Int.reduceLE, Int.reduceAdd, Int.reduceSub, Int.reduceMul, Int.reduceNeg, Int.reduceToNat, Int.reduceEq]
  intro r hF hM
  simp only [go_sem, reduceCtorEq, reduceIte, Nat.reduceEqDiff, Nat.reduceAdd, Nat.reduceLeDiff, Nat.reduceMul, Int.reduceLT, Int.reduceLE, Int.reduceAdd, Int.reduceSub, Int.reduceMul, Int.reduceNeg, Int.reduceToNat, Int.reduceEq]
  exact endK_drop hM (endK_same ⟨rfl, rfl, rfl⟩)
theorem k102 (w : Int) (h0 : 0 ≤ w) (h1 : w ≤ 62) : CallsA Try.prog 102 [.int .i64 w] F M (Same F M (V.whole w).val) := by
  refine callsA_of hm Try.func102 e102 (Nat.le_of_ble_eq_true rfl) ?_
  simp only [c102, go_sem, reduceCtorEq, reduceIte, Nat.reduceEqDiff, Nat.reduceAdd, Nat.reduceLeDiff, Nat.reduceMul, Int.reduceLT, Int.reduceLE, Int.reduceAdd, Int.reduceSub, Int.reduceMul, Int.reduceNeg, Int.reduceToNat, Int.reduceEq]
  intro r hF hM
  simp only [go_sem, reduceCtorEq, reduceIte, Nat.reduceEqDiff, Nat.reduceAdd, Nat.reduceLeDiff, Nat.reduceMul, Int.reduceLT, Int.reduceLE, Int.reduceAdd, Int.reduceSub, Int.reduceMul, Int.reduceNeg, Int.reduceToNat, Int.reduceEq]
  refine callK_same (k137 F _ w h0 h1) ?_
  simp only [go_sem, reduceCtorEq, reduceIte, Nat.reduceEqDiff, Nat.reduceAdd, Nat.reduceLeDiff, Nat.reduceMul, Int.reduceLT, Int.reduceLE, Int.reduceAdd, Int.reduceSub, Int.reduceMul, Int.reduceNeg, Int.reduceToNat, Int.reduceEq]
  refine callK_same (k137 F _ w h0 h1) ?_
  simp only [go_sem, reduceCtorEq, reduceIte, Nat.reduceEqDiff, Nat.reduceAdd, Nat.reduceLeDiff, Nat.reduceMul, Int.reduceLT, Int.reduceLE, Int.reduceAdd, Int.reduceSub, Int.reduceMul, Int.reduceNeg, Int.reduceToNat, Int.reduceEq]
  exact endK_drop hM (endK_same ⟨rfl, rfl, rfl⟩)
end Go.Proofs.Try.K

/- Contracts of the sets' functions: made, may be, has. -/
namespace Go.Proofs.Try.K
open Go Go.Ax Go.Proofs.Try.S
set_option maxRecDepth 100000
set_option linter.unusedSimpArgs false
set_option linter.unusedVariables false
variable (F : Fz) (M : Hp)

theorem k36 (v : V) : CallsA Try.prog 36 [v.val] F M (Same F M (.bool v.ok)) := by
  refine callsA_of hm Try.func36 e36 (Nat.le_of_ble_eq_true rfl) ?_
  simp only [c36, go_sem, reduceCtorEq, reduceIte, Nat.reduceEqDiff, Nat.reduceAdd, Nat.reduceLeDiff, Nat.reduceMul, Int.reduceLT, Int.reduceLE, Int.reduceAdd, Int.reduceSub, Int.reduceMul, Int.reduceNeg, Int.reduceToNat, Int.reduceEq]
  intro r hF hM
  simp only [go_sem, reduceCtorEq, reduceIte, Nat.reduceEqDiff, Nat.reduceAdd, Nat.reduceLeDiff, Nat.reduceMul, Int.reduceLT, Int.reduceLE, Int.reduceAdd, Int.reduceSub, Int.reduceMul, Int.reduceNeg, Int.reduceToNat, Int.reduceEq]
  refine callK_same (k76 F _ v.w) ?_
  cases hw : isW v.w
  · simp only [go_sem, reduceCtorEq, reduceIte, Nat.reduceEqDiff, Nat.reduceAdd, Nat.reduceLeDiff, Nat.reduceMul, Int.reduceLT, Int.reduceLE, Int.reduceAdd, Int.reduceSub, Int.reduceMul, Int.reduceNeg, Int.reduceToNat, Int.reduceEq]
    exact endK_drop hM (endK_same ⟨by simp [V.ok, hw], rfl, rfl⟩)
  have hl := isW_le hw
  cases hno : v.no
  · simp only [go_sem, reduceCtorEq, reduceIte, Nat.reduceEqDiff, Nat.reduceAdd, Nat.reduceLeDiff, Nat.reduceMul, Int.reduceLT, Int.reduceLE, Int.reduceAdd, Int.reduceSub, Int.reduceMul, Int.reduceNeg, Int.reduceToNat, Int.reduceEq, hno]
    refine callK_same (k77 F _ v.low v.w hl.1 hl.2) ?_
    cases h1 : isN v.low v.w
    · simp only [go_sem, reduceCtorEq, reduceIte, Nat.reduceEqDiff, Nat.reduceAdd, Nat.reduceLeDiff, Nat.reduceMul, Int.reduceLT, Int.reduceLE, Int.reduceAdd, Int.reduceSub, Int.reduceMul, Int.reduceNeg, Int.reduceToNat, Int.reduceEq]
      exact endK_drop hM (endK_same ⟨by simp [V.ok, hw, hno, h1], rfl, rfl⟩)
    simp only [go_sem, reduceCtorEq, reduceIte, Nat.reduceEqDiff, Nat.reduceAdd, Nat.reduceLeDiff, Nat.reduceMul, Int.reduceLT, Int.reduceLE, Int.reduceAdd, Int.reduceSub, Int.reduceMul, Int.reduceNeg, Int.reduceToNat, Int.reduceEq]
    refine callK_same (k77 F _ v.high v.w hl.1 hl.2) ?_
    cases h2 : isN v.high v.w
    · simp only [go_sem, reduceCtorEq, reduceIte, Nat.reduceEqDiff, Nat.reduceAdd, Nat.reduceLeDiff, Nat.reduceMul, Int.reduceLT, Int.reduceLE, Int.reduceAdd, Int.reduceSub, Int.reduceMul, Int.reduceNeg, Int.reduceToNat, Int.reduceEq]
      exact endK_drop hM (endK_same ⟨by simp [V.ok, hw, hno, h1, h2], rfl, rfl⟩)
    simp only [go_sem, reduceCtorEq, reduceIte, Nat.reduceEqDiff, Nat.reduceAdd, Nat.reduceLeDiff, Nat.reduceMul, Int.reduceLT, Int.reduceLE, Int.reduceAdd, Int.reduceSub, Int.reduceMul, Int.reduceNeg, Int.reduceToNat, Int.reduceEq]
    refine callK_same (k77 F _ v.free v.w hl.1 hl.2) ?_
    cases h3 : isN v.free v.w
    · simp only [go_sem, reduceCtorEq, reduceIte, Nat.reduceEqDiff, Nat.reduceAdd, Nat.reduceLeDiff, Nat.reduceMul, Int.reduceLT, Int.reduceLE, Int.reduceAdd, Int.reduceSub, Int.reduceMul, Int.reduceNeg, Int.reduceToNat, Int.reduceEq]
      exact endK_drop hM (endK_same ⟨by simp [V.ok, hw, hno, h1, h2, h3], rfl, rfl⟩)
    simp only [go_sem, reduceCtorEq, reduceIte, Nat.reduceEqDiff, Nat.reduceAdd, Nat.reduceLeDiff, Nat.reduceMul, Int.reduceLT, Int.reduceLE, Int.reduceAdd, Int.reduceSub, Int.reduceMul, Int.reduceNeg, Int.reduceToNat, Int.reduceEq]
    refine callK_same (k77 F _ v.bits v.w hl.1 hl.2) ?_
    cases h4 : isN v.bits v.w
    · simp only [go_sem, reduceCtorEq, reduceIte, Nat.reduceEqDiff, Nat.reduceAdd, Nat.reduceLeDiff, Nat.reduceMul, Int.reduceLT, Int.reduceLE, Int.reduceAdd, Int.reduceSub, Int.reduceMul, Int.reduceNeg, Int.reduceToNat, Int.reduceEq]
      exact endK_drop hM (endK_same ⟨by simp [V.ok, hw, hno, h1, h2, h3, h4], rfl, rfl⟩)
    simp only [go_sem, reduceCtorEq, reduceIte, Nat.reduceEqDiff, Nat.reduceAdd, Nat.reduceLeDiff, Nat.reduceMul, Int.reduceLT, Int.reduceLE, Int.reduceAdd, Int.reduceSub, Int.reduceMul, Int.reduceNeg, Int.reduceToNat, Int.reduceEq]
    exact endK_drop hM (endK_same ⟨by simp [V.ok, hw, hno, h1, h2, h3, h4], rfl, rfl⟩)
  · simp only [go_sem, reduceCtorEq, reduceIte, Nat.reduceEqDiff, Nat.reduceAdd, Nat.reduceLeDiff, Nat.reduceMul, Int.reduceLT, Int.reduceLE, Int.reduceAdd, Int.reduceSub, Int.reduceMul, Int.reduceNeg, Int.reduceToNat, Int.reduceEq, hno]
    exact endK_drop hM (endK_same ⟨by simp [V.ok, hw, hno], rfl, rfl⟩)

theorem k40 (v : V) (n : Int) : CallsA Try.prog 40 [v.val, .int .i64 n] F M (Same F M (.bool (v.has n))) := by
  refine callsA_of hm Try.func40 e40 (Nat.le_of_ble_eq_true rfl) ?_
  simp only [c40, go_sem, reduceCtorEq, reduceIte, Nat.reduceEqDiff, Nat.reduceAdd, Nat.reduceLeDiff, Nat.reduceMul, Int.reduceLT, Int.reduceLE, Int.reduceAdd, Int.reduceSub, Int.reduceMul, Int.reduceNeg, Int.reduceToNat, Int.reduceEq]
  intro r hF hM
  simp only [go_sem, reduceCtorEq, reduceIte, Nat.reduceEqDiff, Nat.reduceAdd, Nat.reduceLeDiff, Nat.reduceMul, Int.reduceLT, Int.reduceLE, Int.reduceAdd, Int.reduceSub, Int.reduceMul, Int.reduceNeg, Int.reduceToNat, Int.reduceEq]
  cases hno : v.no
  · simp only [go_sem, reduceCtorEq, reduceIte, Nat.reduceEqDiff, Nat.reduceAdd, Nat.reduceLeDiff, Nat.reduceMul, Int.reduceLT, Int.reduceLE, Int.reduceAdd, Int.reduceSub, Int.reduceMul, Int.reduceNeg, Int.reduceToNat, Int.reduceEq, hno]
    by_cases hb : bclr .i64 n v.free = v.bits
    · simp only [go_sem, reduceCtorEq, reduceIte, Nat.reduceEqDiff, Nat.reduceAdd, Nat.reduceLeDiff, Nat.reduceMul, Int.reduceLT, Int.reduceLE, Int.reduceAdd, Int.reduceSub, Int.reduceMul, Int.reduceNeg, Int.reduceToNat, Int.reduceEq, hb, decide_true, decide_false]
      by_cases hlh : v.low ≤ v.high
      · simp only [go_sem, reduceCtorEq, reduceIte, Nat.reduceEqDiff, Nat.reduceAdd, Nat.reduceLeDiff, Nat.reduceMul, Int.reduceLT, Int.reduceLE, Int.reduceAdd, Int.reduceSub, Int.reduceMul, Int.reduceNeg, Int.reduceToNat, Int.reduceEq, hlh, decide_true]
        refine callK_same (k66 F _ n v.low v.high) ?_
        simp only [go_sem, reduceCtorEq, reduceIte, Nat.reduceEqDiff, Nat.reduceAdd, Nat.reduceLeDiff, Nat.reduceMul, Int.reduceLT, Int.reduceLE, Int.reduceAdd, Int.reduceSub, Int.reduceMul, Int.reduceNeg, Int.reduceToNat, Int.reduceEq]
        exact endK_drop hM (endK_same ⟨by simp [V.has, hno, hb, V.within, hlh], rfl, rfl⟩)
      · simp only [go_sem, reduceCtorEq, reduceIte, Nat.reduceEqDiff, Nat.reduceAdd, Nat.reduceLeDiff, Nat.reduceMul, Int.reduceLT, Int.reduceLE, Int.reduceAdd, Int.reduceSub, Int.reduceMul, Int.reduceNeg, Int.reduceToNat, Int.reduceEq, hlh, decide_false]
        refine gK_of (fun h => ?_) (fun h => ?_) <;> simp only [go_sem, reduceCtorEq, reduceIte, Nat.reduceEqDiff, Nat.reduceAdd, Nat.reduceLeDiff, Nat.reduceMul, Int.reduceLT, Int.reduceLE, Int.reduceAdd, Int.reduceSub, Int.reduceMul, Int.reduceNeg, Int.reduceToNat, Int.reduceEq, h]
        all_goals exact endK_drop hM (endK_same ⟨by simp only [V.has, V.within, hno, hb, hlh, if_true, if_false, h]; simp, rfl, rfl⟩)
    · simp only [go_sem, reduceCtorEq, reduceIte, Nat.reduceEqDiff, Nat.reduceAdd, Nat.reduceLeDiff, Nat.reduceMul, Int.reduceLT, Int.reduceLE, Int.reduceAdd, Int.reduceSub, Int.reduceMul, Int.reduceNeg, Int.reduceToNat, Int.reduceEq, hb, decide_true, decide_false]
      exact endK_drop hM (endK_same ⟨by simp [V.has, hno, hb], rfl, rfl⟩)
  · simp only [go_sem, reduceCtorEq, reduceIte, Nat.reduceEqDiff, Nat.reduceAdd, Nat.reduceLeDiff, Nat.reduceMul, Int.reduceLT, Int.reduceLE, Int.reduceAdd, Int.reduceSub, Int.reduceMul, Int.reduceNeg, Int.reduceToNat, Int.reduceEq, hno]
    exact endK_drop hM (endK_same ⟨by simp [V.has, hno], rfl, rfl⟩)

theorem k142 (v : V) (n : Int) : CallsA Try.prog 142 [v.val, .int .i64 n] F M (Same F M (.bool (v.within n))) := by
  refine callsA_of hm Try.func142 e142 (Nat.le_of_ble_eq_true rfl) ?_
  simp only [c142, go_sem, reduceCtorEq, reduceIte, Nat.reduceEqDiff, Nat.reduceAdd, Nat.reduceLeDiff, Nat.reduceMul, Int.reduceLT, Int.reduceLE, Int.reduceAdd, Int.reduceSub, Int.reduceMul, Int.reduceNeg, Int.reduceToNat, Int.reduceEq]
  intro r hF hM
  simp only [go_sem, reduceCtorEq, reduceIte, Nat.reduceEqDiff, Nat.reduceAdd, Nat.reduceLeDiff, Nat.reduceMul, Int.reduceLT, Int.reduceLE, Int.reduceAdd, Int.reduceSub, Int.reduceMul, Int.reduceNeg, Int.reduceToNat, Int.reduceEq]
  by_cases hlh : v.low ≤ v.high <;> simp only [go_sem, reduceCtorEq, reduceIte, Nat.reduceEqDiff, Nat.reduceAdd, Nat.reduceLeDiff, Nat.reduceMul, Int.reduceLT, Int.reduceLE, Int.reduceAdd, Int.reduceSub, Int.reduceMul, Int.reduceNeg, Int.reduceToNat, Int.reduceEq, hlh, decide_true, decide_false]
  all_goals refine gK_of (fun h => ?_) (fun h => ?_) <;> simp only [go_sem, reduceCtorEq, reduceIte, Nat.reduceEqDiff, Nat.reduceAdd, Nat.reduceLeDiff, Nat.reduceMul, Int.reduceLT, Int.reduceLE, Int.reduceAdd, Int.reduceSub, Int.reduceMul, Int.reduceNeg, Int.reduceToNat, Int.reduceEq, h]
  all_goals exact endK_drop hM (endK_same ⟨by simp only [V.within, hlh, if_true, if_false, h]; simp, rfl, rfl⟩)

theorem k113 (v : V) (n : Int) : CallsA Try.prog 113 [v.val, .int .i64 n] F M (Same F M (.bool (v.has n))) := by
  refine callsA_of hm Try.func113 e113 (Nat.le_of_ble_eq_true rfl) ?_
  simp only [c113, go_sem, reduceCtorEq, reduceIte, Nat.reduceEqDiff, Nat.reduceAdd, Nat.reduceLeDiff, Nat.reduceMul, Int.reduceLT, Int.reduceLE, Int.reduceAdd, Int.reduceSub, Int.reduceMul, Int.reduceNeg, Int.reduceToNat, Int.reduceEq]
  intro r hF hM
  simp only [go_sem, reduceCtorEq, reduceIte, Nat.reduceEqDiff, Nat.reduceAdd, Nat.reduceLeDiff, Nat.reduceMul, Int.reduceLT, Int.reduceLE, Int.reduceAdd, Int.reduceSub, Int.reduceMul, Int.reduceNeg, Int.reduceToNat, Int.reduceEq]
  cases hno : v.no <;> simp only [go_sem, reduceCtorEq, reduceIte, Nat.reduceEqDiff, Nat.reduceAdd, Nat.reduceLeDiff, Nat.reduceMul, Int.reduceLT, Int.reduceLE, Int.reduceAdd, Int.reduceSub, Int.reduceMul, Int.reduceNeg, Int.reduceToNat, Int.reduceEq, hno]
  · by_cases hb : bclr .i64 n v.free = v.bits <;> simp only [go_sem, reduceCtorEq, reduceIte, Nat.reduceEqDiff, Nat.reduceAdd, Nat.reduceLeDiff, Nat.reduceMul, Int.reduceLT, Int.reduceLE, Int.reduceAdd, Int.reduceSub, Int.reduceMul, Int.reduceNeg, Int.reduceToNat, Int.reduceEq, hb, decide_true, decide_false]
    · refine callK_same (k142 F _ v n) ?_
      simp only [go_sem, reduceCtorEq, reduceIte, Nat.reduceEqDiff, Nat.reduceAdd, Nat.reduceLeDiff, Nat.reduceMul, Int.reduceLT, Int.reduceLE, Int.reduceAdd, Int.reduceSub, Int.reduceMul, Int.reduceNeg, Int.reduceToNat, Int.reduceEq]
      exact endK_drop hM (endK_same ⟨by simp [V.has, hno, hb], rfl, rfl⟩)
    · exact endK_drop hM (endK_same ⟨by simp [V.has, hno, hb], rfl, rfl⟩)
  · exact endK_drop hM (endK_same ⟨by simp [V.has, hno], rfl, rfl⟩)

theorem k34 (a b : Option Addr) (n m c d : Nat) : CallsA Try.prog 34 [.agg #[.slice a n c, .slice b m d]] F M
    (Same F M (.bool (decide (100 < (n : Int)) || decide (100 < (m : Int))))) := by
  refine callsA_of hm Try.func34 e34 (Nat.le_of_ble_eq_true rfl) ?_
  simp only [c34, go_sem, reduceCtorEq, reduceIte, Nat.reduceEqDiff, Nat.reduceAdd, Nat.reduceLeDiff, Nat.reduceMul, Int.reduceLT, Int.reduceLE, Int.reduceAdd, Int.reduceSub, Int.reduceMul, Int.reduceNeg, Int.reduceToNat, Int.reduceEq]
  intro r hF hM
  simp only [go_sem, reduceCtorEq, reduceIte, Nat.reduceEqDiff, Nat.reduceAdd, Nat.reduceLeDiff, Nat.reduceMul, Int.reduceLT, Int.reduceLE, Int.reduceAdd, Int.reduceSub, Int.reduceMul, Int.reduceNeg, Int.reduceToNat, Int.reduceEq]
  repeat' (refine gK_of (fun h => ?_) (fun h => ?_) <;> simp only [go_sem, reduceCtorEq, reduceIte, Nat.reduceEqDiff, Nat.reduceAdd, Nat.reduceLeDiff, Nat.reduceMul, Int.reduceLT, Int.reduceLE, Int.reduceAdd, Int.reduceSub, Int.reduceMul, Int.reduceNeg, Int.reduceToNat, Int.reduceEq, h])
  all_goals exact endK_drop hM (endK_same ⟨by simp only [h, Bool.false_or, Bool.true_or, Bool.not_false, Bool.not_true], rfl, rfl⟩)

def mayI (v : V) (F : Fz) (M : Hp) (r r1 : Nat) (m : Nat) (σ : Env) (F' : Fz) (M' : Hp) : Prop :=
  F' = F ∧ M' = (M.upd r ⟨v.cs, 34, 6⟩).upd r1 ⟨[.int .i64 v.low, .int .i64 v.high, .int .i64 v.free, .int .i64 v.bits], 3, 4⟩ ∧
      Ax.look σ 1 = some (.pointer (some ⟨r, 0, none⟩)) ∧ Ax.look σ 24 = some (.slice (some ⟨r1, 0, none⟩) 4 4) ∧ Ax.look σ 25 = some (.int .i64 4) ∧ 
      (m = 4 ∧ Ax.look σ 26 = some (.int .i64 0) ∨ m = 3 ∧ Ax.look σ 26 = some (.int .i64 1) ∧ isN v.low v.w = true ∨ m = 2 ∧ Ax.look σ 26 = some (.int .i64 2) ∧ isN v.low v.w = true ∧ isN v.high v.w = true ∨
       m = 1 ∧ Ax.look σ 26 = some (.int .i64 3) ∧ isN v.low v.w = true ∧ isN v.high v.w = true ∧ isN v.free v.w = true ∨
       m = 0 ∧ Ax.look σ 26 = some (.int .i64 4) ∧ isN v.low v.w = true ∧ isN v.high v.w = true ∧ isN v.free v.w = true ∧ isN v.bits v.w = true)
theorem k74 (v : V) : CallsA Try.prog 74 [v.val] F M (Same F M (.bool v.ok)) := by
  refine callsA_of hm Try.func74 e74 (Nat.le_of_ble_eq_true rfl) ?_
  simp only [c74, go_sem, reduceCtorEq, reduceIte, Nat.reduceEqDiff, Nat.reduceAdd, Nat.reduceLeDiff, Nat.reduceMul, Int.reduceLT, Int.reduceLE, Int.reduceAdd, Int.reduceSub, Int.reduceMul, Int.reduceNeg, Int.reduceToNat, Int.reduceEq]
  intro r hF hM
  simp only [go_sem, reduceCtorEq, reduceIte, Nat.reduceEqDiff, Nat.reduceAdd, Nat.reduceLeDiff, Nat.reduceMul, Int.reduceLT, Int.reduceLE, Int.reduceAdd, Int.reduceSub, Int.reduceMul, Int.reduceNeg, Int.reduceToNat, Int.reduceEq]
  refine callK_same (k114 F _ v.w) ?_
  cases hw : isW v.w
  · simp only [go_sem, reduceCtorEq, reduceIte, Nat.reduceEqDiff, Nat.reduceAdd, Nat.reduceLeDiff, Nat.reduceMul, Int.reduceLT, Int.reduceLE, Int.reduceAdd, Int.reduceSub, Int.reduceMul, Int.reduceNeg, Int.reduceToNat, Int.reduceEq]
    exact endK_drop hM (endK_same ⟨by simp [V.ok, hw], rfl, rfl⟩)
  have hl := isW_le hw
  cases hno : v.no
  · simp only [go_sem, reduceCtorEq, reduceIte, Nat.reduceEqDiff, Nat.reduceAdd, Nat.reduceLeDiff, Nat.reduceMul, Int.reduceLT, Int.reduceLE, Int.reduceAdd, Int.reduceSub, Int.reduceMul, Int.reduceNeg, Int.reduceToNat, Int.reduceEq, hno]
    intro r1 hF1 hM1
    have hr := fresh_of hM1
    simp only [go_sem, reduceCtorEq, reduceIte, Nat.reduceEqDiff, Nat.reduceAdd, Nat.reduceLeDiff, Nat.reduceMul, Int.reduceLT, Int.reduceLE, Int.reduceAdd, Int.reduceSub, Int.reduceMul, Int.reduceNeg, Int.reduceToNat, Int.reduceEq]
    refine loop_of (mayI v F M r r1) 4 ?_ ?_
    · simp only [mayI, go_sem, reduceCtorEq, reduceIte, Nat.reduceEqDiff, Nat.reduceAdd, Nat.reduceLeDiff, Nat.reduceMul, Int.reduceLT, Int.reduceLE, Int.reduceAdd, Int.reduceSub, Int.reduceMul, Int.reduceNeg, Int.reduceToNat, Int.reduceEq, hr]
    · rintro m σ F' M' ⟨rfl, rfl, h1, h24, h25, h26⟩
      rcases h26 with ⟨rfl, h26⟩ | ⟨rfl, h26, g1⟩ | ⟨rfl, h26, g1, g2⟩ | ⟨rfl, h26, g1, g2, g3⟩ | ⟨rfl, h26, g1, g2, g3, g4⟩
      · simp only [go_sem, reduceCtorEq, reduceIte, Nat.reduceEqDiff, Nat.reduceAdd, Nat.reduceLeDiff, Nat.reduceMul, Int.reduceLT, Int.reduceLE, Int.reduceAdd, Int.reduceSub, Int.reduceMul, Int.reduceNeg, Int.reduceToNat, Int.reduceEq, h1, h24, h25, h26, hr]
        refine callK_same (k116 F' _ v.low v.w hl.1 hl.2) ?_
        cases g : isN v.low v.w
        · simp only [go_sem, reduceCtorEq, reduceIte, Nat.reduceEqDiff, Nat.reduceAdd, Nat.reduceLeDiff, Nat.reduceMul, Int.reduceLT, Int.reduceLE, Int.reduceAdd, Int.reduceSub, Int.reduceMul, Int.reduceNeg, Int.reduceToNat, Int.reduceEq]
          exact endK_drop hM1 (endK_drop hM (endK_same ⟨by simp [V.ok, hw, hno, g], rfl, rfl⟩))
        · simp only [go_sem, reduceCtorEq, reduceIte, Nat.reduceEqDiff, Nat.reduceAdd, Nat.reduceLeDiff, Nat.reduceMul, Int.reduceLT, Int.reduceLE, Int.reduceAdd, Int.reduceSub, Int.reduceMul, Int.reduceNeg, Int.reduceToNat, Int.reduceEq, h26]
          exact ⟨3, by omega, rfl, rfl, h1, h24, h25, by simp [go_sem, go_sem, reduceCtorEq, reduceIte, Nat.reduceEqDiff, Nat.reduceAdd, Nat.reduceLeDiff, Nat.reduceMul, Int.reduceLT, Int.reduceLE, Int.reduceAdd, Int.reduceSub, Int.reduceMul, Int.reduceNeg, Int.reduceToNat, Int.reduceEq, g]⟩
      · simp only [go_sem, reduceCtorEq, reduceIte, Nat.reduceEqDiff, Nat.reduceAdd, Nat.reduceLeDiff, Nat.reduceMul, Int.reduceLT, Int.reduceLE, Int.reduceAdd, Int.reduceSub, Int.reduceMul, Int.reduceNeg, Int.reduceToNat, Int.reduceEq, h1, h24, h25, h26, hr]
        refine callK_same (k116 F' _ v.high v.w hl.1 hl.2) ?_
        cases g : isN v.high v.w
        · simp only [go_sem, reduceCtorEq, reduceIte, Nat.reduceEqDiff, Nat.reduceAdd, Nat.reduceLeDiff, Nat.reduceMul, Int.reduceLT, Int.reduceLE, Int.reduceAdd, Int.reduceSub, Int.reduceMul, Int.reduceNeg, Int.reduceToNat, Int.reduceEq]
          exact endK_drop hM1 (endK_drop hM (endK_same ⟨by simp [V.ok, hw, hno, g], rfl, rfl⟩))
        · simp only [go_sem, reduceCtorEq, reduceIte, Nat.reduceEqDiff, Nat.reduceAdd, Nat.reduceLeDiff, Nat.reduceMul, Int.reduceLT, Int.reduceLE, Int.reduceAdd, Int.reduceSub, Int.reduceMul, Int.reduceNeg, Int.reduceToNat, Int.reduceEq, h26]
          exact ⟨2, by omega, rfl, rfl, h1, h24, h25, by simp [go_sem, go_sem, reduceCtorEq, reduceIte, Nat.reduceEqDiff, Nat.reduceAdd, Nat.reduceLeDiff, Nat.reduceMul, Int.reduceLT, Int.reduceLE, Int.reduceAdd, Int.reduceSub, Int.reduceMul, Int.reduceNeg, Int.reduceToNat, Int.reduceEq, g, g1]⟩
      · simp only [go_sem, reduceCtorEq, reduceIte, Nat.reduceEqDiff, Nat.reduceAdd, Nat.reduceLeDiff, Nat.reduceMul, Int.reduceLT, Int.reduceLE, Int.reduceAdd, Int.reduceSub, Int.reduceMul, Int.reduceNeg, Int.reduceToNat, Int.reduceEq, h1, h24, h25, h26, hr]
        refine callK_same (k116 F' _ v.free v.w hl.1 hl.2) ?_
        cases g : isN v.free v.w
        · simp only [go_sem, reduceCtorEq, reduceIte, Nat.reduceEqDiff, Nat.reduceAdd, Nat.reduceLeDiff, Nat.reduceMul, Int.reduceLT, Int.reduceLE, Int.reduceAdd, Int.reduceSub, Int.reduceMul, Int.reduceNeg, Int.reduceToNat, Int.reduceEq]
          exact endK_drop hM1 (endK_drop hM (endK_same ⟨by simp [V.ok, hw, hno, g], rfl, rfl⟩))
        · simp only [go_sem, reduceCtorEq, reduceIte, Nat.reduceEqDiff, Nat.reduceAdd, Nat.reduceLeDiff, Nat.reduceMul, Int.reduceLT, Int.reduceLE, Int.reduceAdd, Int.reduceSub, Int.reduceMul, Int.reduceNeg, Int.reduceToNat, Int.reduceEq, h26]
          exact ⟨1, by omega, rfl, rfl, h1, h24, h25, by simp [go_sem, go_sem, reduceCtorEq, reduceIte, Nat.reduceEqDiff, Nat.reduceAdd, Nat.reduceLeDiff, Nat.reduceMul, Int.reduceLT, Int.reduceLE, Int.reduceAdd, Int.reduceSub, Int.reduceMul, Int.reduceNeg, Int.reduceToNat, Int.reduceEq, g, g1, g2]⟩
      · simp only [go_sem, reduceCtorEq, reduceIte, Nat.reduceEqDiff, Nat.reduceAdd, Nat.reduceLeDiff, Nat.reduceMul, Int.reduceLT, Int.reduceLE, Int.reduceAdd, Int.reduceSub, Int.reduceMul, Int.reduceNeg, Int.reduceToNat, Int.reduceEq, h1, h24, h25, h26, hr]
        refine callK_same (k116 F' _ v.bits v.w hl.1 hl.2) ?_
        cases g : isN v.bits v.w
        · simp only [go_sem, reduceCtorEq, reduceIte, Nat.reduceEqDiff, Nat.reduceAdd, Nat.reduceLeDiff, Nat.reduceMul, Int.reduceLT, Int.reduceLE, Int.reduceAdd, Int.reduceSub, Int.reduceMul, Int.reduceNeg, Int.reduceToNat, Int.reduceEq]
          exact endK_drop hM1 (endK_drop hM (endK_same ⟨by simp [V.ok, hw, hno, g], rfl, rfl⟩))
        · simp only [go_sem, reduceCtorEq, reduceIte, Nat.reduceEqDiff, Nat.reduceAdd, Nat.reduceLeDiff, Nat.reduceMul, Int.reduceLT, Int.reduceLE, Int.reduceAdd, Int.reduceSub, Int.reduceMul, Int.reduceNeg, Int.reduceToNat, Int.reduceEq, h26]
          exact ⟨0, by omega, rfl, rfl, h1, h24, h25, by simp [go_sem, go_sem, reduceCtorEq, reduceIte, Nat.reduceEqDiff, Nat.reduceAdd, Nat.reduceLeDiff, Nat.reduceMul, Int.reduceLT, Int.reduceLE, Int.reduceAdd, Int.reduceSub, Int.reduceMul, Int.reduceNeg, Int.reduceToNat, Int.reduceEq, g, g1, g2, g3]⟩
      · simp only [go_sem, reduceCtorEq, reduceIte, Nat.reduceEqDiff, Nat.reduceAdd, Nat.reduceLeDiff, Nat.reduceMul, Int.reduceLT, Int.reduceLE, Int.reduceAdd, Int.reduceSub, Int.reduceMul, Int.reduceNeg, Int.reduceToNat, Int.reduceEq, h1, h24, h25, h26, hr]
        exact endK_drop hM1 (endK_drop hM (endK_same ⟨by simp [V.ok, hw, hno, g1, g2, g3, g4], rfl, rfl⟩))
  · simp only [go_sem, reduceCtorEq, reduceIte, Nat.reduceEqDiff, Nat.reduceAdd, Nat.reduceLeDiff, Nat.reduceMul, Int.reduceLT, Int.reduceLE, Int.reduceAdd, Int.reduceSub, Int.reduceMul, Int.reduceNeg, Int.reduceToNat, Int.reduceEq, hno]
    refine callK_same (k115 F _ v.w) ?_
    simp only [go_sem, reduceCtorEq, reduceIte, Nat.reduceEqDiff, Nat.reduceAdd, Nat.reduceLeDiff, Nat.reduceMul, Int.reduceLT, Int.reduceLE, Int.reduceAdd, Int.reduceSub, Int.reduceMul, Int.reduceNeg, Int.reduceToNat, Int.reduceEq]
    exact endK_drop hM (endK_same ⟨by simp only [V.ok, hw, hno, Bool.false_xor, Bool.true_and, if_true]; rfl, rfl, rfl⟩)
end Go.Proofs.Try.K

/- Contracts: has, wakes, and the page's own next member. -/
namespace Go.Proofs.Try.K
open Go Go.Ax Go.Proofs.Try.S
set_option maxRecDepth 100000
set_option linter.unusedSimpArgs false
set_option linter.unusedVariables false
variable (F : Fz) (M : Hp)

theorem ok_isW {v : V} (h : v.ok = true) : isW v.w = true := by
  simp [V.ok] at h; exact h.1
def hasA (v : V) (n : Int) : Value := if v.ok && isN n v.w then .tuple #[.bool (v.has n), .int .i64 0] else .tuple #[.bool false, .int .i64 1]
theorem hasA_of {v : V} {n : Int} {b : Bool} (h1 : (v.ok && isN n v.w) = true) (h2 : v.has n = b) : hasA v n = .tuple #[.bool b, .int .i64 0] := by
  rw [hasA, if_pos h1, h2]
end Go.Proofs.Try.K

/- Contracts: the page's own next member, and its only one. -/
namespace Go.Proofs.Try.K
open Go Go.Ax Go.Proofs.Try.S
set_option maxRecDepth 100000
set_option linter.unusedSimpArgs false
set_option linter.unusedVariables false
variable (F : Fz) (M : Hp)

def matchI (v : V) (n : Int) (F : Fz) (M : Hp) (r : Nat) (m : Nat) (σ : Env) (F' : Fz) (M' : Hp) : Prop :=
  F' = F ∧ M' = M.upd r ⟨v.cs, 34, 6⟩ ∧ ∃ j : Nat, j + m = v.w.toNat ∧ Ax.look σ 1 = some (.int .i64 n) ∧ Ax.look σ 2 = some (.pointer (some ⟨r, 0, none⟩)) ∧ Ax.look σ 5 = some (.int .i64 j) ∧ v.matchGo n m j = v.matchF n

theorem k80 (v : V) (n : Int) (hw : v.w ≤ 62) : CallsA Try.prog 80 [v.val, .int .i64 n] F M (Same F M (.int .i64 (v.matchF n))) := by
  refine callsA_of hm Try.func80 e80 (Nat.le_of_ble_eq_true rfl) ?_
  simp only [c80, go_sem, reduceCtorEq, reduceIte, Nat.reduceEqDiff, Nat.reduceAdd, Nat.reduceLeDiff, Nat.reduceMul, Int.reduceLT, Int.reduceLE, Int.reduceAdd, Int.reduceSub, Int.reduceMul, Int.reduceNeg, Int.reduceToNat, Int.reduceEq]
  intro r hF hM
  simp only [go_sem, reduceCtorEq, reduceIte, Nat.reduceEqDiff, Nat.reduceAdd, Nat.reduceLeDiff, Nat.reduceMul, Int.reduceLT, Int.reduceLE, Int.reduceAdd, Int.reduceSub, Int.reduceMul, Int.reduceNeg, Int.reduceToNat, Int.reduceEq]
  by_cases hb : bclr .i64 n v.free = v.bits
  · simp only [go_sem, reduceCtorEq, reduceIte, Nat.reduceEqDiff, Nat.reduceAdd, Nat.reduceLeDiff, Nat.reduceMul, Int.reduceLT, Int.reduceLE, Int.reduceAdd, Int.reduceSub, Int.reduceMul, Int.reduceNeg, Int.reduceToNat, Int.reduceEq, hb]
    exact endK_drop hM (endK_same ⟨by simp [V.matchF, hb], rfl, rfl⟩)
  simp only [go_sem, reduceCtorEq, reduceIte, Nat.reduceEqDiff, Nat.reduceAdd, Nat.reduceLeDiff, Nat.reduceMul, Int.reduceLT, Int.reduceLE, Int.reduceAdd, Int.reduceSub, Int.reduceMul, Int.reduceNeg, Int.reduceToNat, Int.reduceEq, hb]
  refine loop_of (matchI v n F M r) v.w.toNat ?_ ?_
  · exact ⟨rfl, rfl, 0, by omega, by simp only [go_sem, reduceCtorEq, reduceIte, Nat.reduceEqDiff], by simp only [go_sem, reduceCtorEq, reduceIte, Nat.reduceEqDiff], by simp only [go_sem, reduceCtorEq, reduceIte, Nat.reduceEqDiff], by simp [V.matchF, hb]⟩
  · rintro m σ F' M' ⟨rfl, rfl, j, hj, h1, h2, h5, hg⟩
    by_cases hjw : (j : Int) < v.w
    · obtain ⟨f, rfl⟩ : ∃ f, m = f + 1 := ⟨m - 1, by omega⟩
      have e1 : IntKind.i64.wrap ((j : Int) + 1) = j + 1 := w64 (by omega) (by omega)
      have e2 : ¬ ((j : Int) + 1 < 0) := by omega
      have e3 : ¬ ((j : Int) < 0) := by omega
      have e4 : shlv .i64 1 (j : Int) = 2 ^ j := by rw [shl1 (by omega) (by omega)]; simp
      have e5 : IntKind.i64.wrap ((2 : Int) ^ j - 1) = 2 ^ j - 1 := by
        have := most_wrap (w := (j : Int)) (by omega) (by omega)
        simpa [mostV] using this
      simp only [go_sem, reduceCtorEq, reduceIte, Nat.reduceEqDiff, Nat.reduceAdd, Nat.reduceLeDiff, Nat.reduceMul, Int.reduceLT, Int.reduceLE, Int.reduceAdd, Int.reduceSub, Int.reduceMul, Int.reduceNeg, Int.reduceToNat, Int.reduceEq, h1, h2, h5, hjw, e1, e2, e3, e4, e5]
      simp only [V.matchGo] at hg
      by_cases a1 : shrv .i64 (bxor .i64 (bclr .i64 n v.free) v.bits) (j + 1) = 0
      · simp only [go_sem, reduceCtorEq, reduceIte, Nat.reduceEqDiff, Nat.reduceAdd, Nat.reduceLeDiff, Nat.reduceMul, Int.reduceLT, Int.reduceLE, Int.reduceAdd, Int.reduceSub, Int.reduceMul, Int.reduceNeg, Int.reduceToNat, Int.reduceEq, e1, e2, e3, e4, e5, h1, h2, h5, a1]
        by_cases a2 : band .i64 (shrv .i64 n j) 1 = 0
        · simp only [go_sem, reduceCtorEq, reduceIte, Nat.reduceEqDiff, Nat.reduceAdd, Nat.reduceLeDiff, Nat.reduceMul, Int.reduceLT, Int.reduceLE, Int.reduceAdd, Int.reduceSub, Int.reduceMul, Int.reduceNeg, Int.reduceToNat, Int.reduceEq, e1, e2, e3, e4, e5, h1, h2, h5, a2]
          by_cases a3 : band .i64 (shrv .i64 v.free j) 1 = 1
          · simp only [go_sem, reduceCtorEq, reduceIte, Nat.reduceEqDiff, Nat.reduceAdd, Nat.reduceLeDiff, Nat.reduceMul, Int.reduceLT, Int.reduceLE, Int.reduceAdd, Int.reduceSub, Int.reduceMul, Int.reduceNeg, Int.reduceToNat, Int.reduceEq, e1, e2, e3, e4, e5, h1, h2, h5, a3]
            exact endK_drop hM (endK_same ⟨by rw [← hg, V.matchStep, if_pos ⟨a1, a2, .inl a3⟩], rfl, rfl⟩)
          · simp only [go_sem, reduceCtorEq, reduceIte, Nat.reduceEqDiff, Nat.reduceAdd, Nat.reduceLeDiff, Nat.reduceMul, Int.reduceLT, Int.reduceLE, Int.reduceAdd, Int.reduceSub, Int.reduceMul, Int.reduceNeg, Int.reduceToNat, Int.reduceEq, e1, e2, e3, e4, e5, h1, h2, h5, a3]
            by_cases a4 : band .i64 (shrv .i64 v.bits j) 1 = 1
            · simp only [go_sem, reduceCtorEq, reduceIte, Nat.reduceEqDiff, Nat.reduceAdd, Nat.reduceLeDiff, Nat.reduceMul, Int.reduceLT, Int.reduceLE, Int.reduceAdd, Int.reduceSub, Int.reduceMul, Int.reduceNeg, Int.reduceToNat, Int.reduceEq, e1, e2, e3, e4, e5, h1, h2, h5, a4]
              exact endK_drop hM (endK_same ⟨by rw [← hg, V.matchStep, if_pos ⟨a1, a2, .inr a4⟩], rfl, rfl⟩)
            · simp only [go_sem, reduceCtorEq, reduceIte, Nat.reduceEqDiff, Nat.reduceAdd, Nat.reduceLeDiff, Nat.reduceMul, Int.reduceLT, Int.reduceLE, Int.reduceAdd, Int.reduceSub, Int.reduceMul, Int.reduceNeg, Int.reduceToNat, Int.reduceEq, e1, e2, e3, e4, e5, h1, h2, h5, a4]
              exact ⟨f, by omega, rfl, rfl, j + 1, by omega, by simp only [go_sem, reduceCtorEq, reduceIte, Nat.reduceEqDiff, h1], by simp only [go_sem, reduceCtorEq, reduceIte, Nat.reduceEqDiff, h2], by simp only [go_sem, reduceCtorEq, reduceIte, Nat.reduceEqDiff]; rfl, by rw [← hg, V.matchStep, if_neg (by simp [a3, a4])]⟩
        · simp only [go_sem, reduceCtorEq, reduceIte, Nat.reduceEqDiff, Nat.reduceAdd, Nat.reduceLeDiff, Nat.reduceMul, Int.reduceLT, Int.reduceLE, Int.reduceAdd, Int.reduceSub, Int.reduceMul, Int.reduceNeg, Int.reduceToNat, Int.reduceEq, e1, e2, e3, e4, e5, h1, h2, h5, a2]
          exact ⟨f, by omega, rfl, rfl, j + 1, by omega, by simp only [go_sem, reduceCtorEq, reduceIte, Nat.reduceEqDiff, h1], by simp only [go_sem, reduceCtorEq, reduceIte, Nat.reduceEqDiff, h2], by simp only [go_sem, reduceCtorEq, reduceIte, Nat.reduceEqDiff]; rfl, by rw [← hg, V.matchStep, if_neg (by simp [a2])]⟩
      · simp only [go_sem, reduceCtorEq, reduceIte, Nat.reduceEqDiff, Nat.reduceAdd, Nat.reduceLeDiff, Nat.reduceMul, Int.reduceLT, Int.reduceLE, Int.reduceAdd, Int.reduceSub, Int.reduceMul, Int.reduceNeg, Int.reduceToNat, Int.reduceEq, e1, e2, e3, e4, e5, h1, h2, h5, a1]
        exact ⟨f, by omega, rfl, rfl, j + 1, by omega, by simp only [go_sem, reduceCtorEq, reduceIte, Nat.reduceEqDiff, h1], by simp only [go_sem, reduceCtorEq, reduceIte, Nat.reduceEqDiff, h2], by simp only [go_sem, reduceCtorEq, reduceIte, Nat.reduceEqDiff]; rfl, by rw [← hg, V.matchStep, if_neg (by simp [a1])]⟩
    · simp only [go_sem, reduceCtorEq, reduceIte, Nat.reduceEqDiff, Nat.reduceAdd, Nat.reduceLeDiff, Nat.reduceMul, Int.reduceLT, Int.reduceLE, Int.reduceAdd, Int.reduceSub, Int.reduceMul, Int.reduceNeg, Int.reduceToNat, Int.reduceEq, h1, h2, h5, hjw]
      obtain rfl : m = 0 := by omega
      exact endK_drop hM (endK_same ⟨by rw [← hg]; rfl, rfl, rfl⟩)
end Go.Proofs.Try.K

/- Contracts: the page's own next member, and its only one. -/
namespace Go.Proofs.Try.K
open Go Go.Ax Go.Proofs.Try.S
set_option maxRecDepth 100000
set_option linter.unusedSimpArgs false
set_option linter.unusedVariables false
variable (F : Fz) (M : Hp)

def nextI (v : V) (n : Int) (F : Fz) (M : Hp) (r ra rb : Nat) (m : Nat) (σ : Env) (F' : Fz) (M' : Hp) : Prop :=
  F' = F ∧ M' = M ∧ Ax.look σ 1 = some (.int .i64 n) ∧ Ax.look σ 2 = some (.pointer (some ⟨r, 0, none⟩)) ∧
    Ax.look σ 5 = some (.slice (some ⟨ra, 0, none⟩) 2 2) ∧ Ax.look σ 6 = some (.slice (some ⟨rb, 0, none⟩) 2 2) ∧
    (m = 2 ∧ Ax.look σ 7 = some (.int .i64 0) ∨ m = 1 ∧ Ax.look σ 7 = some (.int .i64 1) ∧ v.tryP n v.p0 = none ∨ m = 0 ∧ Ax.look σ 7 = some (.int .i64 2) ∧ v.tryP n v.p0 = none ∧ v.tryP n v.p1 = none)

theorem k41 (v : V) (n : Int) (h0 : 0 ≤ v.w) (hw : v.w ≤ 62) : CallsA Try.prog 41 [v.val, .int .i64 n] F M (Same F M (.int .i64 (v.nextR n))) := by
  refine callsA_of hm Try.func41 e41 (Nat.le_of_ble_eq_true rfl) ?_
  simp only [c41, go_sem, reduceCtorEq, reduceIte, Nat.reduceEqDiff, Nat.reduceAdd, Nat.reduceLeDiff, Nat.reduceMul, Int.reduceLT, Int.reduceLE, Int.reduceAdd, Int.reduceSub, Int.reduceMul, Int.reduceNeg, Int.reduceToNat, Int.reduceEq]
  intro r hF hM
  simp only [go_sem, reduceCtorEq, reduceIte, Nat.reduceEqDiff, Nat.reduceAdd, Nat.reduceLeDiff, Nat.reduceMul, Int.reduceLT, Int.reduceLE, Int.reduceAdd, Int.reduceSub, Int.reduceMul, Int.reduceNeg, Int.reduceToNat, Int.reduceEq]
  have w0 : ¬ v.w < 0 := by omega
  cases hno : v.no
  rotate_left
  · simp only [go_sem, reduceCtorEq, reduceIte, Nat.reduceEqDiff, Nat.reduceAdd, Nat.reduceLeDiff, Nat.reduceMul, Int.reduceLT, Int.reduceLE, Int.reduceAdd, Int.reduceSub, Int.reduceMul, Int.reduceNeg, Int.reduceToNat, Int.reduceEq]
    exact endK_drop hM (endK_same ⟨by simp [V.nextR, hno], rfl, rfl⟩)
  by_cases hbig : 2 ^ v.w.toNat ≤ n
  · simp only [go_sem, reduceCtorEq, reduceIte, Nat.reduceEqDiff, Nat.reduceAdd, Nat.reduceLeDiff, Nat.reduceMul, Int.reduceLT, Int.reduceLE, Int.reduceAdd, Int.reduceSub, Int.reduceMul, Int.reduceNeg, Int.reduceToNat, Int.reduceEq, w0, shl1 h0 hw, hbig]
    exact endK_drop hM (endK_same ⟨by simp [V.nextR, hbig], rfl, rfl⟩)
  have hc : ¬ (v.no = true ∨ 2 ^ v.w.toNat ≤ n) := by simp [hno]; omega
  simp only [go_sem, reduceCtorEq, reduceIte, Nat.reduceEqDiff, Nat.reduceAdd, Nat.reduceLeDiff, Nat.reduceMul, Int.reduceLT, Int.reduceLE, Int.reduceAdd, Int.reduceSub, Int.reduceMul, Int.reduceNeg, Int.reduceToNat, Int.reduceEq, w0, shl1 h0 hw, hbig]
  by_cases hlh : v.high < v.low
  · have hlh' : ¬ v.low ≤ v.high := by omega
    intro rx hFx hMx
    have gx := fresh_of hMx
    simp only [go_sem, reduceCtorEq, reduceIte, Nat.reduceEqDiff, Nat.reduceAdd, Nat.reduceLeDiff, Nat.reduceMul, Int.reduceLT, Int.reduceLE, Int.reduceAdd, Int.reduceSub, Int.reduceMul, Int.reduceNeg, Int.reduceToNat, Int.reduceEq, gx]
    intro ry hFy hMy
    have gy := fresh_of hMy
    have gy' := fresh_of gy.2.2
    simp only [go_sem, reduceCtorEq, reduceIte, Nat.reduceEqDiff, Nat.reduceAdd, Nat.reduceLeDiff, Nat.reduceMul, Int.reduceLT, Int.reduceLE, Int.reduceAdd, Int.reduceSub, Int.reduceMul, Int.reduceNeg, Int.reduceToNat, Int.reduceEq, gx, gy, gy', hlh, w0, shl1 h0 hw, most_wrap h0 hw]
    intro ra hFa hMa
    simp only [go_sem, reduceCtorEq, reduceIte, Nat.reduceEqDiff, Nat.reduceAdd, Nat.reduceLeDiff, Nat.reduceMul, Int.reduceLT, Int.reduceLE, Int.reduceAdd, Int.reduceSub, Int.reduceMul, Int.reduceNeg, Int.reduceToNat, Int.reduceEq]
    intro rb hFb hMb
    have ga := fresh_of hMa
    have ga' := fresh_of ga.2.2
    have ga'' := fresh_of ga'.2.2
    have gb := fresh_of hMb
    have gb' := fresh_of gb.2.2
    have gb'' := fresh_of gb'.2.2
    have gb3 := fresh_of gb''.2.2
    simp only [go_sem, reduceCtorEq, reduceIte, Nat.reduceEqDiff, Nat.reduceAdd, Nat.reduceLeDiff, Nat.reduceMul, Int.reduceLT, Int.reduceLE, Int.reduceAdd, Int.reduceSub, Int.reduceMul, Int.reduceNeg, Int.reduceToNat, Int.reduceEq]
    have hk : Wk F (((((M.upd r ⟨v.cs, 34, 6⟩).upd rx ⟨[.int .i64 v.low, .int .i64 0], 3, 2⟩).upd ry ⟨[.int .i64 v.high, .int .i64 (-1)], 3, 2⟩).upd ra ⟨[.int .i64 0, .int .i64 v.low], 3, 2⟩).upd rb ⟨[.int .i64 v.high, .int .i64 (mostV v.w)], 3, 2⟩) F M := (Wk.drop hMb).trans ((Wk.drop hMa).trans ((Wk.drop hMy).trans ((Wk.drop hMx).trans (Wk.drop hM))))
    generalize hM' : ((((M.upd r ⟨v.cs, 34, 6⟩).upd rx ⟨[.int .i64 v.low, .int .i64 0], 3, 2⟩).upd ry ⟨[.int .i64 v.high, .int .i64 (-1)], 3, 2⟩).upd ra ⟨[.int .i64 0, .int .i64 v.low], 3, 2⟩).upd rb ⟨[.int .i64 v.high, .int .i64 (mostV v.w)], 3, 2⟩ = M' at *
    have f1 : M' r = some ⟨v.cs, 34, 6⟩ := by subst hM'; simp only [go_sem, reduceCtorEq, reduceIte, Nat.reduceEqDiff, Nat.reduceAdd, Nat.reduceLeDiff, Nat.reduceMul, Int.reduceLT, Int.reduceLE, Int.reduceAdd, Int.reduceSub, Int.reduceMul, Int.reduceNeg, Int.reduceToNat, Int.reduceEq, gx, gy, gy', ga, ga', ga'', gb, gb', gb'', gb3]
    have f2 : M' ra = some ⟨[.int .i64 v.p0.1, .int .i64 v.p1.1], 3, 2⟩ := by subst hM'; simp only [go_sem, reduceCtorEq, reduceIte, Nat.reduceEqDiff, Nat.reduceAdd, Nat.reduceLeDiff, Nat.reduceMul, Int.reduceLT, Int.reduceLE, Int.reduceAdd, Int.reduceSub, Int.reduceMul, Int.reduceNeg, Int.reduceToNat, Int.reduceEq, gx, gy, gy', ga, ga', ga'', gb, gb', gb'', gb3, V.p0, V.p1, hlh']
    have f3 : M' rb = some ⟨[.int .i64 v.p0.2, .int .i64 v.p1.2], 3, 2⟩ := by subst hM'; simp only [go_sem, reduceCtorEq, reduceIte, Nat.reduceEqDiff, Nat.reduceAdd, Nat.reduceLeDiff, Nat.reduceMul, Int.reduceLT, Int.reduceLE, Int.reduceAdd, Int.reduceSub, Int.reduceMul, Int.reduceNeg, Int.reduceToNat, Int.reduceEq, gx, gy, gy', ga, ga', ga'', gb, gb', gb'', gb3, V.p0, V.p1, hlh']
    clear hM'
    have b1 := blk_M (F := F) f1
    have b2 := blk_M (F := F) f2
    have b3 := blk_M (F := F) f3
    refine loop_of (nextI v n F M' r ra rb) 2 ?_ ?_
    · exact ⟨rfl, rfl, by simp only [go_sem, reduceCtorEq, reduceIte, Nat.reduceEqDiff], by simp only [go_sem, reduceCtorEq, reduceIte, Nat.reduceEqDiff], by simp only [go_sem, reduceCtorEq, reduceIte, Nat.reduceEqDiff], by simp only [go_sem, reduceCtorEq, reduceIte, Nat.reduceEqDiff], .inl ⟨rfl, by simp only [go_sem, reduceCtorEq, reduceIte, Nat.reduceEqDiff]⟩⟩
    · rintro m σ F'' M'' ⟨rfl, rfl, h1, h2, h5, h6, h7⟩
      rcases h7 with ⟨rfl, h7⟩ | ⟨rfl, h7, t0⟩ | ⟨rfl, h7, t0, t1⟩
      · simp only [go_sem, reduceCtorEq, reduceIte, Nat.reduceEqDiff, Nat.reduceAdd, Nat.reduceLeDiff, Nat.reduceMul, Int.reduceLT, Int.reduceLE, Int.reduceAdd, Int.reduceSub, Int.reduceMul, Int.reduceNeg, Int.reduceToNat, Int.reduceEq, f1, f2, f3, b1, b2, b3, h1, h2, h5, h6, h7]
        by_cases a1 : v.p0.2 < mx n v.p0.1
        · simp only [go_sem, reduceCtorEq, reduceIte, Nat.reduceEqDiff, Nat.reduceAdd, Nat.reduceLeDiff, Nat.reduceMul, Int.reduceLT, Int.reduceLE, Int.reduceAdd, Int.reduceSub, Int.reduceMul, Int.reduceNeg, Int.reduceToNat, Int.reduceEq, f1, f2, f3, b1, b2, b3, h1, h2, h5, h6, h7, a1]
          have t0 : v.tryP n v.p0 = none := by simp [V.tryP, a1]
          exact ⟨1, by omega, rfl, rfl, by simp only [go_sem, reduceCtorEq, reduceIte, Nat.reduceEqDiff, h1], by simp only [go_sem, reduceCtorEq, reduceIte, Nat.reduceEqDiff, h2], by simp only [go_sem, reduceCtorEq, reduceIte, Nat.reduceEqDiff, h5], by simp only [go_sem, reduceCtorEq, reduceIte, Nat.reduceEqDiff, h6], by simp only [go_sem, reduceCtorEq, reduceIte, Nat.reduceEqDiff, t0]⟩
        · simp only [go_sem, reduceCtorEq, reduceIte, Nat.reduceEqDiff, Nat.reduceAdd, Nat.reduceLeDiff, Nat.reduceMul, Int.reduceLT, Int.reduceLE, Int.reduceAdd, Int.reduceSub, Int.reduceMul, Int.reduceNeg, Int.reduceToNat, Int.reduceEq, f1, f2, f3, b1, b2, b3, h1, h2, h5, h6, h7, a1]
          refine callK_same (k80 _ _ v (mx n v.p0.1) hw) ?_
          by_cases a2 : 0 ≤ v.matchF (mx n v.p0.1)
          · simp only [go_sem, reduceCtorEq, reduceIte, Nat.reduceEqDiff, Nat.reduceAdd, Nat.reduceLeDiff, Nat.reduceMul, Int.reduceLT, Int.reduceLE, Int.reduceAdd, Int.reduceSub, Int.reduceMul, Int.reduceNeg, Int.reduceToNat, Int.reduceEq, f1, f2, f3, b1, b2, b3, h1, h2, h5, h6, h7, a1, a2]
            by_cases a3 : v.matchF (mx n v.p0.1) ≤ v.p0.2
            · simp only [go_sem, reduceCtorEq, reduceIte, Nat.reduceEqDiff, Nat.reduceAdd, Nat.reduceLeDiff, Nat.reduceMul, Int.reduceLT, Int.reduceLE, Int.reduceAdd, Int.reduceSub, Int.reduceMul, Int.reduceNeg, Int.reduceToNat, Int.reduceEq, f1, f2, f3, b1, b2, b3, h1, h2, h5, h6, h7, a1, a2, a3]
              have q : v.tryP n v.p0 = some (v.matchF (mx n v.p0.1)) := by simp [V.tryP, a1, a2, a3]
              exact ⟨_, _, hk, by simp [V.nextR, hc, q], rfl, rfl⟩
            · simp only [go_sem, reduceCtorEq, reduceIte, Nat.reduceEqDiff, Nat.reduceAdd, Nat.reduceLeDiff, Nat.reduceMul, Int.reduceLT, Int.reduceLE, Int.reduceAdd, Int.reduceSub, Int.reduceMul, Int.reduceNeg, Int.reduceToNat, Int.reduceEq, f1, f2, f3, b1, b2, b3, h1, h2, h5, h6, h7, a1, a2, a3]
              have t0 : v.tryP n v.p0 = none := by simp [V.tryP, a1, a2, a3]
              exact ⟨1, by omega, rfl, rfl, by simp only [go_sem, reduceCtorEq, reduceIte, Nat.reduceEqDiff, h1], by simp only [go_sem, reduceCtorEq, reduceIte, Nat.reduceEqDiff, h2], by simp only [go_sem, reduceCtorEq, reduceIte, Nat.reduceEqDiff, h5], by simp only [go_sem, reduceCtorEq, reduceIte, Nat.reduceEqDiff, h6], by simp only [go_sem, reduceCtorEq, reduceIte, Nat.reduceEqDiff, t0]⟩
          · simp only [go_sem, reduceCtorEq, reduceIte, Nat.reduceEqDiff, Nat.reduceAdd, Nat.reduceLeDiff, Nat.reduceMul, Int.reduceLT, Int.reduceLE, Int.reduceAdd, Int.reduceSub, Int.reduceMul, Int.reduceNeg, Int.reduceToNat, Int.reduceEq, f1, f2, f3, b1, b2, b3, h1, h2, h5, h6, h7, a1, a2]
            have t0 : v.tryP n v.p0 = none := by simp [V.tryP, a1, a2]
            exact ⟨1, by omega, rfl, rfl, by simp only [go_sem, reduceCtorEq, reduceIte, Nat.reduceEqDiff, h1], by simp only [go_sem, reduceCtorEq, reduceIte, Nat.reduceEqDiff, h2], by simp only [go_sem, reduceCtorEq, reduceIte, Nat.reduceEqDiff, h5], by simp only [go_sem, reduceCtorEq, reduceIte, Nat.reduceEqDiff, h6], by simp only [go_sem, reduceCtorEq, reduceIte, Nat.reduceEqDiff, t0]⟩
      · simp only [go_sem, reduceCtorEq, reduceIte, Nat.reduceEqDiff, Nat.reduceAdd, Nat.reduceLeDiff, Nat.reduceMul, Int.reduceLT, Int.reduceLE, Int.reduceAdd, Int.reduceSub, Int.reduceMul, Int.reduceNeg, Int.reduceToNat, Int.reduceEq, f1, f2, f3, b1, b2, b3, h1, h2, h5, h6, h7]
        by_cases a1 : v.p1.2 < mx n v.p1.1
        · simp only [go_sem, reduceCtorEq, reduceIte, Nat.reduceEqDiff, Nat.reduceAdd, Nat.reduceLeDiff, Nat.reduceMul, Int.reduceLT, Int.reduceLE, Int.reduceAdd, Int.reduceSub, Int.reduceMul, Int.reduceNeg, Int.reduceToNat, Int.reduceEq, f1, f2, f3, b1, b2, b3, h1, h2, h5, h6, h7, a1]
          have t1 : v.tryP n v.p1 = none := by simp [V.tryP, a1]
          exact ⟨0, by omega, rfl, rfl, by simp only [go_sem, reduceCtorEq, reduceIte, Nat.reduceEqDiff, h1], by simp only [go_sem, reduceCtorEq, reduceIte, Nat.reduceEqDiff, h2], by simp only [go_sem, reduceCtorEq, reduceIte, Nat.reduceEqDiff, h5], by simp only [go_sem, reduceCtorEq, reduceIte, Nat.reduceEqDiff, h6], by simp only [go_sem, reduceCtorEq, reduceIte, Nat.reduceEqDiff, t1, t0]⟩
        · simp only [go_sem, reduceCtorEq, reduceIte, Nat.reduceEqDiff, Nat.reduceAdd, Nat.reduceLeDiff, Nat.reduceMul, Int.reduceLT, Int.reduceLE, Int.reduceAdd, Int.reduceSub, Int.reduceMul, Int.reduceNeg, Int.reduceToNat, Int.reduceEq, f1, f2, f3, b1, b2, b3, h1, h2, h5, h6, h7, a1]
          refine callK_same (k80 _ _ v (mx n v.p1.1) hw) ?_
          by_cases a2 : 0 ≤ v.matchF (mx n v.p1.1)
          · simp only [go_sem, reduceCtorEq, reduceIte, Nat.reduceEqDiff, Nat.reduceAdd, Nat.reduceLeDiff, Nat.reduceMul, Int.reduceLT, Int.reduceLE, Int.reduceAdd, Int.reduceSub, Int.reduceMul, Int.reduceNeg, Int.reduceToNat, Int.reduceEq, f1, f2, f3, b1, b2, b3, h1, h2, h5, h6, h7, a1, a2]
            by_cases a3 : v.matchF (mx n v.p1.1) ≤ v.p1.2
            · simp only [go_sem, reduceCtorEq, reduceIte, Nat.reduceEqDiff, Nat.reduceAdd, Nat.reduceLeDiff, Nat.reduceMul, Int.reduceLT, Int.reduceLE, Int.reduceAdd, Int.reduceSub, Int.reduceMul, Int.reduceNeg, Int.reduceToNat, Int.reduceEq, f1, f2, f3, b1, b2, b3, h1, h2, h5, h6, h7, a1, a2, a3]
              have q : v.tryP n v.p1 = some (v.matchF (mx n v.p1.1)) := by simp [V.tryP, a1, a2, a3]
              exact ⟨_, _, hk, by simp [V.nextR, hc, q, t0], rfl, rfl⟩
            · simp only [go_sem, reduceCtorEq, reduceIte, Nat.reduceEqDiff, Nat.reduceAdd, Nat.reduceLeDiff, Nat.reduceMul, Int.reduceLT, Int.reduceLE, Int.reduceAdd, Int.reduceSub, Int.reduceMul, Int.reduceNeg, Int.reduceToNat, Int.reduceEq, f1, f2, f3, b1, b2, b3, h1, h2, h5, h6, h7, a1, a2, a3]
              have t1 : v.tryP n v.p1 = none := by simp [V.tryP, a1, a2, a3]
              exact ⟨0, by omega, rfl, rfl, by simp only [go_sem, reduceCtorEq, reduceIte, Nat.reduceEqDiff, h1], by simp only [go_sem, reduceCtorEq, reduceIte, Nat.reduceEqDiff, h2], by simp only [go_sem, reduceCtorEq, reduceIte, Nat.reduceEqDiff, h5], by simp only [go_sem, reduceCtorEq, reduceIte, Nat.reduceEqDiff, h6], by simp only [go_sem, reduceCtorEq, reduceIte, Nat.reduceEqDiff, t1, t0]⟩
          · simp only [go_sem, reduceCtorEq, reduceIte, Nat.reduceEqDiff, Nat.reduceAdd, Nat.reduceLeDiff, Nat.reduceMul, Int.reduceLT, Int.reduceLE, Int.reduceAdd, Int.reduceSub, Int.reduceMul, Int.reduceNeg, Int.reduceToNat, Int.reduceEq, f1, f2, f3, b1, b2, b3, h1, h2, h5, h6, h7, a1, a2]
            have t1 : v.tryP n v.p1 = none := by simp [V.tryP, a1, a2]
            exact ⟨0, by omega, rfl, rfl, by simp only [go_sem, reduceCtorEq, reduceIte, Nat.reduceEqDiff, h1], by simp only [go_sem, reduceCtorEq, reduceIte, Nat.reduceEqDiff, h2], by simp only [go_sem, reduceCtorEq, reduceIte, Nat.reduceEqDiff, h5], by simp only [go_sem, reduceCtorEq, reduceIte, Nat.reduceEqDiff, h6], by simp only [go_sem, reduceCtorEq, reduceIte, Nat.reduceEqDiff, t1, t0]⟩
      · simp only [go_sem, reduceCtorEq, reduceIte, Nat.reduceEqDiff, Nat.reduceAdd, Nat.reduceLeDiff, Nat.reduceMul, Int.reduceLT, Int.reduceLE, Int.reduceAdd, Int.reduceSub, Int.reduceMul, Int.reduceNeg, Int.reduceToNat, Int.reduceEq, f1, f2, f3, b1, b2, b3, h1, h2, h5, h6, h7]
        exact ⟨_, _, hk, by simp [V.nextR, hc, t0, t1], rfl, rfl⟩
  · have hlh' : v.low ≤ v.high := by omega
    intro ra hFa hMa
    have ga := fresh_of hMa
    simp only [go_sem, reduceCtorEq, reduceIte, Nat.reduceEqDiff, Nat.reduceAdd, Nat.reduceLeDiff, Nat.reduceMul, Int.reduceLT, Int.reduceLE, Int.reduceAdd, Int.reduceSub, Int.reduceMul, Int.reduceNeg, Int.reduceToNat, Int.reduceEq, ga]
    intro rb hFb hMb
    have gb := fresh_of hMb
    have gb' := fresh_of gb.2.2
    simp only [go_sem, reduceCtorEq, reduceIte, Nat.reduceEqDiff, Nat.reduceAdd, Nat.reduceLeDiff, Nat.reduceMul, Int.reduceLT, Int.reduceLE, Int.reduceAdd, Int.reduceSub, Int.reduceMul, Int.reduceNeg, Int.reduceToNat, Int.reduceEq, ga, gb, gb', hlh, w0, shl1 h0 hw, most_wrap h0 hw]
    have hk : Wk F (((M.upd r ⟨v.cs, 34, 6⟩).upd ra ⟨[.int .i64 v.low, .int .i64 0], 3, 2⟩).upd rb ⟨[.int .i64 v.high, .int .i64 (-1)], 3, 2⟩) F M := (Wk.drop hMb).trans ((Wk.drop hMa).trans (Wk.drop hM))
    generalize hM' : ((M.upd r ⟨v.cs, 34, 6⟩).upd ra ⟨[.int .i64 v.low, .int .i64 0], 3, 2⟩).upd rb ⟨[.int .i64 v.high, .int .i64 (-1)], 3, 2⟩ = M' at *
    have f1 : M' r = some ⟨v.cs, 34, 6⟩ := by subst hM'; simp only [go_sem, reduceCtorEq, reduceIte, Nat.reduceEqDiff, Nat.reduceAdd, Nat.reduceLeDiff, Nat.reduceMul, Int.reduceLT, Int.reduceLE, Int.reduceAdd, Int.reduceSub, Int.reduceMul, Int.reduceNeg, Int.reduceToNat, Int.reduceEq, ga, gb, gb']
    have f2 : M' ra = some ⟨[.int .i64 v.p0.1, .int .i64 v.p1.1], 3, 2⟩ := by subst hM'; simp only [go_sem, reduceCtorEq, reduceIte, Nat.reduceEqDiff, Nat.reduceAdd, Nat.reduceLeDiff, Nat.reduceMul, Int.reduceLT, Int.reduceLE, Int.reduceAdd, Int.reduceSub, Int.reduceMul, Int.reduceNeg, Int.reduceToNat, Int.reduceEq, ga, gb, gb', V.p0, V.p1, hlh']
    have f3 : M' rb = some ⟨[.int .i64 v.p0.2, .int .i64 v.p1.2], 3, 2⟩ := by subst hM'; simp only [go_sem, reduceCtorEq, reduceIte, Nat.reduceEqDiff, Nat.reduceAdd, Nat.reduceLeDiff, Nat.reduceMul, Int.reduceLT, Int.reduceLE, Int.reduceAdd, Int.reduceSub, Int.reduceMul, Int.reduceNeg, Int.reduceToNat, Int.reduceEq, ga, gb, gb', V.p0, V.p1, hlh']
    clear hM'
    have b1 := blk_M (F := F) f1
    have b2 := blk_M (F := F) f2
    have b3 := blk_M (F := F) f3
    refine loop_of (nextI v n F M' r ra rb) 2 ?_ ?_
    · exact ⟨rfl, rfl, by simp only [go_sem, reduceCtorEq, reduceIte, Nat.reduceEqDiff], by simp only [go_sem, reduceCtorEq, reduceIte, Nat.reduceEqDiff], by simp only [go_sem, reduceCtorEq, reduceIte, Nat.reduceEqDiff], by simp only [go_sem, reduceCtorEq, reduceIte, Nat.reduceEqDiff], .inl ⟨rfl, by simp only [go_sem, reduceCtorEq, reduceIte, Nat.reduceEqDiff]⟩⟩
    · rintro m σ F'' M'' ⟨rfl, rfl, h1, h2, h5, h6, h7⟩
      rcases h7 with ⟨rfl, h7⟩ | ⟨rfl, h7, t0⟩ | ⟨rfl, h7, t0, t1⟩
      · simp only [go_sem, reduceCtorEq, reduceIte, Nat.reduceEqDiff, Nat.reduceAdd, Nat.reduceLeDiff, Nat.reduceMul, Int.reduceLT, Int.reduceLE, Int.reduceAdd, Int.reduceSub, Int.reduceMul, Int.reduceNeg, Int.reduceToNat, Int.reduceEq, f1, f2, f3, b1, b2, b3, h1, h2, h5, h6, h7]
        by_cases a1 : v.p0.2 < mx n v.p0.1
        · simp only [go_sem, reduceCtorEq, reduceIte, Nat.reduceEqDiff, Nat.reduceAdd, Nat.reduceLeDiff, Nat.reduceMul, Int.reduceLT, Int.reduceLE, Int.reduceAdd, Int.reduceSub, Int.reduceMul, Int.reduceNeg, Int.reduceToNat, Int.reduceEq, f1, f2, f3, b1, b2, b3, h1, h2, h5, h6, h7, a1]
          have t0 : v.tryP n v.p0 = none := by simp [V.tryP, a1]
          exact ⟨1, by omega, rfl, rfl, by simp only [go_sem, reduceCtorEq, reduceIte, Nat.reduceEqDiff, h1], by simp only [go_sem, reduceCtorEq, reduceIte, Nat.reduceEqDiff, h2], by simp only [go_sem, reduceCtorEq, reduceIte, Nat.reduceEqDiff, h5], by simp only [go_sem, reduceCtorEq, reduceIte, Nat.reduceEqDiff, h6], by simp only [go_sem, reduceCtorEq, reduceIte, Nat.reduceEqDiff, t0]⟩
        · simp only [go_sem, reduceCtorEq, reduceIte, Nat.reduceEqDiff, Nat.reduceAdd, Nat.reduceLeDiff, Nat.reduceMul, Int.reduceLT, Int.reduceLE, Int.reduceAdd, Int.reduceSub, Int.reduceMul, Int.reduceNeg, Int.reduceToNat, Int.reduceEq, f1, f2, f3, b1, b2, b3, h1, h2, h5, h6, h7, a1]
          refine callK_same (k80 _ _ v (mx n v.p0.1) hw) ?_
          by_cases a2 : 0 ≤ v.matchF (mx n v.p0.1)
          · simp only [go_sem, reduceCtorEq, reduceIte, Nat.reduceEqDiff, Nat.reduceAdd, Nat.reduceLeDiff, Nat.reduceMul, Int.reduceLT, Int.reduceLE, Int.reduceAdd, Int.reduceSub, Int.reduceMul, Int.reduceNeg, Int.reduceToNat, Int.reduceEq, f1, f2, f3, b1, b2, b3, h1, h2, h5, h6, h7, a1, a2]
            by_cases a3 : v.matchF (mx n v.p0.1) ≤ v.p0.2
            · simp only [go_sem, reduceCtorEq, reduceIte, Nat.reduceEqDiff, Nat.reduceAdd, Nat.reduceLeDiff, Nat.reduceMul, Int.reduceLT, Int.reduceLE, Int.reduceAdd, Int.reduceSub, Int.reduceMul, Int.reduceNeg, Int.reduceToNat, Int.reduceEq, f1, f2, f3, b1, b2, b3, h1, h2, h5, h6, h7, a1, a2, a3]
              have q : v.tryP n v.p0 = some (v.matchF (mx n v.p0.1)) := by simp [V.tryP, a1, a2, a3]
              exact ⟨_, _, hk, by simp [V.nextR, hc, q], rfl, rfl⟩
            · simp only [go_sem, reduceCtorEq, reduceIte, Nat.reduceEqDiff, Nat.reduceAdd, Nat.reduceLeDiff, Nat.reduceMul, Int.reduceLT, Int.reduceLE, Int.reduceAdd, Int.reduceSub, Int.reduceMul, Int.reduceNeg, Int.reduceToNat, Int.reduceEq, f1, f2, f3, b1, b2, b3, h1, h2, h5, h6, h7, a1, a2, a3]
              have t0 : v.tryP n v.p0 = none := by simp [V.tryP, a1, a2, a3]
              exact ⟨1, by omega, rfl, rfl, by simp only [go_sem, reduceCtorEq, reduceIte, Nat.reduceEqDiff, h1], by simp only [go_sem, reduceCtorEq, reduceIte, Nat.reduceEqDiff, h2], by simp only [go_sem, reduceCtorEq, reduceIte, Nat.reduceEqDiff, h5], by simp only [go_sem, reduceCtorEq, reduceIte, Nat.reduceEqDiff, h6], by simp only [go_sem, reduceCtorEq, reduceIte, Nat.reduceEqDiff, t0]⟩
          · simp only [go_sem, reduceCtorEq, reduceIte, Nat.reduceEqDiff, Nat.reduceAdd, Nat.reduceLeDiff, Nat.reduceMul, Int.reduceLT, Int.reduceLE, Int.reduceAdd, Int.reduceSub, Int.reduceMul, Int.reduceNeg, Int.reduceToNat, Int.reduceEq, f1, f2, f3, b1, b2, b3, h1, h2, h5, h6, h7, a1, a2]
            have t0 : v.tryP n v.p0 = none := by simp [V.tryP, a1, a2]
            exact ⟨1, by omega, rfl, rfl, by simp only [go_sem, reduceCtorEq, reduceIte, Nat.reduceEqDiff, h1], by simp only [go_sem, reduceCtorEq, reduceIte, Nat.reduceEqDiff, h2], by simp only [go_sem, reduceCtorEq, reduceIte, Nat.reduceEqDiff, h5], by simp only [go_sem, reduceCtorEq, reduceIte, Nat.reduceEqDiff, h6], by simp only [go_sem, reduceCtorEq, reduceIte, Nat.reduceEqDiff, t0]⟩
      · simp only [go_sem, reduceCtorEq, reduceIte, Nat.reduceEqDiff, Nat.reduceAdd, Nat.reduceLeDiff, Nat.reduceMul, Int.reduceLT, Int.reduceLE, Int.reduceAdd, Int.reduceSub, Int.reduceMul, Int.reduceNeg, Int.reduceToNat, Int.reduceEq, f1, f2, f3, b1, b2, b3, h1, h2, h5, h6, h7]
        by_cases a1 : v.p1.2 < mx n v.p1.1
        · simp only [go_sem, reduceCtorEq, reduceIte, Nat.reduceEqDiff, Nat.reduceAdd, Nat.reduceLeDiff, Nat.reduceMul, Int.reduceLT, Int.reduceLE, Int.reduceAdd, Int.reduceSub, Int.reduceMul, Int.reduceNeg, Int.reduceToNat, Int.reduceEq, f1, f2, f3, b1, b2, b3, h1, h2, h5, h6, h7, a1]
          have t1 : v.tryP n v.p1 = none := by simp [V.tryP, a1]
          exact ⟨0, by omega, rfl, rfl, by simp only [go_sem, reduceCtorEq, reduceIte, Nat.reduceEqDiff, h1], by simp only [go_sem, reduceCtorEq, reduceIte, Nat.reduceEqDiff, h2], by simp only [go_sem, reduceCtorEq, reduceIte, Nat.reduceEqDiff, h5], by simp only [go_sem, reduceCtorEq, reduceIte, Nat.reduceEqDiff, h6], by simp only [go_sem, reduceCtorEq, reduceIte, Nat.reduceEqDiff, t1, t0]⟩
        · simp only [go_sem, reduceCtorEq, reduceIte, Nat.reduceEqDiff, Nat.reduceAdd, Nat.reduceLeDiff, Nat.reduceMul, Int.reduceLT, Int.reduceLE, Int.reduceAdd, Int.reduceSub, Int.reduceMul, Int.reduceNeg, Int.reduceToNat, Int.reduceEq, f1, f2, f3, b1, b2, b3, h1, h2, h5, h6, h7, a1]
          refine callK_same (k80 _ _ v (mx n v.p1.1) hw) ?_
          by_cases a2 : 0 ≤ v.matchF (mx n v.p1.1)
          · simp only [go_sem, reduceCtorEq, reduceIte, Nat.reduceEqDiff, Nat.reduceAdd, Nat.reduceLeDiff, Nat.reduceMul, Int.reduceLT, Int.reduceLE, Int.reduceAdd, Int.reduceSub, Int.reduceMul, Int.reduceNeg, Int.reduceToNat, Int.reduceEq, f1, f2, f3, b1, b2, b3, h1, h2, h5, h6, h7, a1, a2]
            by_cases a3 : v.matchF (mx n v.p1.1) ≤ v.p1.2
            · simp only [go_sem, reduceCtorEq, reduceIte, Nat.reduceEqDiff, Nat.reduceAdd, Nat.reduceLeDiff, Nat.reduceMul, Int.reduceLT, Int.reduceLE, Int.reduceAdd, Int.reduceSub, Int.reduceMul, Int.reduceNeg, Int.reduceToNat, Int.reduceEq, f1, f2, f3, b1, b2, b3, h1, h2, h5, h6, h7, a1, a2, a3]
              have q : v.tryP n v.p1 = some (v.matchF (mx n v.p1.1)) := by simp [V.tryP, a1, a2, a3]
              exact ⟨_, _, hk, by simp [V.nextR, hc, q, t0], rfl, rfl⟩
            · simp only [go_sem, reduceCtorEq, reduceIte, Nat.reduceEqDiff, Nat.reduceAdd, Nat.reduceLeDiff, Nat.reduceMul, Int.reduceLT, Int.reduceLE, Int.reduceAdd, Int.reduceSub, Int.reduceMul, Int.reduceNeg, Int.reduceToNat, Int.reduceEq, f1, f2, f3, b1, b2, b3, h1, h2, h5, h6, h7, a1, a2, a3]
              have t1 : v.tryP n v.p1 = none := by simp [V.tryP, a1, a2, a3]
              exact ⟨0, by omega, rfl, rfl, by simp only [go_sem, reduceCtorEq, reduceIte, Nat.reduceEqDiff, h1], by simp only [go_sem, reduceCtorEq, reduceIte, Nat.reduceEqDiff, h2], by simp only [go_sem, reduceCtorEq, reduceIte, Nat.reduceEqDiff, h5], by simp only [go_sem, reduceCtorEq, reduceIte, Nat.reduceEqDiff, h6], by simp only [go_sem, reduceCtorEq, reduceIte, Nat.reduceEqDiff, t1, t0]⟩
          · simp only [go_sem, reduceCtorEq, reduceIte, Nat.reduceEqDiff, Nat.reduceAdd, Nat.reduceLeDiff, Nat.reduceMul, Int.reduceLT, Int.reduceLE, Int.reduceAdd, Int.reduceSub, Int.reduceMul, Int.reduceNeg, Int.reduceToNat, Int.reduceEq, f1, f2, f3, b1, b2, b3, h1, h2, h5, h6, h7, a1, a2]
            have t1 : v.tryP n v.p1 = none := by simp [V.tryP, a1, a2]
            exact ⟨0, by omega, rfl, rfl, by simp only [go_sem, reduceCtorEq, reduceIte, Nat.reduceEqDiff, h1], by simp only [go_sem, reduceCtorEq, reduceIte, Nat.reduceEqDiff, h2], by simp only [go_sem, reduceCtorEq, reduceIte, Nat.reduceEqDiff, h5], by simp only [go_sem, reduceCtorEq, reduceIte, Nat.reduceEqDiff, h6], by simp only [go_sem, reduceCtorEq, reduceIte, Nat.reduceEqDiff, t1, t0]⟩
      · simp only [go_sem, reduceCtorEq, reduceIte, Nat.reduceEqDiff, Nat.reduceAdd, Nat.reduceLeDiff, Nat.reduceMul, Int.reduceLT, Int.reduceLE, Int.reduceAdd, Int.reduceSub, Int.reduceMul, Int.reduceNeg, Int.reduceToNat, Int.reduceEq, f1, f2, f3, b1, b2, b3, h1, h2, h5, h6, h7]
        exact ⟨_, _, hk, by simp [V.nextR, hc, t0, t1], rfl, rfl⟩
end Go.Proofs.Try.K
