/- The small codes of functions, by program (gen.py, by this workplace's session), each with the proof that it is the function's own. -/
import Derived.Test.YtjmgdglhhiccoaaGreatProg
import Derived.Test.YtjmgdglhhiccoaaGreatS1
namespace Go.Proofs.Tryz.S
open Go Go.Ax Go.Ax.N
set_option maxRecDepth 100000

def c67 : SF := ⟨63, [.t 4], (.seq (.ops [k 2 (.bx 28 (t 0)),
 o 4 (.mv (b false))])
 (.seq (.ops [o 8 (.ld true 7 (t 2)),
 k 9 (.ca (.func 105) [(t 8)]),
 o 5 (.mv (t 9))])
 (.seq (.seq (.ops [o 10 (.mv (t 1)),
 k 11 (.ca (.func 106) [(t 10)]),
 o 12 (.un .not (t 11)),
 o 13 (.mv (t 12)),
 og 14 13 false (.mv (t 1)),
 og 15 13 false (.ln (t 14)),
 og 16 13 false (.mv (t 5)),
 og 17 13 false (.ln (t 16)),
 og 18 13 false (.bin .neq (t 15) (t 17)),
 o 19 (.pick (t 13) (b true) (t 18))])
 (.cond (t 19)
 (.seq (.ops [o 4 (.mv (b false))])
 .ret)
 .skip))
 (.seq (.seq (.ops [o 20 (.mv (t 1)),
 o 21 (.ln (t 20)),
 o 22 (.mv (i 0))])
 (.block 0 (.loop (.seq (.ops [o 23 (.bin .lss (t 22) (t 21))])
 (.seq (.cond (t 23)
 .skip
 (.exit 0))
 (.seq (.block 1 (.seq (.ops [o 24 (.mv (t 22)),
 o 25 (.ia 2 (t 20) (t 22)),
 o 26 (.ld true 2 (t 25)),
 k 7 (.al 54 [.int .i64 0, .slice none 0 0]),
 o 6 (.mv (t 24)),
 kn (.st [] 2 (t 7) (t 26))])
 (.seq (.opq [o 27 (.fa 0 (t 7)),
 o 28 (.ld false 1 (t 27)),
 o 29 (.bin .eql (t 28) (i 1)),
 o 30 (.mv (t 29)),
 og 31 30 true (.fa 1 (t 7)),
 og 32 30 true (.ld false 1 (t 31)),
 og 33 30 true (.ln (t 32)),
 og 34 30 true (.mv (t 5)),
 og 35 30 true (.mv (t 6)),
 og 36 30 true (.ia 1 (t 34) (t 35)),
 og 37 30 true (.ld false 1 (t 36)),
 og 38 30 true (.bin .neq (t 33) (t 37)),
 o 39 (.pick (t 30) (t 38) (b false)),
 o 40 (.mv (t 39)),
 og 41 40 false (.mv (t 6)),
 og 42 40 false (.bin .geq (t 41) (i 1)),
 og 43 40 false (.mv (t 42)),
 og 44 43 true (.mv (t 6)),
 og 45 43 true (.fa 2 (t 2)),
 og 46 43 true (.ld false 1 (t 45)),
 og 47 43 true (.ln (t 46)),
 og 48 43 true (.bin .leq (t 44) (t 47)),
 og 49 40 false (.pick (t 43) (t 48) (b false)),
 og 50 40 false (.mv (t 49)),
 og 51 50 true (.fa 0 (t 7)),
 og 52 50 true (.ld false 1 (t 51)),
 og 53 50 true (.bin .neq (t 52) (i 1)),
 og 54 40 false (.pick (t 50) (t 53) (b false)),
 o 55 (.pick (t 40) (b true) (t 54)),
 o 56 (.mv (t 55)),
 og 57 56 false (.ld true 2 (t 7)),
 og 58 56 false (.mv (t 5)),
 ⟨some 59, some (56, false), .ca (.func 107) [(t 57), (t 58)]⟩,
 og 60 56 false (.un .not (t 59)),
 o 61 (.pick (t 56) (b true) (t 60))])
 (.cond (t 61)
 (.seq (.ops [o 4 (.mv (b false))])
 .ret)
 .skip))))
 (.ops [o 62 (.bin .add (t 22) (i 1)),
 o 22 (.mv (t 62))])))))))
 (.seq (.ops [o 4 (.mv (b true))])
 .ret)))))⟩
theorem e67 : slimF Tryz.prog Tryz.f67 [[(0, []), (1, []), (2, []), (3, []), (4, []), (5, []), (6, []), (7, []), (8, []), (9, []), (10, []), (11, []), (12, []), (13, []), (14, []), (15, []), (16, []), (17, []), (18, []), (19, []), (20, []), (21, []), (22, []), (23, []), (24, []), (25, []), (26, []), (27, []), (28, []), (29, []), (30, []), (31, []), (32, []), (33, []), (34, [])]] = some c67 := by kernel_rfl
def c68 : SF := ⟨45, [.c true 4 6, .t 7], (.seq (.ops [k 3 (.bx 23 (t 0)),
 k 6 (.al 119 [.bool false, .int .i64 0, .int .i64 0, .int .i64 0]),
 o 7 (.mv (b false))])
 (.seq (.seq (.ops [o 10 (.mv (t 2)),
 o 11 (.fa 1 (t 3)),
 o 12 (.ld false 1 (t 11)),
 o 13 (.bin .rem (t 10) (t 12)),
 o 14 (.bin .neq (t 13) (i 0)),
 o 15 (.mv (t 14)),
 og 16 15 false (.mv (t 2)),
 og 17 15 false (.fa 1 (t 3)),
 og 18 15 false (.ld false 1 (t 17)),
 og 19 15 false (.bin .add (t 16) (t 18)),
 og 20 15 false (.mv (t 1)),
 og 21 15 false (.ln (t 20)),
 og 22 15 false (.bin .gtr (t 19) (t 21)),
 o 23 (.pick (t 15) (b true) (t 22))])
 (.cond (t 23)
 (.seq (.ops [o 24 (.bd [.bool false, .int .i64 0, .int .i64 0, .int .i64 0] []),
 kn (.st [] 4 (t 6) (t 24)),
 o 7 (.mv (b false))])
 .ret)
 .skip))
 (.seq (.opd [o 26 (.ld true 2 (t 3)),
 o 27 (.mv (t 1)),
 o 28 (.mv (t 2)),
 o 29 (.mv (t 2)),
 o 30 (.fa 1 (t 3)),
 o 31 (.ld false 1 (t 30)),
 o 32 (.bin .add (t 29) (t 31)),
 o 33 (.sl 5 (t 27) (some (t 28)) (some (t 32))),
 k 34 (.ca (.func 108) [(t 26), (i 7), (t 33)]),
 o 25 (.mv (t 34)),
 o 35 (.ex (t 25) 0),
 o 36 (.ex (t 25) 1),
 k 8 (.al 119 [.bool false, .int .i64 0, .int .i64 0, .int .i64 0]),
 kn (.st [] 4 (t 8) (t 35)),
 o 9 (.mv (t 36))])
 (.seq (.opq [o 37 (.ld true 4 (t 8)),
 o 38 (.mv (t 9)),
 o 39 (.bin .eql (t 38) (i 0)),
 o 40 (.mv (t 39)),
 og 41 40 true (.fa 2 (t 8)),
 og 42 40 true (.ld false 1 (t 41)),
 og 43 40 true (.bin .gtr (t 42) (i 0)),
 o 44 (.pick (t 40) (t 43) (b false)),
 kn (.st [41] 4 (t 6) (t 37)),
 o 7 (.mv (t 44))])
 .ret))))⟩
theorem e68 : slimF Tryz.prog Tryz.f68 [[(0, []), (1, []), (2, []), (3, []), (4, []), (5, []), (6, []), (7, []), (8, []), (9, []), (10, []), (11, []), (12, []), (13, []), (14, [])], [(0, []), (1, []), (2, []), (3, []), (4, []), (5, []), (6, []), (7, []), (8, [41]), (9, [])]] = some c68 := by kernel_rfl
def c69 : SF := ⟨18, [.c true 7 4], (.seq (.ops [k 3 (.bx 119 (t 1)),
 k 4 (.al 68 [.int .i64 0, .bool false, .int .i64 0, .int .i64 0, .int .i64 0, .int .i64 0, .slice none 0 0])])
 (.seq (.seq (.ops [o 5 (.mv (t 0)),
 o 6 (.bin .eql (t 5) (i 7))])
 (.cond (t 6)
 (.seq (.ops [o 7 (.fa 2 (t 3)),
 o 8 (.ld false 1 (t 7)),
 o 9 (.fa 3 (t 3)),
 o 10 (.ld false 1 (t 9)),
 k 11 (.ca (.func 109) [(t 8), (t 10)]),
 kn (.st [] 7 (t 4) (t 11))])
 .ret)
 .skip))
 (.seq (.opd [o 12 (.mv (t 0)),
 o 14 (.fa 1 (t 3)),
 o 15 (.ld false 1 (t 14)),
 k 13 (.ca (.func 112) [(t 12)]),
 k 16 (.ca (.func 111) [(t 13), (t 15)]),
 k 17 (.ca (.func 110) [(t 16)]),
 kn (.st [] 7 (t 4) (t 17))])
 .ret)))⟩
theorem e69 : slimF Tryz.prog Tryz.f69 [[(0, []), (2, []), (3, []), (1, []), (4, []), (5, []), (6, [])]] = some c69 := by kernel_rfl
def c70 : SF := ⟨36, [.c true 10 6], (.seq (.ops [k 5 (.bx 83 (t 2)),
 k 6 (.al 87 [.int .i64 0, .int .i64 0, .int .i64 0, .int .i64 0, .bool false, .int .i64 0, .int .i64 0, .int .i64 0, .int .i64 0, .slice none 0 0])])
 (.seq (.ops [o 8 (.mv (t 0)),
 o 9 (.mv (t 1)),
 o 10 (.bd [.int .i64 0, .int .i64 0, .int .i64 0, .int .i64 0, .bool false, .int .i64 0, .int .i64 0, .int .i64 0, .int .i64 0, .slice none 0 0] [(0, 1, (t 8)), (1, 1, (t 9))]),
 k 7 (.al 87 [.int .i64 0, .int .i64 0, .int .i64 0, .int .i64 0, .bool false, .int .i64 0, .int .i64 0, .int .i64 0, .int .i64 0, .slice none 0 0]),
 kn (.st [] 10 (t 7) (t 10))])
 (.seq (.seq (.ops [o 11 (.fa 0 (t 5)),
 o 12 (.ld false 1 (t 11))])
 (.block 0 (.seq (.ops [o 14 (.bin .eql (t 12) (i 1)),
 o 13 (.mv (t 14))])
 (.cond (t 13)
 (.ops [o 15 (.fa 1 (t 5)),
 o 16 (.ld false 1 (t 15)),
 k 17 (.ca (.func 111) [(i 8), (t 16)]),
 k 18 (.ca (.func 110) [(t 17)]),
 o 19 (.fa 2 (t 7)),
 kn (.st [] 1 (t 19) (i 1)),
 o 20 (.fa 3 (t 7)),
 kn (.st [] 7 (t 20) (t 18))])
 (.seq (.ops [o 22 (.bin .eql (t 12) (i 2)),
 o 21 (.mv (t 22))])
 (.cond (t 21)
 (.seq (.ops [o 23 (.fa 2 (t 5)),
 o 24 (.ld false 1 (t 23)),
 o 25 (.fa 3 (t 5)),
 o 26 (.ld false 1 (t 25)),
 k 27 (.ca (.func 109) [(t 24), (t 26)]),
 o 28 (.fa 2 (t 7)),
 kn (.st [] 1 (t 28) (i 11)),
 o 29 (.fa 3 (t 7)),
 kn (.st [] 7 (t 29) (t 27))])
 (.ops [o 30 (.fa 4 (t 5)),
 o 31 (.ld false 1 (t 30)),
 k 32 (.ca (.func 111) [(i 8), (t 31)]),
 o 33 (.fa 3 (t 7)),
 o 34 (.fa 0 (t 33)),
 kn (.st [] 6 (t 34) (t 32))]))
 .skip))))))
 (.seq (.ops [o 35 (.ld true 10 (t 7)),
 kn (.st [] 10 (t 6) (t 35))])
 .ret))))⟩
theorem e70 : slimF Tryz.prog Tryz.f70 [] = some c70 := by kernel_rfl
def c71 : SF := ⟨16, [.t 2], (.seq (.ops [o 2 (.mv (b false))])
 (.seq (.seq (.ops [o 3 (.mv (i 0))])
 (.block 0 (.loop (.seq (.seq (.ops [o 4 (.mv (t 3)),
 o 5 (.mv (t 0)),
 o 6 (.ln (t 5)),
 o 7 (.bin .lss (t 4) (t 6))])
 (.cond (t 7)
 .skip
 (.exit 0)))
 (.seq (.block 1 (.seq (.ops [o 10 (.mv (t 0)),
 o 11 (.mv (t 3)),
 o 12 (.ia 5 (t 10) (t 11)),
 o 13 (.ld true 5 (t 12)),
 k 14 (.ca (.func 113) [(t 13)]),
 o 15 (.un .not (t 14))])
 (.cond (t 15)
 (.seq (.ops [o 2 (.mv (b false))])
 .ret)
 .skip)))
 (.ops [o 8 (.mv (t 3)),
 o 9 (.bin .add (t 8) (i 1)),
 o 3 (.mv (t 9))]))))))
 (.seq (.ops [o 2 (.mv (b true))])
 .ret)))⟩
theorem e71 : slimF Tryz.prog Tryz.f71 [] = some c71 := by kernel_rfl
def c72 : SF := ⟨17, [.t 4], (.seq (.ops [k 2 (.bx 68 (t 0)),
 k 3 (.bx 68 (t 1)),
 o 4 (.mv (b false))])
 (.seq (.ops [o 5 (.fa 0 (t 2)),
 o 6 (.ld true 6 (t 5)),
 o 7 (.fa 0 (t 3)),
 o 8 (.ld true 6 (t 7)),
 o 9 (.eqs (.st [(false, 0, 1, .i), (false, 1, 1, .b), (false, 2, 1, .i), (false, 3, 1, .i), (false, 4, 1, .i), (false, 5, 1, .i)]) false (t 6) (t 8)),
 o 10 (.mv (t 9)),
 og 11 10 true (.fa 6 (t 2)),
 og 12 10 true (.ld false 1 (t 11)),
 og 13 10 true (.fa 6 (t 3)),
 og 14 10 true (.ld false 1 (t 13)),
 ⟨some 15, some (10, true), .ca (.func 114) [(t 12), (t 14)]⟩,
 o 16 (.pick (t 10) (t 15) (b false)),
 o 4 (.mv (t 16))])
 .ret))⟩
theorem e72 : slimF Tryz.prog Tryz.f72 [] = some c72 := by kernel_rfl
def c73 : SF := ⟨48, [.t 2], (.seq (.ops [k 1 (.bx 65 (t 0)),
 o 2 (.mv (b false))])
 (.seq (.seq (.ops [o 3 (.fa 0 (t 1)),
 o 4 (.ld false 1 (t 3)),
 k 5 (.ca (.func 115) [(t 4)]),
 o 6 (.un .not (t 5))])
 (.cond (t 6)
 (.seq (.ops [o 2 (.mv (b false))])
 .ret)
 .skip))
 (.seq (.seq (.ops [o 7 (.fa 1 (t 1)),
 o 8 (.ld false 1 (t 7))])
 (.cond (t 8)
 (.seq (.ops [o 9 (.ld true 6 (t 1)),
 o 10 (.fa 0 (t 1)),
 o 11 (.ld false 1 (t 10)),
 o 12 (.bd [.int .i64 0, .bool false, .int .i64 0, .int .i64 0, .int .i64 0, .int .i64 0] [(0, 1, (t 11)), (1, 1, (b true))]),
 o 13 (.eqs (.st [(false, 0, 1, .i), (false, 1, 1, .b), (false, 2, 1, .i), (false, 3, 1, .i), (false, 4, 1, .i), (false, 5, 1, .i)]) false (t 9) (t 12)),
 o 2 (.mv (t 13))])
 .ret)
 .skip))
 (.seq (.ops [o 14 (.fa 2 (t 1)),
 o 15 (.ld false 1 (t 14)),
 o 16 (.fa 0 (t 1)),
 o 17 (.ld false 1 (t 16)),
 k 18 (.ca (.func 50) [(t 15), (t 17)]),
 o 19 (.mv (t 18)),
 og 20 19 true (.fa 3 (t 1)),
 og 21 19 true (.ld false 1 (t 20)),
 og 22 19 true (.fa 0 (t 1)),
 og 23 19 true (.ld false 1 (t 22)),
 ⟨some 24, some (19, true), .ca (.func 50) [(t 21), (t 23)]⟩,
 o 25 (.pick (t 19) (t 24) (b false)),
 o 26 (.mv (t 25)),
 og 27 26 true (.fa 4 (t 1)),
 og 28 26 true (.ld false 1 (t 27)),
 og 29 26 true (.fa 0 (t 1)),
 og 30 26 true (.ld false 1 (t 29)),
 ⟨some 31, some (26, true), .ca (.func 50) [(t 28), (t 30)]⟩,
 o 32 (.pick (t 26) (t 31) (b false)),
 o 33 (.mv (t 32)),
 og 34 33 true (.fa 5 (t 1)),
 og 35 33 true (.ld false 1 (t 34)),
 og 36 33 true (.fa 0 (t 1)),
 og 37 33 true (.ld false 1 (t 36)),
 ⟨some 38, some (33, true), .ca (.func 50) [(t 35), (t 37)]⟩,
 o 39 (.pick (t 33) (t 38) (b false)),
 o 40 (.mv (t 39)),
 og 41 40 true (.fa 5 (t 1)),
 og 42 40 true (.ld false 1 (t 41)),
 og 43 40 true (.fa 4 (t 1)),
 og 44 40 true (.ld false 1 (t 43)),
 og 45 40 true (.bin .and (t 42) (t 44)),
 og 46 40 true (.bin .eql (t 45) (i 0)),
 o 47 (.pick (t 40) (t 46) (b false)),
 o 2 (.mv (t 47))])
 .ret))))⟩
theorem e73 : slimF Tryz.prog Tryz.f73 [] = some c73 := by kernel_rfl
def c74 : SF := ⟨68, [.t 2], (.seq (.ops [o 2 (.mv (b false))])
 (.seq (.seq (.ops [o 7 (.mv (t 0)),
 o 8 (.ln (t 7)),
 o 9 (.bin .gtr (t 8) (i 7))])
 (.cond (t 9)
 (.seq (.ops [o 2 (.mv (b false))])
 .ret)
 .skip))
 (.seq (.seq (.ops [o 3 (.mv (i 0))])
 (.block 0 (.loop (.seq (.seq (.ops [o 10 (.mv (t 3)),
 o 11 (.mv (t 0)),
 o 12 (.ln (t 11)),
 o 13 (.bin .lss (t 10) (t 12))])
 (.cond (t 13)
 .skip
 (.exit 0)))
 (.seq (.block 1 (.seq (.ops [o 16 (.mv (t 0)),
 o 17 (.mv (t 3)),
 o 18 (.ia 7 (t 16) (t 17)),
 o 19 (.ld true 7 (t 18)),
 k 4 (.al 157 [.int .i64 0, .int .i64 0, .bool false, .int .i64 0, .int .i64 0, .int .i64 0, .int .i64 0]),
 kn (.st [] 7 (t 4) (t 19))])
 (.seq (.seq (.opq [o 20 (.fa 0 (t 4)),
 o 21 (.ld false 1 (t 20)),
 k 22 (.ca (.func 32) [(t 21), (i 6)]),
 o 23 (.un .not (t 22)),
 o 24 (.mv (t 23)),
 og 25 24 false (.mv (t 3)),
 og 26 24 false (.bin .gtr (t 25) (i 0)),
 og 27 24 false (.mv (t 26)),
 og 28 27 true (.mv (t 0)),
 og 29 27 true (.mv (t 3)),
 og 30 27 true (.bin .sub (t 29) (i 1)),
 og 31 27 true (.ia 7 (t 28) (t 30)),
 og 32 27 true (.fa 0 (t 31)),
 og 33 27 true (.ld false 1 (t 32)),
 og 34 27 true (.fa 0 (t 4)),
 og 35 27 true (.ld false 1 (t 34)),
 og 36 27 true (.bin .geq (t 33) (t 35)),
 og 37 24 false (.pick (t 27) (t 36) (b false)),
 o 38 (.pick (t 24) (b true) (t 37)),
 o 39 (.mv (t 38)),
 og 40 39 false (.fa 1 (t 4)),
 og 41 39 false (.ld true 6 (t 40)),
 ⟨some 42, some (39, false), .ca (.func 73) [(t 41)]⟩,
 og 43 39 false (.un .not (t 42)),
 o 44 (.pick (t 39) (b true) (t 43)),
 o 45 (.mv (t 44)),
 og 46 45 false (.fa 1 (t 4)),
 og 47 45 false (.fa 0 (t 46)),
 og 48 45 false (.ld false 1 (t 47)),
 og 49 45 false (.bin .neq (t 48) (i 8)),
 o 50 (.pick (t 45) (b true) (t 49))])
 (.cond (t 50)
 (.seq (.ops [o 2 (.mv (b false))])
 .ret)
 .skip))
 (.seq (.ops [o 52 (.fa 1 (t 4)),
 o 53 (.ld true 6 (t 52)),
 k 54 (.ca (.func 78) [(t 53)]),
 o 51 (.mv (t 54)),
 o 55 (.ex (t 51) 0),
 o 56 (.ex (t 51) 1),
 o 5 (.mv (t 55)),
 o 6 (.mv (t 56))])
 (.seq (.ops [o 57 (.fa 0 (t 4)),
 o 58 (.ld false 1 (t 57)),
 o 59 (.bin .eql (t 58) (i 0)),
 o 60 (.mv (t 59)),
 og 61 60 true (.mv (t 6)),
 og 62 60 true (.un .not (t 61)),
 og 63 60 true (.mv (t 62)),
 og 64 63 false (.mv (t 5)),
 og 65 63 false (.bin .neq (t 64) (i 0)),
 og 66 60 true (.pick (t 63) (b true) (t 65)),
 o 67 (.pick (t 60) (t 66) (b false))])
 (.cond (t 67)
 (.seq (.ops [o 2 (.mv (b false))])
 .ret)
 .skip))))))
 (.ops [o 14 (.mv (t 3)),
 o 15 (.bin .add (t 14) (i 1)),
 o 3 (.mv (t 15))]))))))
 (.seq (.ops [o 2 (.mv (b true))])
 .ret))))⟩
theorem e74 : slimF Tryz.prog Tryz.f74 [[(0, []), (1, []), (2, []), (3, []), (4, []), (5, []), (6, []), (7, []), (8, []), (9, []), (10, []), (11, []), (12, []), (13, []), (14, []), (15, []), (16, []), (17, []), (18, []), (19, []), (20, []), (21, []), (22, []), (23, []), (24, []), (25, []), (26, []), (27, []), (28, []), (29, []), (30, [])]] = some c74 := by kernel_rfl
def c75 : SF := ⟨19, [.t 4], (.seq (.ops [o 4 (.mv (b false))])
 (.seq (.ops [o 5 (.mv (t 0)),
 o 6 (.ln (t 5)),
 o 7 (.bin .eql (t 6) (i 0)),
 o 8 (.mv (t 7)),
 og 9 8 false (.mv (t 0)),
 og 10 8 false (.mv (t 0)),
 og 11 8 false (.ln (t 10)),
 og 12 8 false (.bin .sub (t 11) (i 1)),
 og 13 8 false (.ia 7 (t 9) (t 12)),
 og 14 8 false (.fa 0 (t 13)),
 og 15 8 false (.ld false 1 (t 14)),
 og 16 8 false (.mv (t 1)),
 og 17 8 false (.bin .lss (t 15) (t 16)),
 o 18 (.pick (t 8) (b true) (t 17)),
 o 4 (.mv (t 18))])
 .ret))⟩
theorem e75 : slimF Tryz.prog Tryz.f75 [] = some c75 := by kernel_rfl
def c76 : SF := ⟨39, [.t 4], (.seq (.ops [k 3 (.bx 68 (t 1)),
 o 4 (.mv (b false))])
 (.seq (.seq (.ops [o 6 (.mv (t 0)),
 o 7 (.bin .neq (t 6) (i 7))])
 (.cond (t 7)
 (.seq (.ops [o 8 (.mv (t 0)),
 k 9 (.ca (.func 51) [(t 8)]),
 o 5 (.mv (t 9))])
 (.seq (.ops [o 10 (.mv (t 5)),
 o 11 (.bin .gtr (t 10) (i 0)),
 o 12 (.mv (t 11)),
 og 13 12 true (.fa 0 (t 3)),
 og 14 12 true (.ld true 6 (t 13)),
 ⟨some 15, some (12, true), .ca (.func 73) [(t 14)]⟩,
 o 16 (.pick (t 12) (t 15) (b false)),
 o 17 (.mv (t 16)),
 og 18 17 true (.fa 0 (t 3)),
 og 19 17 true (.fa 0 (t 18)),
 og 20 17 true (.ld false 1 (t 19)),
 og 21 17 true (.mv (t 5)),
 og 22 17 true (.bin .eql (t 20) (t 21)),
 o 23 (.pick (t 17) (t 22) (b false)),
 o 24 (.mv (t 23)),
 og 25 24 true (.fa 6 (t 3)),
 og 26 24 true (.ld false 1 (t 25)),
 og 27 24 true (.ln (t 26)),
 og 28 24 true (.bin .eql (t 27) (i 0)),
 o 29 (.pick (t 24) (t 28) (b false)),
 o 4 (.mv (t 29))])
 .ret))
 .skip))
 (.seq (.ops [o 30 (.fa 0 (t 3)),
 o 31 (.ld true 6 (t 30)),
 o 32 (.bd [.int .i64 0, .bool false, .int .i64 0, .int .i64 0, .int .i64 0, .int .i64 0] []),
 o 33 (.eqs (.st [(false, 0, 1, .i), (false, 1, 1, .b), (false, 2, 1, .i), (false, 3, 1, .i), (false, 4, 1, .i), (false, 5, 1, .i)]) false (t 31) (t 32)),
 o 34 (.mv (t 33)),
 og 35 34 true (.fa 6 (t 3)),
 og 36 34 true (.ld false 1 (t 35)),
 ⟨some 37, some (34, true), .ca (.func 74) [(t 36)]⟩,
 o 38 (.pick (t 34) (t 37) (b false)),
 o 4 (.mv (t 38))])
 .ret)))⟩
theorem e76 : slimF Tryz.prog Tryz.f76 [] = some c76 := by kernel_rfl
def c77 : SF := ⟨12, [.t 4], (.seq (.ops [k 2 (.bx 23 (t 0)),
 o 4 (.mv (i 0))])
 (.seq (.seq (.ops [o 5 (.mv (t 1)),
 o 6 (.bin .eql (t 5) (i 7))])
 (.cond (t 6)
 (.seq (.ops [o 7 (.fa 1 (t 2)),
 o 8 (.ld false 1 (t 7)),
 o 4 (.mv (t 8))])
 .ret)
 .skip))
 (.seq (.ops [o 9 (.mv (t 1)),
 k 10 (.ca (.func 51) [(t 9)]),
 o 11 (.bin .quo (t 10) (i 8)),
 o 4 (.mv (t 11))])
 .ret)))⟩
theorem e77 : slimF Tryz.prog Tryz.f77 [] = some c77 := by kernel_rfl
def c78 : SF := ⟨17, [.t 2, .t 3], (.seq (.ops [k 1 (.bx 65 (t 0)),
 o 2 (.mv (i 0)),
 o 3 (.mv (b false))])
 (.seq (.ops [o 5 (.ld true 6 (t 1)),
 k 6 (.ca (.func 116) [(t 5), (i 0)]),
 o 4 (.mv (t 6))])
 (.seq (.ops [o 7 (.mv (t 4)),
 o 8 (.mv (t 4)),
 o 9 (.bin .geq (t 8) (i 0)),
 o 10 (.mv (t 9)),
 og 11 10 true (.ld true 6 (t 1)),
 og 12 10 true (.mv (t 4)),
 og 13 10 true (.bin .add (t 12) (i 1)),
 ⟨some 14, some (10, true), .ca (.func 116) [(t 11), (t 13)]⟩,
 og 15 10 true (.bin .lss (t 14) (i 0)),
 o 16 (.pick (t 10) (t 15) (b false)),
 o 2 (.mv (t 7)),
 o 3 (.mv (t 16))])
 .ret)))⟩
theorem e78 : slimF Tryz.prog Tryz.f78 [] = some c78 := by kernel_rfl
def c79 : SF := ⟨74, [.c true 4 4, .t 5], (.seq (.ops [k 3 (.bx 68 (t 1)),
 k 4 (.al 119 [.bool false, .int .i64 0, .int .i64 0, .int .i64 0]),
 o 5 (.mv (b false))])
 (.seq (.seq (.ops [o 13 (.mv (t 0)),
 o 14 (.bin .neq (t 13) (i 7))])
 (.cond (t 14)
 (.seq (.ops [o 16 (.fa 0 (t 3)),
 o 17 (.ld true 6 (t 16)),
 k 18 (.ca (.func 78) [(t 17)]),
 o 15 (.mv (t 18)),
 o 19 (.ex (t 15) 0),
 o 20 (.ex (t 15) 1),
 o 6 (.mv (t 19)),
 o 7 (.mv (t 20))])
 (.seq (.ops [o 21 (.mv (t 6)),
 o 22 (.bd [.bool false, .int .i64 0, .int .i64 0, .int .i64 0] [(1, 1, (t 21))]),
 o 23 (.mv (t 7)),
 kn (.st [] 4 (t 4) (t 22)),
 o 5 (.mv (t 23))])
 .ret))
 .skip))
 (.seq (.ops [k 8 (.al 119 [.bool false, .int .i64 0, .int .i64 0, .int .i64 0])])
 (.seq (.ops [o 9 (.mv (i 0))])
 (.seq (.seq (.ops [o 10 (.mv (i 0))])
 (.block 0 (.loop (.seq (.seq (.ops [o 24 (.mv (t 10)),
 o 25 (.fa 6 (t 3)),
 o 26 (.ld false 1 (t 25)),
 o 27 (.ln (t 26)),
 o 28 (.bin .lss (t 24) (t 27))])
 (.cond (t 28)
 .skip
 (.exit 0)))
 (.seq (.block 1 (.seq (.ops [o 31 (.fa 6 (t 3)),
 o 32 (.ld false 1 (t 31)),
 o 33 (.mv (t 10)),
 o 34 (.ia 7 (t 32) (t 33)),
 o 35 (.fa 1 (t 34)),
 o 36 (.ld true 6 (t 35)),
 k 37 (.ca (.func 116) [(t 36), (i 0)]),
 o 11 (.mv (t 37))])
 (.seq (.seq (.ops [o 38 (.mv (t 11)),
 o 39 (.bin .lss (t 38) (i 0)),
 o 40 (.mv (t 39)),
 og 41 40 false (.mv (t 11)),
 og 42 40 false (.bin .gtr (t 41) (i 32)),
 o 43 (.pick (t 40) (b true) (t 42))])
 (.cond (t 43)
 (.exit 1)
 .skip))
 (.seq (.ops [o 44 (.mv (t 9)),
 o 45 (.bin .add (t 44) (i 1)),
 o 9 (.mv (t 45))])
 (.seq (.ops [o 46 (.fa 6 (t 3)),
 o 47 (.ld false 1 (t 46)),
 o 48 (.mv (t 10)),
 o 49 (.ia 7 (t 47) (t 48)),
 o 50 (.fa 1 (t 49)),
 o 51 (.ld true 6 (t 50)),
 o 52 (.mv (t 11)),
 o 53 (.bin .add (t 52) (i 1)),
 k 54 (.ca (.func 116) [(t 51), (t 53)]),
 o 12 (.mv (t 54))])
 (.seq (.seq (.ops [o 55 (.mv (t 12)),
 o 56 (.bin .geq (t 55) (i 0)),
 o 57 (.mv (t 56)),
 og 58 57 true (.mv (t 12)),
 og 59 57 true (.bin .leq (t 58) (i 32)),
 o 60 (.pick (t 57) (t 59) (b false))])
 (.cond (t 60)
 (.ops [o 61 (.mv (t 9)),
 o 62 (.bin .add (t 61) (i 1)),
 o 9 (.mv (t 62))])
 .skip))
 (.ops [o 63 (.fa 6 (t 3)),
 o 64 (.ld false 1 (t 63)),
 o 65 (.mv (t 10)),
 o 66 (.ia 7 (t 64) (t 65)),
 o 67 (.fa 0 (t 66)),
 o 68 (.ld false 1 (t 67)),
 o 69 (.mv (t 11)),
 o 70 (.bd [.bool false, .int .i64 0, .int .i64 0, .int .i64 0] [(0, 1, (b true)), (2, 1, (t 68)), (3, 1, (t 69))]),
 kn (.st [] 4 (t 8) (t 70))])))))))
 (.ops [o 29 (.mv (t 10)),
 o 30 (.bin .add (t 29) (i 1)),
 o 10 (.mv (t 30))]))))))
 (.seq (.ops [o 71 (.ld true 4 (t 8)),
 o 72 (.mv (t 9)),
 o 73 (.bin .eql (t 72) (i 1)),
 kn (.st [] 4 (t 4) (t 71)),
 o 5 (.mv (t 73))])
 .ret))))))⟩
theorem e79 : slimF Tryz.prog Tryz.f79 [] = some c79 := by kernel_rfl
def c80 : SF := ⟨31, [.t 4], (.seq (.ops [k 2 (.bx 87 (t 0)),
 k 3 (.bx 87 (t 1)),
 o 4 (.mv (b false))])
 (.seq (.ops [o 5 (.fa 0 (t 2)),
 o 6 (.ld false 1 (t 5)),
 o 7 (.fa 0 (t 3)),
 o 8 (.ld false 1 (t 7)),
 o 9 (.bin .eql (t 6) (t 8)),
 o 10 (.mv (t 9)),
 og 11 10 true (.fa 1 (t 2)),
 og 12 10 true (.ld false 1 (t 11)),
 og 13 10 true (.fa 1 (t 3)),
 og 14 10 true (.ld false 1 (t 13)),
 og 15 10 true (.bin .eql (t 12) (t 14)),
 o 16 (.pick (t 10) (t 15) (b false)),
 o 17 (.mv (t 16)),
 og 18 17 true (.fa 2 (t 2)),
 og 19 17 true (.ld false 1 (t 18)),
 og 20 17 true (.fa 2 (t 3)),
 og 21 17 true (.ld false 1 (t 20)),
 og 22 17 true (.bin .eql (t 19) (t 21)),
 o 23 (.pick (t 17) (t 22) (b false)),
 o 24 (.mv (t 23)),
 og 25 24 true (.fa 3 (t 2)),
 og 26 24 true (.ld true 7 (t 25)),
 og 27 24 true (.fa 3 (t 3)),
 og 28 24 true (.ld true 7 (t 27)),
 ⟨some 29, some (24, true), .ca (.func 72) [(t 26), (t 28)]⟩,
 o 30 (.pick (t 24) (t 29) (b false)),
 o 4 (.mv (t 30))])
 .ret))⟩
theorem e80 : slimF Tryz.prog Tryz.f80 [] = some c80 := by kernel_rfl
def c81 : SF := ⟨5, [.t 2], (.seq (.ops [o 2 (.mv (.const (.slice none 0 0)))])
 (.seq (.ops [o 3 (.mv (t 0)),
 k 4 (.ms 83 5 40 [.int .i64 0, .int .i64 0, .int .i64 0, .int .i64 0, .int .i64 0] (t 3) (t 3)),
 o 2 (.mv (t 4))])
 .ret))⟩
theorem e81 : slimF Tryz.prog Tryz.f81 [] = some c81 := by kernel_rfl
def c83 : SF := ⟨9, [.t 4], (.seq (.ops [o 4 (.mv (b false))])
 (.seq (.ops [o 5 (.mv (t 0)),
 o 6 (.mv (t 1)),
 k 7 (.ca (.func 118) [(t 5), (t 6)]),
 o 8 (.bin .geq (t 7) (i 0)),
 o 4 (.mv (t 8))])
 .ret))⟩
theorem e83 : slimF Tryz.prog Tryz.f83 [] = some c83 := by kernel_rfl
def c84 : SF := ⟨8, [.t 3], (.seq (.ops [k 2 (.bx 38 (t 0)),
 o 3 (.mv (b false))])
 (.seq (.ops [o 4 (.ld true 7 (t 1)),
 o 5 (.ld true 3 (t 2)),
 k 6 (.ca (.func 85) [(t 4), (t 5)]),
 o 7 (.un .not (t 6)),
 o 3 (.mv (t 7))])
 .ret))⟩
theorem e84 : slimF Tryz.prog Tryz.f84 [] = some c84 := by kernel_rfl
def c85 : SF := ⟨65, [.t 4], (.seq (.ops [k 2 (.bx 28 (t 0)),
 k 3 (.bx 38 (t 1)),
 o 4 (.mv (b false))])
 (.seq (.seq (.ops [o 8 (.fa 0 (t 3)),
 o 9 (.ld false 1 (t 8))])
 (.cond (t 9)
 (.seq (.ops [o 10 (.fa 1 (t 3)),
 o 11 (.ld false 1 (t 10)),
 o 12 (.ln (t 11)),
 o 13 (.fa 2 (t 3)),
 o 14 (.ld false 1 (t 13)),
 o 15 (.ln (t 14)),
 o 16 (.bin .add (t 12) (t 15)),
 o 17 (.bin .eql (t 16) (i 0)),
 o 4 (.mv (t 17))])
 .ret)
 .skip))
 (.seq (.seq (.ops [o 18 (.fa 1 (t 3)),
 o 19 (.ld false 1 (t 18)),
 o 20 (.ln (t 19)),
 o 21 (.bin .gtr (t 20) (i 200)),
 o 22 (.mv (t 21)),
 og 23 22 false (.fa 2 (t 3)),
 og 24 22 false (.ld false 1 (t 23)),
 og 25 22 false (.ln (t 24)),
 og 26 22 false (.fa 3 (t 2)),
 og 27 22 false (.ld false 1 (t 26)),
 og 28 22 false (.ln (t 27)),
 og 29 22 false (.bin .neq (t 25) (t 28)),
 o 30 (.pick (t 22) (b true) (t 29))])
 (.cond (t 30)
 (.seq (.ops [o 4 (.mv (b false))])
 .ret)
 .skip))
 (.seq (.seq (.ops [o 31 (.fa 2 (t 3)),
 o 32 (.ld false 1 (t 31)),
 k 33 (.ca (.func 58) [(t 32), (.func 119)])])
 (.cond (t 33)
 (.seq (.ops [o 4 (.mv (b false))])
 .ret)
 .skip))
 (.seq (.ops [o 34 (.ld true 7 (t 2)),
 k 35 (.ca (.func 105) [(t 34)]),
 o 5 (.mv (t 35))])
 (.seq (.seq (.ops [o 36 (.fa 1 (t 3)),
 o 37 (.ld false 1 (t 36)),
 o 38 (.ln (t 37)),
 o 39 (.mv (i 0))])
 (.block 0 (.loop (.seq (.ops [o 40 (.bin .lss (t 39) (t 38))])
 (.seq (.cond (t 40)
 .skip
 (.exit 0))
 (.seq (.block 1 (.seq (.ops [o 41 (.mv (t 39)),
 o 42 (.ia 10 (t 37) (t 39)),
 o 43 (.ld true 10 (t 42)),
 k 7 (.al 87 [.int .i64 0, .int .i64 0, .int .i64 0, .int .i64 0, .bool false, .int .i64 0, .int .i64 0, .int .i64 0, .int .i64 0, .slice none 0 0]),
 o 6 (.mv (t 41)),
 kn (.st [] 10 (t 7) (t 43))])
 (.seq (.opq [o 44 (.ld true 7 (t 2)),
 o 45 (.mv (t 5)),
 o 46 (.ld true 10 (t 7)),
 k 47 (.ca (.func 120) [(t 44), (t 45), (t 46)]),
 o 48 (.un .not (t 47)),
 o 49 (.mv (t 48)),
 og 50 49 false (.mv (t 6)),
 og 51 49 false (.bin .gtr (t 50) (i 0)),
 og 52 49 false (.mv (t 51)),
 og 53 52 true (.fa 1 (t 3)),
 og 54 52 true (.ld false 1 (t 53)),
 og 55 52 true (.mv (t 6)),
 og 56 52 true (.bin .sub (t 55) (i 1)),
 og 57 52 true (.ia 10 (t 54) (t 56)),
 og 58 52 true (.ld true 10 (t 57)),
 og 59 52 true (.ld true 10 (t 7)),
 ⟨some 60, some (52, true), .ca (.func 121) [(t 58), (t 59)]⟩,
 og 61 52 true (.bin .geq (t 60) (i 0)),
 og 62 49 false (.pick (t 52) (t 61) (b false)),
 o 63 (.pick (t 49) (b true) (t 62))])
 (.cond (t 63)
 (.seq (.ops [o 4 (.mv (b false))])
 .ret)
 .skip))))
 (.ops [o 64 (.bin .add (t 39) (i 1)),
 o 39 (.mv (t 64))])))))))
 (.seq (.ops [o 4 (.mv (b true))])
 .ret)))))))⟩
theorem e85 : slimF Tryz.prog Tryz.f85 [[(0, []), (1, []), (2, []), (3, []), (4, []), (5, []), (6, []), (7, []), (8, []), (9, []), (10, []), (11, []), (12, []), (13, []), (14, []), (15, []), (16, []), (17, []), (18, []), (19, [])]] = some c85 := by kernel_rfl
def c86 : SF := ⟨67, [.t 6], (.seq (.ops [k 3 (.bx 23 (t 0)),
 k 4 (.bx 87 (t 1)),
 o 6 (.mv (b false))])
 (.seq (.seq (.ops [o 9 (.fa 2 (t 4)),
 o 10 (.ld false 1 (t 9))])
 (.block 0 (.seq (.ops [o 12 (.bin .eql (t 10) (i 0)),
 o 11 (.mv (t 12))])
 (.cond (t 11)
 (.seq (.ops [o 13 (.mv (t 2)),
 o 14 (.ia 5 (t 13) (i 0)),
 o 15 (.fa 0 (t 14)),
 o 16 (.ld false 1 (t 15)),
 o 17 (.bin .eql (t 16) (i 0)),
 o 6 (.mv (t 17))])
 .ret)
 (.seq (.ops [o 19 (.bin .eql (t 10) (i 11)),
 o 18 (.mv (t 19))])
 (.cond (t 18)
 (.seq (.opq [o 20 (.mv (t 2)),
 o 21 (.ia 5 (t 20) (i 0)),
 o 22 (.fa 0 (t 21)),
 o 23 (.ld false 1 (t 22)),
 o 24 (.bin .eql (t 23) (i 2)),
 o 25 (.mv (t 24)),
 og 26 25 true (.fa 3 (t 4)),
 og 27 25 true (.fa 0 (t 26)),
 og 28 25 true (.ld true 6 (t 27)),
 og 29 25 true (.mv (t 2)),
 og 30 25 true (.ia 5 (t 29) (i 0)),
 og 31 25 true (.fa 4 (t 30)),
 og 32 25 true (.ld false 1 (t 31)),
 ⟨some 33, some (25, true), .ca (.func 122) [(t 28), (t 32)]⟩,
 o 34 (.pick (t 25) (t 33) (b false)),
 o 35 (.mv (t 34)),
 og 36 35 true (.fa 3 (t 4)),
 og 37 35 true (.fa 6 (t 36)),
 og 38 35 true (.ld false 1 (t 37)),
 og 39 35 true (.mv (t 2)),
 og 40 35 true (.ia 5 (t 39) (i 0)),
 og 41 35 true (.fa 2 (t 40)),
 og 42 35 true (.ld false 1 (t 41)),
 og 43 35 true (.mv (t 2)),
 og 44 35 true (.ia 5 (t 43) (i 0)),
 og 45 35 true (.fa 3 (t 44)),
 og 46 35 true (.ld false 1 (t 45)),
 ⟨some 47, some (35, true), .ca (.func 123) [(t 38), (t 42), (t 46)]⟩,
 o 48 (.pick (t 35) (t 47) (b false)),
 o 6 (.mv (t 48))])
 .ret)
 .skip))))))
 (.seq (.ops [o 50 (.ld true 2 (t 3)),
 o 51 (.fa 2 (t 4)),
 o 52 (.ld false 1 (t 51)),
 o 53 (.mv (t 2)),
 k 54 (.ca (.func 108) [(t 50), (t 52), (t 53)]),
 o 49 (.mv (t 54)),
 o 55 (.ex (t 49) 0),
 o 56 (.ex (t 49) 1),
 k 7 (.al 119 [.bool false, .int .i64 0, .int .i64 0, .int .i64 0]),
 kn (.st [] 4 (t 7) (t 55)),
 o 8 (.mv (t 56))])
 (.seq (.ops [o 57 (.mv (t 8)),
 o 58 (.bin .eql (t 57) (i 0)),
 o 59 (.mv (t 58)),
 og 60 59 true (.fa 2 (t 4)),
 og 61 59 true (.ld false 1 (t 60)),
 og 62 59 true (.fa 3 (t 4)),
 og 63 59 true (.ld true 7 (t 62)),
 og 64 59 true (.ld true 4 (t 7)),
 ⟨some 65, some (59, true), .ca (.func 124) [(t 61), (t 63), (t 64)]⟩,
 o 66 (.pick (t 59) (t 65) (b false)),
 o 6 (.mv (t 66))])
 .ret))))⟩
theorem e86 : slimF Tryz.prog Tryz.f86 [[(0, []), (1, []), (2, []), (3, []), (4, []), (5, []), (6, []), (7, []), (8, []), (9, []), (10, []), (11, []), (12, []), (13, []), (14, []), (15, []), (16, []), (17, []), (18, []), (19, []), (20, []), (21, []), (22, []), (23, []), (24, []), (25, []), (26, []), (27, []), (28, []), (29, [])]] = some c86 := by kernel_rfl
def c87 : SF := ⟨14, [.t 4], (.seq (.ops [k 2 (.bx 23 (t 0)),
 o 4 (.mv (i 0))])
 (.seq (.seq (.ops [o 5 (.mv (t 1)),
 o 6 (.bin .eql (t 5) (i 0)),
 o 7 (.mv (t 6)),
 og 8 7 false (.mv (t 1)),
 og 9 7 false (.bin .eql (t 8) (i 11)),
 o 10 (.pick (t 7) (b true) (t 9))])
 (.cond (t 10)
 (.seq (.ops [o 4 (.mv (i 1))])
 .ret)
 .skip))
 (.seq (.ops [o 11 (.ld true 2 (t 2)),
 o 12 (.mv (t 1)),
 k 13 (.ca (.func 125) [(t 11), (t 12)]),
 o 4 (.mv (t 13))])
 .ret)))⟩
theorem e87 : slimF Tryz.prog Tryz.f87 [] = some c87 := by kernel_rfl
def c88 : SF := ⟨37, [.t 4], (.seq (.ops [k 2 (.bx 65 (t 0)),
 o 4 (.mv (b false))])
 (.seq (.seq (.ops [o 5 (.fa 1 (t 2)),
 o 6 (.ld false 1 (t 5)),
 o 7 (.mv (t 6)),
 og 8 7 false (.mv (t 1)),
 og 9 7 false (.fa 4 (t 2)),
 og 10 7 false (.ld false 1 (t 9)),
 og 11 7 false (.bin .andNot (t 8) (t 10)),
 og 12 7 false (.fa 5 (t 2)),
 og 13 7 false (.ld false 1 (t 12)),
 og 14 7 false (.bin .neq (t 11) (t 13)),
 o 15 (.pick (t 7) (b true) (t 14))])
 (.cond (t 15)
 (.seq (.ops [o 4 (.mv (b false))])
 .ret)
 .skip))
 (.seq (.seq (.ops [o 16 (.fa 2 (t 2)),
 o 17 (.ld false 1 (t 16)),
 o 18 (.fa 3 (t 2)),
 o 19 (.ld false 1 (t 18)),
 o 20 (.bin .leq (t 17) (t 19))])
 (.cond (t 20)
 (.seq (.ops [o 21 (.mv (t 1)),
 o 22 (.fa 2 (t 2)),
 o 23 (.ld false 1 (t 22)),
 o 24 (.fa 3 (t 2)),
 o 25 (.ld false 1 (t 24)),
 k 26 (.ca (.func 33) [(t 21), (t 23), (t 25)]),
 o 4 (.mv (t 26))])
 .ret)
 .skip))
 (.seq (.ops [o 27 (.mv (t 1)),
 o 28 (.fa 2 (t 2)),
 o 29 (.ld false 1 (t 28)),
 o 30 (.bin .geq (t 27) (t 29)),
 o 31 (.mv (t 30)),
 og 32 31 false (.mv (t 1)),
 og 33 31 false (.fa 3 (t 2)),
 og 34 31 false (.ld false 1 (t 33)),
 og 35 31 false (.bin .leq (t 32) (t 34)),
 o 36 (.pick (t 31) (b true) (t 35)),
 o 4 (.mv (t 36))])
 .ret))))⟩
theorem e88 : slimF Tryz.prog Tryz.f88 [] = some c88 := by kernel_rfl
def c89 : SF := ⟨30, [.t 6], (.seq (.ops [o 6 (.mv (b false))])
 (.seq (.seq (.ops [o 7 (.mv (i 0))])
 (.block 0 (.loop (.seq (.seq (.ops [o 8 (.mv (t 7)),
 o 9 (.mv (t 0)),
 o 10 (.ln (t 9)),
 o 11 (.bin .lss (t 8) (t 10))])
 (.cond (t 11)
 .skip
 (.exit 0)))
 (.seq (.block 1 (.seq (.ops [o 14 (.mv (t 0)),
 o 15 (.mv (t 7)),
 o 16 (.ia 7 (t 14) (t 15)),
 o 17 (.fa 0 (t 16)),
 o 18 (.ld false 1 (t 17)),
 o 19 (.mv (t 1)),
 o 20 (.bin .eql (t 18) (t 19)),
 o 21 (.mv (t 20)),
 og 22 21 true (.mv (t 0)),
 og 23 21 true (.mv (t 7)),
 og 24 21 true (.ia 7 (t 22) (t 23)),
 og 25 21 true (.fa 1 (t 24)),
 og 26 21 true (.ld true 6 (t 25)),
 og 27 21 true (.mv (t 2)),
 ⟨some 28, some (21, true), .ca (.func 88) [(t 26), (t 27)]⟩,
 o 29 (.pick (t 21) (t 28) (b false))])
 (.cond (t 29)
 (.seq (.ops [o 6 (.mv (b true))])
 .ret)
 .skip)))
 (.ops [o 12 (.mv (t 7)),
 o 13 (.bin .add (t 12) (i 1)),
 o 7 (.mv (t 13))]))))))
 (.seq (.ops [o 6 (.mv (b false))])
 .ret)))⟩
theorem e89 : slimF Tryz.prog Tryz.f89 [] = some c89 := by kernel_rfl
def c90 : SF := ⟨106, [.c true 4 6, .t 7], (.seq (.ops [k 3 (.bx 23 (t 0)),
 k 6 (.al 119 [.bool false, .int .i64 0, .int .i64 0, .int .i64 0]),
 o 7 (.mv (i 0))])
 (.seq (.ops [o 8 (.mv (i 0))])
 (.seq (.seq (.ops [o 9 (.mv (i 0))])
 (.block 0 (.loop (.seq (.seq (.ops [o 15 (.mv (t 9)),
 o 16 (.mv (t 2)),
 o 17 (.ln (t 16)),
 o 18 (.bin .lss (t 15) (t 17))])
 (.cond (t 18)
 .skip
 (.exit 0)))
 (.seq (.block 1 (.seq (.seq (.ops [o 21 (.mv (t 2)),
 o 22 (.mv (t 9)),
 o 23 (.ia 5 (t 21) (t 22)),
 o 24 (.fa 0 (t 23)),
 o 25 (.ld false 1 (t 24)),
 o 26 (.bin .eql (t 25) (i 0))])
 (.cond (t 26)
 (.seq (.ops [o 27 (.bd [.bool false, .int .i64 0, .int .i64 0, .int .i64 0] []),
 kn (.st [] 4 (t 6) (t 27)),
 o 7 (.mv (i 7))])
 .ret)
 .skip))
 (.seq (.ops [o 28 (.mv (t 2)),
 o 29 (.mv (t 9)),
 o 30 (.ia 5 (t 28) (t 29)),
 o 31 (.fa 0 (t 30)),
 o 32 (.ld false 1 (t 31)),
 o 33 (.bin .eql (t 32) (i 2))])
 (.cond (t 33)
 (.ops [o 34 (.mv (t 8)),
 o 35 (.bin .add (t 34) (i 1)),
 o 8 (.mv (t 35))])
 .skip))))
 (.ops [o 19 (.mv (t 9)),
 o 20 (.bin .add (t 19) (i 1)),
 o 9 (.mv (t 20))]))))))
 (.seq (.seq (.ops [o 36 (.mv (t 1)),
 o 37 (.bin .eql (t 36) (i 7))])
 (.cond (t 37)
 (.seq (.seq (.ops [o 38 (.mv (t 8)),
 o 39 (.bin .eql (t 38) (i 0))])
 (.cond (t 39)
 (.seq (.seq (.ops [o 10 (.mv (i 0))])
 (.block 2 (.loop (.seq (.seq (.ops [o 40 (.mv (t 10)),
 o 41 (.mv (t 2)),
 o 42 (.ln (t 41)),
 o 43 (.bin .lss (t 40) (t 42))])
 (.cond (t 43)
 .skip
 (.exit 2)))
 (.seq (.block 3 (.seq (.ops [o 46 (.mv (t 2)),
 o 47 (.mv (t 10)),
 o 48 (.ia 5 (t 46) (t 47)),
 o 49 (.fa 1 (t 48)),
 o 50 (.ld false 1 (t 49)),
 o 51 (.bin .neq (t 50) (i 0))])
 (.cond (t 51)
 (.seq (.ops [o 52 (.bd [.bool false, .int .i64 0, .int .i64 0, .int .i64 0] []),
 kn (.st [] 4 (t 6) (t 52)),
 o 7 (.mv (i 8))])
 .ret)
 .skip)))
 (.ops [o 44 (.mv (t 10)),
 o 45 (.bin .add (t 44) (i 1)),
 o 10 (.mv (t 45))]))))))
 (.seq (.ops [o 53 (.bd [.bool false, .int .i64 0, .int .i64 0, .int .i64 0] [(0, 1, (b true))]),
 kn (.st [] 4 (t 6) (t 53)),
 o 7 (.mv (i 0))])
 .ret))
 .skip))
 (.seq (.opq [o 54 (.mv (t 2)),
 o 55 (.ia 5 (t 54) (i 0)),
 o 56 (.fa 2 (t 55)),
 o 57 (.ld false 1 (t 56)),
 o 58 (.mv (t 2)),
 o 59 (.ia 5 (t 58) (i 0)),
 o 60 (.fa 3 (t 59)),
 o 61 (.ld false 1 (t 60)),
 o 62 (.bd [.bool false, .int .i64 0, .int .i64 0, .int .i64 0] [(0, 1, (b true)), (2, 1, (t 57)), (3, 1, (t 61))]),
 k 11 (.al 119 [.bool false, .int .i64 0, .int .i64 0, .int .i64 0]),
 kn (.st [] 4 (t 11) (t 62))])
 (.seq (.seq (.ops [o 63 (.mv (t 2)),
 o 64 (.ia 5 (t 63) (i 0)),
 o 65 (.fa 0 (t 64)),
 o 66 (.ld false 1 (t 65)),
 o 67 (.bin .neq (t 66) (i 2)),
 o 68 (.mv (t 67)),
 og 69 68 false (.ld true 2 (t 3)),
 og 70 68 false (.mv (t 1)),
 og 71 68 false (.ld true 4 (t 11)),
 ⟨some 72, some (68, false), .ca (.func 127) [(t 69), (t 70), (t 71)]⟩,
 og 73 68 false (.mv (t 2)),
 ⟨some 74, some (68, false), .ca (.func 126) [(t 72), (t 73)]⟩,
 og 75 68 false (.un .not (t 74)),
 o 76 (.pick (t 68) (b true) (t 75))])
 (.cond (t 76)
 (.seq (.ops [o 77 (.bd [.bool false, .int .i64 0, .int .i64 0, .int .i64 0] []),
 kn (.st [] 4 (t 6) (t 77)),
 o 7 (.mv (i 8))])
 .ret)
 .skip))
 (.seq (.ops [o 78 (.ld true 4 (t 11)),
 kn (.st [] 4 (t 6) (t 78)),
 o 7 (.mv (i 0))])
 .ret))))
 .skip))
 (.seq (.seq (.ops [o 79 (.mv (t 8)),
 o 80 (.bin .gtr (t 79) (i 0))])
 (.cond (t 80)
 (.seq (.ops [o 81 (.bd [.bool false, .int .i64 0, .int .i64 0, .int .i64 0] []),
 kn (.st [] 4 (t 6) (t 81)),
 o 7 (.mv (i 8))])
 .ret)
 .skip))
 (.seq (.ops [o 12 (.mv (i 0))])
 (.seq (.seq (.ops [o 13 (.mv (i 0))])
 (.block 4 (.loop (.seq (.seq (.ops [o 82 (.mv (t 13)),
 o 83 (.mv (t 2)),
 o 84 (.ln (t 83)),
 o 85 (.bin .lss (t 82) (t 84))])
 (.cond (t 85)
 .skip
 (.exit 4)))
 (.seq (.block 5 (.seq (.ops [o 88 (.mv (t 2)),
 o 89 (.ln (t 88)),
 o 90 (.bin .sub (t 89) (i 1)),
 o 91 (.mv (t 13)),
 o 92 (.bin .sub (t 90) (t 91)),
 o 14 (.mv (t 92))])
 (.seq (.seq (.ops [o 93 (.fa 0 (t 3)),
 o 94 (.ld false 1 (t 93))])
 (.cond (t 94)
 (.ops [o 95 (.mv (t 13)),
 o 14 (.mv (t 95))])
 .skip))
 (.ops [o 96 (.mv (t 12)),
 o 97 (.bin .shl (t 96) (.const (.int .u64 8))),
 o 98 (.mv (t 2)),
 o 99 (.mv (t 14)),
 o 100 (.ia 5 (t 98) (t 99)),
 o 101 (.fa 1 (t 100)),
 o 102 (.ld false 1 (t 101)),
 o 103 (.bin .or (t 97) (t 102)),
 o 12 (.mv (t 103))]))))
 (.ops [o 86 (.mv (t 13)),
 o 87 (.bin .add (t 86) (i 1)),
 o 13 (.mv (t 87))]))))))
 (.seq (.ops [o 104 (.mv (t 12)),
 o 105 (.bd [.bool false, .int .i64 0, .int .i64 0, .int .i64 0] [(1, 1, (t 104))]),
 kn (.st [] 4 (t 6) (t 105)),
 o 7 (.mv (i 0))])
 .ret))))))))⟩
theorem e90 : slimF Tryz.prog Tryz.f90 [[(0, []), (1, []), (2, []), (3, []), (4, []), (5, []), (6, []), (7, []), (8, []), (9, []), (10, [])]] = some c90 := by kernel_rfl
def c91 : SF := ⟨21, [.t 6], (.seq (.ops [k 4 (.bx 68 (t 1)),
 k 5 (.bx 119 (t 2)),
 o 6 (.mv (b false))])
 (.seq (.seq (.ops [o 7 (.mv (t 0)),
 o 8 (.bin .neq (t 7) (i 7))])
 (.cond (t 8)
 (.seq (.ops [o 9 (.fa 0 (t 4)),
 o 10 (.ld true 6 (t 9)),
 o 11 (.fa 1 (t 5)),
 o 12 (.ld false 1 (t 11)),
 k 13 (.ca (.func 88) [(t 10), (t 12)]),
 o 6 (.mv (t 13))])
 .ret)
 .skip))
 (.seq (.ops [o 14 (.fa 6 (t 4)),
 o 15 (.ld false 1 (t 14)),
 o 16 (.fa 2 (t 5)),
 o 17 (.ld false 1 (t 16)),
 o 18 (.fa 3 (t 5)),
 o 19 (.ld false 1 (t 18)),
 k 20 (.ca (.func 89) [(t 15), (t 17), (t 19)]),
 o 6 (.mv (t 20))])
 .ret)))⟩
theorem e91 : slimF Tryz.prog Tryz.f91 [] = some c91 := by kernel_rfl
def c92 : SF := ⟨19, [.t 4], (.seq (.ops [o 4 (.mv (i 0))])
 (.seq (.seq (.ops [o 6 (.mv (t 0)),
 o 7 (.ln (t 6)),
 o 8 (.mv (i 0))])
 (.block 0 (.loop (.seq (.ops [o 9 (.bin .lss (t 8) (t 7))])
 (.seq (.cond (t 9)
 .skip
 (.exit 0))
 (.seq (.block 1 (.seq (.ops [o 10 (.mv (t 8)),
 o 5 (.mv (t 10))])
 (.seq (.ops [o 11 (.mv (t 1)),
 o 12 (.mv (t 0)),
 o 13 (.mv (t 5)),
 o 14 (.ia 1 (t 12) (t 13)),
 o 15 (.ld false 1 (t 14)),
 k 16 (.ca (t 11) [(t 15)])])
 (.cond (t 16)
 (.seq (.ops [o 17 (.mv (t 5)),
 o 4 (.mv (t 17))])
 .ret)
 .skip))))
 (.ops [o 18 (.bin .add (t 8) (i 1)),
 o 8 (.mv (t 18))])))))))
 (.seq (.ops [o 4 (.mv (i (-1)))])
 .ret)))⟩
theorem e92 : slimF Tryz.prog Tryz.f92 [] = some c92 := by kernel_rfl
def c93 : SF := ⟨50, [.t 4], (.seq (.ops [k 2 (.bx 111 (t 0)),
 k 3 (.bx 3 (t 1)),
 o 4 (.mv (b false))])
 (.seq (.ops [o 7 (.fa 0 (t 2)),
 o 8 (.fa 4 (t 7)),
 o 9 (.ld false 1 (t 8)),
 o 10 (.ld false 1 (t 3)),
 o 11 (.ia 5 (t 9) (t 10)),
 o 12 (.ld true 5 (t 11)),
 k 5 (.al 101 [.int .i64 0, .int .i64 0, .int .i64 0, .int .i64 0, .int .i64 0]),
 kn (.st [] 5 (t 5) (t 12))])
 (.seq (.ops [o 13 (.mf (.func 128) [] [(t 3)]),
 o 6 (.mv (t 13))])
 (.seq (.seq (.ops [o 14 (.fa 0 (t 5)),
 o 15 (.ld false 1 (t 14)),
 k 16 (.ca (.func 94) [(t 15)])])
 (.block 0 (.seq (.ops [o 18 (.bin .eql (t 16) (i 0)),
 o 17 (.mv (t 18))])
 (.cond (t 17)
 (.seq (.ops [o 19 (.fa 3 (t 5)),
 o 20 (.ld false 1 (t 19)),
 o 21 (.bin .eql (t 20) (i 0)),
 o 22 (.mv (t 21)),
 og 23 22 true (.fa 4 (t 5)),
 og 24 22 true (.ld false 1 (t 23)),
 og 25 22 true (.bin .eql (t 24) (i 0)),
 o 26 (.pick (t 22) (t 25) (b false)),
 o 4 (.mv (t 26))])
 .ret)
 (.seq (.ops [o 28 (.bin .eql (t 16) (i 1)),
 o 27 (.mv (t 28))])
 (.cond (t 27)
 (.seq (.ops [o 29 (.mv (t 6)),
 o 30 (.fa 3 (t 5)),
 o 31 (.ld false 1 (t 30)),
 k 32 (.ca (t 29) [(t 31)]),
 o 33 (.mv (t 32)),
 og 34 33 true (.fa 4 (t 5)),
 og 35 33 true (.ld false 1 (t 34)),
 og 36 33 true (.bin .eql (t 35) (i 0)),
 o 37 (.pick (t 33) (t 36) (b false)),
 o 4 (.mv (t 37))])
 .ret)
 (.seq (.ops [o 39 (.bin .eql (t 16) (i 2)),
 o 38 (.mv (t 39))])
 (.cond (t 38)
 (.seq (.ops [o 40 (.mv (t 6)),
 o 41 (.fa 3 (t 5)),
 o 42 (.ld false 1 (t 41)),
 k 43 (.ca (t 40) [(t 42)]),
 o 44 (.mv (t 43)),
 og 45 44 true (.mv (t 6)),
 og 46 44 true (.fa 4 (t 5)),
 og 47 44 true (.ld false 1 (t 46)),
 ⟨some 48, some (44, true), .ca (t 45) [(t 47)]⟩,
 o 49 (.pick (t 44) (t 48) (b false)),
 o 4 (.mv (t 49))])
 .ret)
 .skip))))))))
 (.seq (.ops [o 4 (.mv (b false))])
 .ret)))))⟩
theorem e93 : slimF Tryz.prog Tryz.f93 [] = some c93 := by kernel_rfl
def c94 : SF := ⟨24, [.t 2], (.seq (.ops [o 2 (.mv (i 0))])
 (.seq (.block 0 (.seq (.ops [o 4 (.mv (t 0)),
 o 5 (.bin .eql (t 4) (i 1)),
 o 6 (.mv (t 5)),
 og 7 6 false (.mv (t 0)),
 og 8 6 false (.bin .eql (t 7) (i 2)),
 o 9 (.pick (t 6) (b true) (t 8)),
 o 3 (.mv (t 9))])
 (.cond (t 3)
 (.seq (.ops [o 2 (.mv (i 0))])
 .ret)
 (.seq (.ops [o 11 (.mv (t 0)),
 o 12 (.bin .geq (t 11) (i 3)),
 o 13 (.mv (t 12)),
 og 14 13 true (.mv (t 0)),
 og 15 13 true (.bin .leq (t 14) (i 7)),
 o 16 (.pick (t 13) (t 15) (b false)),
 o 10 (.mv (t 16))])
 (.cond (t 10)
 (.seq (.ops [o 2 (.mv (i 1))])
 .ret)
 (.seq (.ops [o 18 (.mv (t 0)),
 o 19 (.bin .geq (t 18) (i 8)),
 o 20 (.mv (t 19)),
 og 21 20 true (.mv (t 0)),
 og 22 20 true (.bin .leq (t 21) (i 22)),
 o 23 (.pick (t 20) (t 22) (b false)),
 o 17 (.mv (t 23))])
 (.cond (t 17)
 (.seq (.ops [o 2 (.mv (i 2))])
 .ret)
 .skip)))))))
 (.seq (.ops [o 2 (.mv (i (-1)))])
 .ret)))⟩
theorem e94 : slimF Tryz.prog Tryz.f94 [] = some c94 := by kernel_rfl
def c95 : SF := ⟨46, [.t 4], (.seq (.ops [k 2 (.bx 111 (t 0)),
 k 3 (.bx 101 (t 1)),
 o 4 (.mv (b false))])
 (.seq (.seq (.ops [o 5 (.fa 0 (t 3)),
 o 6 (.ld false 1 (t 5)),
 o 7 (.bin .eql (t 6) (i 2))])
 (.cond (t 7)
 (.seq (.ops [o 8 (.fa 1 (t 3)),
 o 9 (.ld false 1 (t 8)),
 o 10 (.bin .eql (t 9) (i 7)),
 o 11 (.mv (t 10)),
 og 12 11 true (.fa 2 (t 3)),
 og 13 11 true (.ld false 1 (t 12)),
 og 14 11 true (.bin .geq (t 13) (i 1)),
 o 15 (.pick (t 11) (t 14) (b false)),
 o 16 (.mv (t 15)),
 og 17 16 true (.fa 2 (t 3)),
 og 18 16 true (.ld false 1 (t 17)),
 og 19 16 true (.fa 0 (t 2)),
 og 20 16 true (.fa 2 (t 19)),
 og 21 16 true (.ld false 1 (t 20)),
 og 22 16 true (.ln (t 21)),
 og 23 16 true (.bin .leq (t 18) (t 22)),
 o 24 (.pick (t 16) (t 23) (b false)),
 o 4 (.mv (t 24))])
 .ret)
 .skip))
 (.seq (.opd [o 25 (.fa 1 (t 3)),
 o 26 (.ld false 1 (t 25)),
 o 27 (.bin .eql (t 26) (i 7)),
 o 28 (.mv (t 27)),
 og 29 28 true (.fa 2 (t 3)),
 og 30 28 true (.ld false 1 (t 29)),
 og 31 28 true (.bin .eql (t 30) (i 0)),
 o 32 (.pick (t 28) (t 31) (b false)),
 o 33 (.mv (t 32)),
 og 34 33 false (.fa 1 (t 3)),
 og 35 33 false (.ld false 1 (t 34)),
 ⟨some 36, some (33, false), .ca (.func 102) [(t 35)]⟩,
 og 37 33 false (.mv (t 36)),
 og 38 37 true (.fa 2 (t 3)),
 og 39 37 true (.ld false 1 (t 38)),
 og 40 37 true (.fa 1 (t 3)),
 og 41 37 true (.ld false 1 (t 40)),
 ⟨some 42, some (37, true), .ca (.func 112) [(t 41)]⟩,
 ⟨some 43, some (37, true), .ca (.func 129) [(t 39), (t 42)]⟩,
 og 44 33 false (.pick (t 37) (t 43) (b false)),
 o 45 (.pick (t 33) (b true) (t 44)),
 o 4 (.mv (t 45))])
 .ret)))⟩
theorem e95 : slimF Tryz.prog Tryz.f95 [[(0, []), (1, []), (2, []), (3, []), (4, []), (5, []), (6, []), (7, []), (8, []), (9, []), (10, []), (11, []), (12, []), (13, []), (14, []), (15, []), (16, []), (17, []), (18, []), (19, []), (20, []), (21, [])]] = some c95 := by kernel_rfl
def c96 : SF := ⟨44, [.t 4], (.seq (.ops [k 2 (.bx 111 (t 0)),
 k 3 (.bx 101 (t 1)),
 o 4 (.mv (b false))])
 (.seq (.ops [o 6 (.ld true 7 (t 2)),
 o 7 (.fa 3 (t 3)),
 o 8 (.ld false 1 (t 7)),
 k 9 (.ca (.func 130) [(t 6), (t 8)]),
 o 5 (.mv (t 9))])
 (.seq (.seq (.ops [o 10 (.fa 0 (t 3)),
 o 11 (.ld false 1 (t 10))])
 (.block 0 (.seq (.ops [o 13 (.bin .eql (t 11) (i 3)),
 o 12 (.mv (t 13))])
 (.cond (t 12)
 (.seq (.ops [o 14 (.fa 1 (t 3)),
 o 15 (.ld false 1 (t 14)),
 k 16 (.ca (.func 101) [(t 15)]),
 o 17 (.mv (t 16)),
 og 18 17 true (.mv (t 5)),
 og 19 17 true (.bin .eql (t 18) (i 7)),
 o 20 (.pick (t 17) (t 19) (b false)),
 o 4 (.mv (t 20))])
 .ret)
 (.seq (.ops [o 22 (.bin .eql (t 11) (i 4)),
 o 21 (.mv (t 22))])
 (.cond (t 21)
 (.seq (.ops [o 23 (.fa 1 (t 3)),
 o 24 (.ld false 1 (t 23)),
 k 25 (.ca (.func 102) [(t 24)]),
 o 26 (.mv (t 25)),
 og 27 26 true (.mv (t 5)),
 ⟨some 28, some (26, true), .ca (.func 102) [(t 27)]⟩,
 o 29 (.pick (t 26) (t 28) (b false)),
 o 4 (.mv (t 29))])
 .ret)
 (.seq (.ops [o 31 (.bin .eql (t 11) (i 7)),
 o 30 (.mv (t 31))])
 (.cond (t 30)
 (.seq (.ops [o 32 (.fa 1 (t 3)),
 o 33 (.ld false 1 (t 32)),
 o 34 (.bin .eql (t 33) (i 6)),
 o 4 (.mv (t 34))])
 .ret)
 .skip))))))))
 (.seq (.ops [o 35 (.fa 1 (t 3)),
 o 36 (.ld false 1 (t 35)),
 k 37 (.ca (.func 102) [(t 36)]),
 o 38 (.mv (t 37)),
 og 39 38 true (.mv (t 5)),
 og 40 38 true (.fa 1 (t 3)),
 og 41 38 true (.ld false 1 (t 40)),
 og 42 38 true (.bin .eql (t 39) (t 41)),
 o 43 (.pick (t 38) (t 42) (b false)),
 o 4 (.mv (t 43))])
 .ret))))⟩
theorem e96 : slimF Tryz.prog Tryz.f96 [] = some c96 := by kernel_rfl
def c97 : SF := ⟨74, [.t 4], (.seq (.ops [k 2 (.bx 111 (t 0)),
 k 3 (.bx 101 (t 1)),
 o 4 (.mv (b false))])
 (.seq (.opd [o 7 (.ld true 7 (t 2)),
 o 8 (.fa 3 (t 3)),
 o 9 (.ld false 1 (t 8)),
 o 11 (.ld true 7 (t 2)),
 o 12 (.fa 4 (t 3)),
 o 13 (.ld false 1 (t 12)),
 k 10 (.ca (.func 130) [(t 7), (t 9)]),
 k 14 (.ca (.func 130) [(t 11), (t 13)]),
 o 5 (.mv (t 10)),
 o 6 (.mv (t 14))])
 (.seq (.seq (.ops [o 15 (.fa 0 (t 3)),
 o 16 (.ld false 1 (t 15))])
 (.block 0 (.seq (.seq (.ops [o 18 (.bin .eql (t 16) (i 18)),
 o 17 (.mv (t 18))])
 (.cond (t 17)
 .skip
 (.ops [o 19 (.bin .eql (t 16) (i 19)),
 o 17 (.mv (t 19))])))
 (.cond (t 17)
 (.seq (.ops [o 20 (.fa 1 (t 3)),
 o 21 (.ld false 1 (t 20)),
 o 22 (.bin .eql (t 21) (i 6)),
 o 23 (.mv (t 22)),
 og 24 23 true (.mv (t 5)),
 ⟨some 25, some (23, true), .ca (.func 102) [(t 24)]⟩,
 o 26 (.pick (t 23) (t 25) (b false)),
 o 27 (.mv (t 26)),
 og 28 27 true (.mv (t 5)),
 og 29 27 true (.mv (t 6)),
 og 30 27 true (.bin .eql (t 28) (t 29)),
 o 31 (.pick (t 27) (t 30) (b false)),
 o 4 (.mv (t 31))])
 .ret)
 (.seq (.ops [o 33 (.bin .eql (t 16) (i 20)),
 o 32 (.mv (t 33))])
 (.cond (t 32)
 (.seq (.ops [o 34 (.fa 1 (t 3)),
 o 35 (.ld false 1 (t 34)),
 o 36 (.bin .eql (t 35) (i 7)),
 o 37 (.mv (t 36)),
 og 38 37 true (.mv (t 5)),
 og 39 37 true (.bin .eql (t 38) (i 7)),
 o 40 (.pick (t 37) (t 39) (b false)),
 o 41 (.mv (t 40)),
 og 42 41 true (.mv (t 6)),
 og 43 41 true (.bin .eql (t 42) (i 6)),
 o 44 (.pick (t 41) (t 43) (b false)),
 o 4 (.mv (t 44))])
 .ret)
 (.seq (.seq (.ops [o 46 (.bin .eql (t 16) (i 21)),
 o 45 (.mv (t 46))])
 (.cond (t 45)
 .skip
 (.ops [o 47 (.bin .eql (t 16) (i 22)),
 o 45 (.mv (t 47))])))
 (.cond (t 45)
 (.seq (.ops [o 48 (.fa 1 (t 3)),
 o 49 (.ld false 1 (t 48)),
 o 50 (.bin .eql (t 49) (i 6)),
 o 51 (.mv (t 50)),
 og 52 51 true (.mv (t 5)),
 og 53 51 true (.bin .eql (t 52) (i 7)),
 o 54 (.pick (t 51) (t 53) (b false)),
 o 55 (.mv (t 54)),
 og 56 55 true (.mv (t 6)),
 og 57 55 true (.bin .eql (t 56) (i 7)),
 o 58 (.pick (t 55) (t 57) (b false)),
 o 4 (.mv (t 58))])
 .ret)
 .skip))))))))
 (.seq (.ops [o 59 (.fa 1 (t 3)),
 o 60 (.ld false 1 (t 59)),
 k 61 (.ca (.func 102) [(t 60)]),
 o 62 (.mv (t 61)),
 og 63 62 true (.mv (t 5)),
 og 64 62 true (.fa 1 (t 3)),
 og 65 62 true (.ld false 1 (t 64)),
 og 66 62 true (.bin .eql (t 63) (t 65)),
 o 67 (.pick (t 62) (t 66) (b false)),
 o 68 (.mv (t 67)),
 og 69 68 true (.mv (t 6)),
 og 70 68 true (.fa 1 (t 3)),
 og 71 68 true (.ld false 1 (t 70)),
 og 72 68 true (.bin .eql (t 69) (t 71)),
 o 73 (.pick (t 68) (t 72) (b false)),
 o 4 (.mv (t 73))])
 .ret))))⟩
theorem e97 : slimF Tryz.prog Tryz.f97 [[(0, []), (1, []), (2, []), (4, []), (5, []), (6, []), (3, []), (7, []), (8, []), (9, [])]] = some c97 := by kernel_rfl
def c98 : SF := ⟨19, [.t 4], (.seq (.ops [o 4 (.mv (i 0))])
 (.seq (.seq (.ops [o 6 (.mv (t 0)),
 o 7 (.ln (t 6)),
 o 8 (.mv (i 0))])
 (.block 0 (.loop (.seq (.ops [o 9 (.bin .lss (t 8) (t 7))])
 (.seq (.cond (t 9)
 .skip
 (.exit 0))
 (.seq (.block 1 (.seq (.ops [o 10 (.mv (t 8)),
 o 5 (.mv (t 10))])
 (.seq (.ops [o 11 (.mv (t 1)),
 o 12 (.mv (t 0)),
 o 13 (.mv (t 5)),
 o 14 (.ia 7 (t 12) (t 13)),
 o 15 (.ld true 7 (t 14)),
 k 16 (.ca (t 11) [(t 15)])])
 (.cond (t 16)
 (.seq (.ops [o 17 (.mv (t 5)),
 o 4 (.mv (t 17))])
 .ret)
 .skip))))
 (.ops [o 18 (.bin .add (t 8) (i 1)),
 o 8 (.mv (t 18))])))))))
 (.seq (.ops [o 4 (.mv (i (-1)))])
 .ret)))⟩
theorem e98 : slimF Tryz.prog Tryz.f98 [] = some c98 := by kernel_rfl
def c99 : SF := ⟨94, [.t 2], (.seq (.ops [k 1 (.bx 74 (t 0)),
 o 2 (.mv (b false))])
 (.seq (.ops [o 4 (.fa 0 (t 1)),
 o 5 (.ld false 1 (t 4)),
 o 6 (.bd [.int .i64 0, .int .i64 0, .int .i64 0, .int .i64 0, .int .i64 0, .slice none 0 0, .slice none 0 0] [(0, 1, (t 5))]),
 k 3 (.al 74 [.int .i64 0, .int .i64 0, .int .i64 0, .int .i64 0, .int .i64 0, .slice none 0 0, .slice none 0 0]),
 kn (.st [] 7 (t 3) (t 6))])
 (.seq (.seq (.ops [o 7 (.fa 0 (t 1)),
 o 8 (.ld false 1 (t 7))])
 (.block 0 (.seq (.ops [o 10 (.bin .eql (t 8) (i 1)),
 o 9 (.mv (t 10))])
 (.cond (t 9)
 (.opq [o 11 (.fa 1 (t 1)),
 o 12 (.ld false 1 (t 11)),
 o 13 (.fa 2 (t 1)),
 o 14 (.ld false 1 (t 13)),
 o 15 (.fa 3 (t 1)),
 o 16 (.ld false 1 (t 15)),
 o 17 (.fa 1 (t 3)),
 kn (.st [13, 15] 1 (t 17) (t 12)),
 o 18 (.fa 2 (t 3)),
 kn (.st [15] 1 (t 18) (t 14)),
 o 19 (.fa 3 (t 3)),
 kn (.st [] 1 (t 19) (t 16))])
 (.seq (.ops [o 21 (.bin .eql (t 8) (i 2)),
 o 20 (.mv (t 21))])
 (.cond (t 20)
 (.opq [o 22 (.fa 1 (t 1)),
 o 23 (.ld false 1 (t 22)),
 o 24 (.fa 2 (t 1)),
 o 25 (.ld false 1 (t 24)),
 o 26 (.fa 1 (t 3)),
 kn (.st [24] 1 (t 26) (t 23)),
 o 27 (.fa 2 (t 3)),
 kn (.st [] 1 (t 27) (t 25))])
 (.seq (.ops [o 29 (.bin .eql (t 8) (i 3)),
 o 28 (.mv (t 29))])
 (.cond (t 28)
 (.opq [o 30 (.fa 1 (t 1)),
 o 31 (.ld false 1 (t 30)),
 o 32 (.fa 4 (t 1)),
 o 33 (.ld false 1 (t 32)),
 o 34 (.fa 1 (t 3)),
 kn (.st [32] 1 (t 34) (t 31)),
 o 35 (.fa 4 (t 3)),
 kn (.st [] 1 (t 35) (t 33))])
 (.seq (.seq (.ops [o 37 (.bin .eql (t 8) (i 4)),
 o 36 (.mv (t 37))])
 (.cond (t 36)
 .skip
 (.seq (.ops [o 38 (.bin .eql (t 8) (i 5)),
 o 36 (.mv (t 38))])
 (.cond (t 36)
 .skip
 (.ops [o 39 (.bin .eql (t 8) (i 6)),
 o 36 (.mv (t 39))])))))
 (.cond (t 36)
 (.ops [o 40 (.fa 3 (t 1)),
 o 41 (.ld false 1 (t 40)),
 o 42 (.fa 3 (t 3)),
 kn (.st [] 1 (t 42) (t 41))])
 .skip))))))))))
 (.seq (.seq (.ops [o 43 (.fa 6 (t 1)),
 o 44 (.ld false 1 (t 43)),
 o 45 (.ln (t 44)),
 o 46 (.bin .gtr (t 45) (i 0)),
 o 47 (.mv (t 46)),
 og 48 47 true (.fa 0 (t 1)),
 og 49 47 true (.ld false 1 (t 48)),
 og 50 47 true (.bin .neq (t 49) (i 5)),
 o 51 (.pick (t 47) (t 50) (b false)),
 o 52 (.mv (t 51)),
 og 53 52 false (.fa 5 (t 1)),
 og 54 52 false (.ld false 1 (t 53)),
 og 55 52 false (.ln (t 54)),
 og 56 52 false (.bin .gtr (t 55) (i 0)),
 og 57 52 false (.mv (t 56)),
 og 58 57 true (.fa 0 (t 1)),
 og 59 57 true (.ld false 1 (t 58)),
 og 60 57 true (.bin .neq (t 59) (i 5)),
 og 61 52 false (.pick (t 57) (t 60) (b false)),
 og 62 52 false (.mv (t 61)),
 og 63 62 true (.fa 0 (t 1)),
 og 64 62 true (.ld false 1 (t 63)),
 og 65 62 true (.bin .neq (t 64) (i 6)),
 og 66 52 false (.pick (t 62) (t 65) (b false)),
 o 67 (.pick (t 52) (b true) (t 66))])
 (.cond (t 67)
 (.seq (.ops [o 2 (.mv (b false))])
 .ret)
 .skip))
 (.seq (.ops [o 68 (.fa 1 (t 1)),
 o 69 (.ld false 1 (t 68)),
 o 70 (.fa 1 (t 3)),
 o 71 (.ld false 1 (t 70)),
 o 72 (.bin .eql (t 69) (t 71)),
 o 73 (.mv (t 72)),
 og 74 73 true (.fa 2 (t 1)),
 og 75 73 true (.ld false 1 (t 74)),
 og 76 73 true (.fa 2 (t 3)),
 og 77 73 true (.ld false 1 (t 76)),
 og 78 73 true (.bin .eql (t 75) (t 77)),
 o 79 (.pick (t 73) (t 78) (b false)),
 o 80 (.mv (t 79)),
 og 81 80 true (.fa 3 (t 1)),
 og 82 80 true (.ld false 1 (t 81)),
 og 83 80 true (.fa 3 (t 3)),
 og 84 80 true (.ld false 1 (t 83)),
 og 85 80 true (.bin .eql (t 82) (t 84)),
 o 86 (.pick (t 80) (t 85) (b false)),
 o 87 (.mv (t 86)),
 og 88 87 true (.fa 4 (t 1)),
 og 89 87 true (.ld false 1 (t 88)),
 og 90 87 true (.fa 4 (t 3)),
 og 91 87 true (.ld false 1 (t 90)),
 og 92 87 true (.bin .eql (t 89) (t 91)),
 o 93 (.pick (t 87) (t 92) (b false)),
 o 2 (.mv (t 93))])
 .ret)))))⟩
theorem e99 : slimF Tryz.prog Tryz.f99 [[(0, []), (1, []), (2, []), (3, []), (4, []), (5, []), (6, []), (7, [13, 15]), (8, []), (9, [15]), (10, []), (11, [])], [(0, []), (1, []), (2, []), (3, []), (4, []), (5, [24]), (6, []), (7, [])], [(0, []), (1, []), (2, []), (3, []), (4, []), (5, [32]), (6, []), (7, [])]] = some c99 := by kernel_rfl
def c100 : SF := ⟨24, [.t 6], (.seq (.ops [k 3 (.bx 111 (t 0)),
 o 6 (.mv (b false))])
 (.seq (.ops [o 7 (.mv (t 1)),
 o 8 (.bin .geq (t 7) (i 0)),
 o 9 (.mv (t 8)),
 og 10 9 true (.mv (t 1)),
 og 11 9 true (.fa 0 (t 3)),
 og 12 9 true (.fa 4 (t 11)),
 og 13 9 true (.ld false 1 (t 12)),
 og 14 9 true (.ln (t 13)),
 og 15 9 true (.bin .lss (t 10) (t 14)),
 o 16 (.pick (t 9) (t 15) (b false)),
 o 17 (.mv (t 16)),
 og 18 17 true (.ld true 7 (t 3)),
 og 19 17 true (.mv (t 1)),
 ⟨some 20, some (17, true), .ca (.func 130) [(t 18), (t 19)]⟩,
 og 21 17 true (.mv (t 2)),
 og 22 17 true (.bin .eql (t 20) (t 21)),
 o 23 (.pick (t 17) (t 22) (b false)),
 o 6 (.mv (t 23))])
 .ret))⟩
theorem e100 : slimF Tryz.prog Tryz.f100 [] = some c100 := by kernel_rfl
def c101 : SF := ⟨9, [.t 2], (.seq (.ops [o 2 (.mv (b false))])
 (.seq (.ops [o 3 (.mv (t 0)),
 o 4 (.bin .geq (t 3) (i 1)),
 o 5 (.mv (t 4)),
 og 6 5 true (.mv (t 0)),
 og 7 5 true (.bin .leq (t 6) (i 7)),
 o 8 (.pick (t 5) (t 7) (b false)),
 o 2 (.mv (t 8))])
 .ret))⟩
theorem e101 : slimF Tryz.prog Tryz.f101 [] = some c101 := by kernel_rfl
def c102 : SF := ⟨9, [.t 2], (.seq (.ops [o 2 (.mv (b false))])
 (.seq (.ops [o 3 (.mv (t 0)),
 o 4 (.bin .geq (t 3) (i 1)),
 o 5 (.mv (t 4)),
 og 6 5 true (.mv (t 0)),
 og 7 5 true (.bin .leq (t 6) (i 6)),
 o 8 (.pick (t 5) (t 7) (b false)),
 o 2 (.mv (t 8))])
 .ret))⟩
theorem e102 : slimF Tryz.prog Tryz.f102 [] = some c102 := by kernel_rfl
def c103 : SF := ⟨78, [.t 8, .t 9], (.seq (.ops [k 4 (.bx 111 (t 0)),
 o 8 (.mv (.const (.slice none 0 0))),
 o 9 (.mv (b false))])
 (.seq (.seq (.ops [o 15 (.mv (t 1)),
 o 16 (.ln (t 15)),
 o 17 (.bin .gtr (t 16) (i 0)),
 o 18 (.mv (t 17)),
 og 19 18 true (.mv (t 3)),
 og 20 18 true (.bin .gtr (t 19) (i 5)),
 o 21 (.pick (t 18) (t 20) (b false))])
 (.cond (t 21)
 (.seq (.ops [o 8 (.mv (.const (.slice none 0 0))),
 o 9 (.mv (b false))])
 .ret)
 .skip))
 (.seq (.seq (.ops [o 22 (.mv (t 1)),
 o 23 (.ln (t 22)),
 o 24 (.mv (i 0))])
 (.block 0 (.loop (.seq (.ops [o 25 (.bin .lss (t 24) (t 23))])
 (.seq (.cond (t 25)
 .skip
 (.exit 0))
 (.seq (.block 1 (.seq (.ops [o 26 (.ia 1 (t 22) (t 24)),
 o 27 (.ld false 1 (t 26)),
 o 11 (.mv (t 27))])
 (.seq (.seq (.ops [o 28 (.mv (t 11)),
 o 29 (.mv (t 2)),
 o 30 (.ln (t 29)),
 o 31 (.bin .neq (t 28) (t 30)),
 o 32 (.mv (t 31)),
 og 33 32 false (.mv (t 11)),
 og 34 32 false (.fa 0 (t 4)),
 og 35 32 false (.fa 5 (t 34)),
 og 36 32 false (.ld false 1 (t 35)),
 og 37 32 false (.ln (t 36)),
 og 38 32 false (.bin .geq (t 33) (t 37)),
 o 39 (.pick (t 32) (b true) (t 38))])
 (.cond (t 39)
 (.seq (.ops [o 8 (.mv (.const (.slice none 0 0))),
 o 9 (.mv (b false))])
 .ret)
 .skip))
 (.seq (.ops [o 12 (.mv (b true))])
 (.seq (.ops [o 40 (.mv (t 2)),
 o 41 (.mv (t 3)),
 k 42 (.bs 3 1 [.int .i64 0] [(0, 1, (t 41))]),
 k 43 (.ap 3 1 8 (t 40) (t 42)),
 o 2 (.mv (t 43))])
 (.seq (.opq [o 44 (.fa 0 (t 4)),
 o 45 (.fa 5 (t 44)),
 o 46 (.ld false 1 (t 45)),
 o 47 (.mv (t 11)),
 o 48 (.ia 7 (t 46) (t 47)),
 o 49 (.fa 5 (t 48)),
 o 50 (.ld false 1 (t 49)),
 o 51 (.fa 0 (t 4)),
 o 52 (.fa 5 (t 51)),
 o 53 (.ld false 1 (t 52)),
 o 54 (.mv (t 11)),
 o 55 (.ia 7 (t 53) (t 54)),
 o 56 (.fa 6 (t 55)),
 o 57 (.ld false 1 (t 56)),
 o 60 (.mv (i 0)),
 k 58 (.bs 24 2 [.slice none 0 0, .slice none 0 0] [(0, 1, (t 50)), (1, 1, (t 57))]),
 o 59 (.ln (t 58))])
 (.block 2 (.loop (.seq (.ops [o 61 (.bin .lss (t 60) (t 59))])
 (.seq (.cond (t 61)
 .skip
 (.exit 2))
 (.seq (.block 3 (.seq (.ops [o 62 (.ia 1 (t 58) (t 60)),
 o 63 (.ld false 1 (t 62)),
 o 14 (.mv (t 63))])
 (.seq (.ops [o 65 (.ld true 7 (t 4)),
 o 66 (.mv (t 14)),
 o 67 (.mv (t 2)),
 o 68 (.mv (t 3)),
 o 69 (.bin .add (t 68) (i 1)),
 k 70 (.ca (.func 103) [(t 65), (t 66), (t 67), (t 69)]),
 o 64 (.mv (t 70)),
 o 71 (.ex (t 64) 0),
 o 72 (.ex (t 64) 1),
 o 2 (.mv (t 71)),
 o 12 (.mv (t 72))])
 (.seq (.ops [o 73 (.mv (t 12)),
 o 74 (.un .not (t 73))])
 (.cond (t 74)
 (.seq (.ops [o 8 (.mv (.const (.slice none 0 0))),
 o 9 (.mv (b false))])
 .ret)
 .skip)))))
 (.ops [o 75 (.bin .add (t 60) (i 1)),
 o 60 (.mv (t 75))]))))))))))))
 (.ops [o 76 (.bin .add (t 24) (i 1)),
 o 24 (.mv (t 76))])))))))
 (.seq (.ops [o 77 (.mv (t 2)),
 o 8 (.mv (t 77)),
 o 9 (.mv (b true))])
 .ret))))⟩
theorem e103 : slimF Tryz.prog Tryz.f103 [[(0, []), (1, []), (2, []), (3, []), (4, []), (5, []), (6, []), (7, []), (8, []), (9, []), (10, []), (11, []), (12, []), (13, []), (16, []), (14, []), (15, [])]] = some c103 := by kernel_rfl
def c104 : SF := ⟨36, [.t 2], (.seq (.ops [o 2 (.mv (.const (.slice none 0 0)))])
 (.seq (.ops [o 3 (.mv (i 0))])
 (.seq (.seq (.ops [o 9 (.mv (t 0)),
 o 10 (.ln (t 9)),
 o 11 (.mv (i 0))])
 (.block 0 (.loop (.seq (.ops [o 12 (.bin .lss (t 11) (t 10))])
 (.seq (.cond (t 12)
 .skip
 (.exit 0))
 (.seq (.block 1 (.seq (.ops [o 13 (.ia 1 (t 9) (t 11)),
 o 14 (.ld false 1 (t 13)),
 o 5 (.mv (t 14))])
 (.seq (.ops [o 15 (.mv (t 3)),
 o 16 (.mv (t 5)),
 o 17 (.ln (t 16)),
 o 18 (.bin .add (t 15) (t 17)),
 o 3 (.mv (t 18))])
 (.seq (.ops [o 19 (.mv (t 3)),
 o 20 (.bin .lss (t 19) (i 0))])
 (.cond (t 20)
 .bad
 .skip)))))
 (.ops [o 22 (.bin .add (t 11) (i 1)),
 o 11 (.mv (t 22))])))))))
 (.seq (.ops [o 23 (.mv (t 3)),
 k 24 (.ca (.func 131) [(.const (.slice none 0 0)), (t 23)]),
 o 6 (.mv (t 24))])
 (.seq (.seq (.ops [o 25 (.mv (t 0)),
 o 26 (.ln (t 25)),
 o 27 (.mv (i 0))])
 (.block 2 (.loop (.seq (.ops [o 28 (.bin .lss (t 27) (t 26))])
 (.seq (.cond (t 28)
 .skip
 (.exit 2))
 (.seq (.block 3 (.seq (.ops [o 29 (.ia 1 (t 25) (t 27)),
 o 30 (.ld false 1 (t 29)),
 o 8 (.mv (t 30))])
 (.ops [o 31 (.mv (t 6)),
 o 32 (.mv (t 8)),
 k 33 (.ap 3 1 8 (t 31) (t 32)),
 o 6 (.mv (t 33))])))
 (.ops [o 34 (.bin .add (t 27) (i 1)),
 o 27 (.mv (t 34))])))))))
 (.seq (.ops [o 35 (.mv (t 6)),
 o 2 (.mv (t 35))])
 .ret))))))⟩
theorem e104 : slimF Tryz.prog Tryz.f104 [] = some c104 := by kernel_rfl
def c105 : SF := ⟨10, [.t 2], (.seq (.ops [k 1 (.bx 28 (t 0)),
 o 2 (.mv (.const (.slice none 0 0)))])
 (.seq (.ops [k 3 (.bs 3 1 [.int .i64 0] [(0, 1, (i 0))]),
 o 4 (.fa 2 (t 1)),
 o 5 (.ld false 1 (t 4)),
 o 6 (.fa 3 (t 1)),
 o 7 (.ld false 1 (t 6)),
 k 8 (.bs 24 3 [.slice none 0 0, .slice none 0 0, .slice none 0 0] [(0, 1, (t 3)), (1, 1, (t 5)), (2, 1, (t 7))]),
 k 9 (.ca (.func 104) [(t 8)]),
 o 2 (.mv (t 9))])
 .ret))⟩
theorem e105 : slimF Tryz.prog Tryz.f105 [] = some c105 := by kernel_rfl
def c106 : SF := ⟨21, [.t 2], (.seq (.ops [o 2 (.mv (b false))])
 (.seq (.seq (.ops [o 3 (.mv (t 0)),
 o 4 (.ln (t 3)),
 o 5 (.bin .lss (t 4) (i 1)),
 o 6 (.mv (t 5)),
 og 7 6 false (.mv (t 0)),
 og 8 6 false (.ln (t 7)),
 og 9 6 false (.bin .gtr (t 8) (i 33)),
 o 10 (.pick (t 6) (b true) (t 9)),
 o 11 (.mv (t 10)),
 og 12 11 false (.mv (t 0)),
 og 13 11 false (.ia 2 (t 12) (i 0)),
 og 14 11 false (.fa 0 (t 13)),
 og 15 11 false (.ld false 1 (t 14)),
 og 16 11 false (.bin .neq (t 15) (i 0)),
 o 17 (.pick (t 11) (b true) (t 16))])
 (.cond (t 17)
 (.seq (.ops [o 2 (.mv (b false))])
 .ret)
 .skip))
 (.seq (.ops [o 18 (.mv (t 0)),
 k 19 (.ca (.func 132) [(t 18), (.func 133)]),
 o 20 (.un .not (t 19)),
 o 2 (.mv (t 20))])
 .ret)))⟩
theorem e106 : slimF Tryz.prog Tryz.f106 [] = some c106 := by kernel_rfl
def c107 : SF := ⟨10, [.t 4], (.seq (.ops [k 2 (.bx 54 (t 0)),
 k 3 (.bx 24 (t 1)),
 o 4 (.mv (b false))])
 (.seq (.ops [o 5 (.fa 1 (t 2)),
 o 6 (.ld false 1 (t 5)),
 o 7 (.mf (.func 136) [] [(t 3)]),
 k 8 (.ca (.func 135) [(t 6), (t 7)]),
 o 9 (.un .not (t 8)),
 o 4 (.mv (t 9))])
 .ret))⟩
theorem e107 : slimF Tryz.prog Tryz.f107 [] = some c107 := by kernel_rfl
def c108 : SF := ⟨53, [.c true 4 6, .t 7], (.seq (.ops [k 3 (.bx 23 (t 0)),
 k 6 (.al 119 [.bool false, .int .i64 0, .int .i64 0, .int .i64 0]),
 o 7 (.mv (i 0))])
 (.seq (.block 0 (.seq (.ops [o 12 (.mv (t 2)),
 k 13 (.ca (.func 137) [(t 12), (i 0)]),
 o 11 (.mv (t 13))])
 (.cond (t 11)
 (.seq (.ops [o 14 (.bd [.bool false, .int .i64 0, .int .i64 0, .int .i64 0] []),
 kn (.st [] 4 (t 6) (t 14)),
 o 7 (.mv (i 7))])
 .ret)
 (.seq (.ops [o 16 (.mv (t 1)),
 o 17 (.bin .eql (t 16) (i 7)),
 o 15 (.mv (t 17))])
 (.cond (t 15)
 (.seq (.ops [o 18 (.mv (t 2)),
 k 19 (.ca (.func 138) [(t 18)]),
 o 20 (.ex (t 19) 0),
 o 21 (.ex (t 19) 1),
 kn (.st [] 4 (t 6) (t 20)),
 o 7 (.mv (t 21))])
 .ret)
 (.seq (.ops [o 23 (.mv (t 2)),
 k 24 (.ca (.func 137) [(t 23), (i 2)]),
 o 22 (.mv (t 24))])
 (.cond (t 22)
 (.seq (.ops [o 25 (.bd [.bool false, .int .i64 0, .int .i64 0, .int .i64 0] []),
 kn (.st [] 4 (t 6) (t 25)),
 o 7 (.mv (i 8))])
 .ret)
 .skip)))))))
 (.seq (.ops [o 8 (.mv (i 0))])
 (.seq (.seq (.ops [o 26 (.mv (t 2)),
 o 27 (.ln (t 26)),
 o 28 (.mv (i 0))])
 (.block 1 (.loop (.seq (.ops [o 29 (.bin .lss (t 28) (t 27))])
 (.seq (.cond (t 29)
 .skip
 (.exit 1))
 (.seq (.block 2 (.seq (.ops [o 30 (.mv (t 28)),
 o 9 (.mv (t 30))])
 (.seq (.ops [o 31 (.mv (t 2)),
 o 32 (.mv (t 2)),
 o 33 (.ln (t 32)),
 o 34 (.bin .sub (t 33) (i 1)),
 o 35 (.mv (t 9)),
 o 36 (.bin .sub (t 34) (t 35)),
 o 37 (.ia 5 (t 31) (t 36)),
 o 38 (.ld true 5 (t 37)),
 k 10 (.al 83 [.int .i64 0, .int .i64 0, .int .i64 0, .int .i64 0, .int .i64 0]),
 kn (.st [] 5 (t 10) (t 38))])
 (.seq (.seq (.ops [o 39 (.fa 0 (t 3)),
 o 40 (.ld false 1 (t 39))])
 (.cond (t 40)
 (.ops [o 41 (.mv (t 2)),
 o 42 (.mv (t 9)),
 o 43 (.ia 5 (t 41) (t 42)),
 o 44 (.ld true 5 (t 43)),
 kn (.st [] 5 (t 10) (t 44))])
 .skip))
 (.ops [o 45 (.mv (t 8)),
 o 46 (.bin .shl (t 45) (.const (.int .u64 8))),
 o 47 (.fa 1 (t 10)),
 o 48 (.ld false 1 (t 47)),
 o 49 (.bin .or (t 46) (t 48)),
 o 8 (.mv (t 49))])))))
 (.ops [o 50 (.bin .add (t 28) (i 1)),
 o 28 (.mv (t 50))])))))))
 (.seq (.ops [o 51 (.mv (t 8)),
 o 52 (.bd [.bool false, .int .i64 0, .int .i64 0, .int .i64 0] [(1, 1, (t 51))]),
 kn (.st [] 4 (t 6) (t 52)),
 o 7 (.mv (i 0))])
 .ret)))))⟩
theorem e108 : slimF Tryz.prog Tryz.f108 [] = some c108 := by kernel_rfl
def c109 : SF := ⟨11, [.c true 7 4], (.seq (.ops [k 4 (.al 68 [.int .i64 0, .bool false, .int .i64 0, .int .i64 0, .int .i64 0, .int .i64 0, .slice none 0 0])])
 (.seq (.ops [o 5 (.mv (t 0)),
 o 6 (.mv (t 1)),
 k 7 (.ca (.func 111) [(i 8), (t 6)]),
 o 8 (.bd [.int .i64 0, .int .i64 0, .bool false, .int .i64 0, .int .i64 0, .int .i64 0, .int .i64 0] [(0, 1, (t 5)), (1, 6, (t 7))]),
 k 9 (.bs 157 1 [.int .i64 0, .int .i64 0, .bool false, .int .i64 0, .int .i64 0, .int .i64 0, .int .i64 0] [(0, 7, (t 8))]),
 o 10 (.bd [.int .i64 0, .bool false, .int .i64 0, .int .i64 0, .int .i64 0, .int .i64 0, .slice none 0 0] [(6, 1, (t 9))]),
 kn (.st [] 7 (t 4) (t 10))])
 .ret))⟩
theorem e109 : slimF Tryz.prog Tryz.f109 [] = some c109 := by kernel_rfl
def c110 : SF := ⟨5, [.c true 7 2], (.seq (.ops [k 1 (.bx 65 (t 0)),
 k 2 (.al 68 [.int .i64 0, .bool false, .int .i64 0, .int .i64 0, .int .i64 0, .int .i64 0, .slice none 0 0])])
 (.seq (.ops [o 3 (.ld true 6 (t 1)),
 o 4 (.bd [.int .i64 0, .bool false, .int .i64 0, .int .i64 0, .int .i64 0, .int .i64 0, .slice none 0 0] [(0, 6, (t 3))]),
 kn (.st [] 7 (t 2) (t 4))])
 .ret))⟩
theorem e110 : slimF Tryz.prog Tryz.f110 [] = some c110 := by kernel_rfl
def c111 : SF := ⟨10, [.c true 6 4], (.seq (.ops [k 4 (.al 65 [.int .i64 0, .bool false, .int .i64 0, .int .i64 0, .int .i64 0, .int .i64 0])])
 (.seq (.ops [o 5 (.mv (t 0)),
 o 6 (.mv (t 1)),
 o 7 (.mv (t 1)),
 o 8 (.mv (t 1)),
 o 9 (.bd [.int .i64 0, .bool false, .int .i64 0, .int .i64 0, .int .i64 0, .int .i64 0] [(0, 1, (t 5)), (2, 1, (t 6)), (3, 1, (t 7)), (5, 1, (t 8))]),
 kn (.st [] 6 (t 4) (t 9))])
 .ret))⟩
theorem e111 : slimF Tryz.prog Tryz.f111 [] = some c111 := by kernel_rfl
def c112 : SF := ⟨7, [.t 2], (.seq (.ops [o 2 (.mv (i 0))])
 (.seq (.ops [o 3 (.mv (t 0)),
 o 4 (.bin .sub (t 3) (i 1)),
 o 5 (.bin .quo (t 4) (i 2)),
 o 6 (.bin .shl (i 8) (t 5)),
 o 2 (.mv (t 6))])
 .ret))⟩
theorem e112 : slimF Tryz.prog Tryz.f112 [] = some c112 := by kernel_rfl
def c113 : SF := ⟨50, [.t 2], (.seq (.ops [k 1 (.bx 83 (t 0)),
 o 2 (.mv (b false))])
 (.seq (.seq (.ops [o 3 (.fa 0 (t 1)),
 o 4 (.ld false 1 (t 3))])
 (.block 0 (.seq (.ops [o 6 (.bin .eql (t 4) (i 0)),
 o 5 (.mv (t 6))])
 (.cond (t 5)
 (.seq (.ops [o 7 (.ld true 5 (t 1)),
 o 8 (.bd [.int .i64 0, .int .i64 0, .int .i64 0, .int .i64 0, .int .i64 0] []),
 o 9 (.eqs (.st [(false, 0, 1, .i), (false, 1, 1, .i), (false, 2, 1, .i), (false, 3, 1, .i), (false, 4, 1, .i)]) false (t 7) (t 8)),
 o 2 (.mv (t 9))])
 .ret)
 (.seq (.ops [o 11 (.bin .eql (t 4) (i 1)),
 o 10 (.mv (t 11))])
 (.cond (t 10)
 (.seq (.ops [o 12 (.fa 1 (t 1)),
 o 13 (.ld false 1 (t 12)),
 k 14 (.ca (.func 32) [(t 13), (i 255)]),
 o 15 (.mv (t 14)),
 og 16 15 true (.fa 2 (t 1)),
 og 17 15 true (.ld false 1 (t 16)),
 og 18 15 true (.bin .eql (t 17) (i 0)),
 o 19 (.pick (t 15) (t 18) (b false)),
 o 20 (.mv (t 19)),
 og 21 20 true (.fa 3 (t 1)),
 og 22 20 true (.ld false 1 (t 21)),
 og 23 20 true (.bin .eql (t 22) (i 0)),
 o 24 (.pick (t 20) (t 23) (b false)),
 o 25 (.mv (t 24)),
 og 26 25 true (.fa 4 (t 1)),
 og 27 25 true (.ld false 1 (t 26)),
 og 28 25 true (.bin .eql (t 27) (i 0)),
 o 29 (.pick (t 25) (t 28) (b false)),
 o 2 (.mv (t 29))])
 .ret)
 (.seq (.ops [o 31 (.bin .eql (t 4) (i 2)),
 o 30 (.mv (t 31))])
 (.cond (t 30)
 (.seq (.ops [o 32 (.fa 1 (t 1)),
 o 33 (.ld false 1 (t 32)),
 o 34 (.bin .eql (t 33) (i 0)),
 o 35 (.mv (t 34)),
 og 36 35 true (.fa 2 (t 1)),
 og 37 35 true (.ld false 1 (t 36)),
 ⟨some 38, some (35, true), .ca (.func 33) [(t 37), (i 1), (i 32)]⟩,
 o 39 (.pick (t 35) (t 38) (b false)),
 o 40 (.mv (t 39)),
 og 41 40 true (.fa 3 (t 1)),
 og 42 40 true (.ld false 1 (t 41)),
 ⟨some 43, some (40, true), .ca (.func 32) [(t 42), (i 32)]⟩,
 o 44 (.pick (t 40) (t 43) (b false)),
 o 45 (.mv (t 44)),
 og 46 45 true (.fa 4 (t 1)),
 og 47 45 true (.ld false 1 (t 46)),
 ⟨some 48, some (45, true), .ca (.func 32) [(t 47), (i 3)]⟩,
 o 49 (.pick (t 45) (t 48) (b false)),
 o 2 (.mv (t 49))])
 .ret)
 .skip))))))))
 (.seq (.ops [o 2 (.mv (b false))])
 .ret)))⟩
theorem e113 : slimF Tryz.prog Tryz.f113 [] = some c113 := by kernel_rfl
def c114 : SF := ⟨26, [.t 4], (.seq (.ops [o 4 (.mv (b false))])
 (.seq (.seq (.ops [o 6 (.mv (t 0)),
 o 7 (.ln (t 6)),
 o 8 (.mv (t 1)),
 o 9 (.ln (t 8)),
 o 10 (.bin .neq (t 7) (t 9))])
 (.cond (t 10)
 (.seq (.ops [o 4 (.mv (b false))])
 .ret)
 .skip))
 (.seq (.seq (.ops [o 5 (.mv (i 0))])
 (.block 0 (.loop (.seq (.seq (.ops [o 11 (.mv (t 5)),
 o 12 (.mv (t 0)),
 o 13 (.ln (t 12)),
 o 14 (.bin .lss (t 11) (t 13))])
 (.cond (t 14)
 .skip
 (.exit 0)))
 (.seq (.block 1 (.seq (.opq [o 17 (.mv (t 0)),
 o 18 (.mv (t 5)),
 o 19 (.ia 7 (t 17) (t 18)),
 o 20 (.ld true 7 (t 19)),
 o 21 (.mv (t 1)),
 o 22 (.mv (t 5)),
 o 23 (.ia 7 (t 21) (t 22)),
 o 24 (.ld true 7 (t 23)),
 o 25 (.eqs (.st [(false, 0, 1, .i), (true, 1, 6, (.st [(false, 0, 1, .i), (false, 1, 1, .b), (false, 2, 1, .i), (false, 3, 1, .i), (false, 4, 1, .i), (false, 5, 1, .i)]))]) true (t 20) (t 24))])
 (.cond (t 25)
 (.seq (.ops [o 4 (.mv (b false))])
 .ret)
 .skip)))
 (.ops [o 15 (.mv (t 5)),
 o 16 (.bin .add (t 15) (i 1)),
 o 5 (.mv (t 16))]))))))
 (.seq (.ops [o 4 (.mv (b true))])
 .ret))))⟩
theorem e114 : slimF Tryz.prog Tryz.f114 [[(0, []), (1, []), (2, []), (3, []), (4, []), (5, []), (6, []), (7, []), (8, [])]] = some c114 := by kernel_rfl
def c115 : SF := ⟨13, [.t 2], (.seq (.ops [o 2 (.mv (b false))])
 (.seq (.ops [o 3 (.mv (t 0)),
 o 4 (.bin .eql (t 3) (i 8)),
 o 5 (.mv (t 4)),
 og 6 5 false (.mv (t 0)),
 og 7 5 false (.bin .eql (t 6) (i 16)),
 o 8 (.pick (t 5) (b true) (t 7)),
 o 9 (.mv (t 8)),
 og 10 9 false (.mv (t 0)),
 og 11 9 false (.bin .eql (t 10) (i 32)),
 o 12 (.pick (t 9) (b true) (t 11)),
 o 2 (.mv (t 12))])
 .ret))⟩
theorem e115 : slimF Tryz.prog Tryz.f115 [] = some c115 := by kernel_rfl
def c116 : SF := ⟨73, [.t 4], (.seq (.ops [k 2 (.bx 65 (t 0)),
 o 4 (.mv (i 0))])
 (.seq (.seq (.ops [o 9 (.fa 1 (t 2)),
 o 10 (.ld false 1 (t 9)),
 o 11 (.mv (t 10)),
 og 12 11 false (.mv (t 1)),
 og 13 11 false (.fa 0 (t 2)),
 og 14 11 false (.ld false 1 (t 13)),
 og 15 11 false (.bin .shl (i 1) (t 14)),
 og 16 11 false (.bin .geq (t 12) (t 15)),
 o 17 (.pick (t 11) (b true) (t 16))])
 (.cond (t 17)
 (.seq (.ops [o 4 (.mv (i (-1)))])
 .ret)
 .skip))
 (.seq (.ops [o 18 (.fa 2 (t 2)),
 o 19 (.ld false 1 (t 18)),
 k 20 (.bs 3 2 [.int .i64 0, .int .i64 0] [(0, 1, (t 19)), (1, 1, (i 0))]),
 o 5 (.mv (t 20))])
 (.seq (.ops [o 21 (.fa 3 (t 2)),
 o 22 (.ld false 1 (t 21)),
 k 23 (.bs 3 2 [.int .i64 0, .int .i64 0] [(0, 1, (t 22)), (1, 1, (i (-1)))]),
 o 6 (.mv (t 23))])
 (.seq (.seq (.ops [o 24 (.fa 2 (t 2)),
 o 25 (.ld false 1 (t 24)),
 o 26 (.fa 3 (t 2)),
 o 27 (.ld false 1 (t 26)),
 o 28 (.bin .gtr (t 25) (t 27))])
 (.cond (t 28)
 (.opq [o 29 (.fa 2 (t 2)),
 o 30 (.ld false 1 (t 29)),
 o 32 (.fa 3 (t 2)),
 o 33 (.ld false 1 (t 32)),
 o 34 (.fa 0 (t 2)),
 o 35 (.ld false 1 (t 34)),
 o 36 (.bin .shl (i 1) (t 35)),
 o 37 (.bin .sub (t 36) (i 1)),
 k 31 (.bs 3 2 [.int .i64 0, .int .i64 0] [(0, 1, (i 0)), (1, 1, (t 30))]),
 o 5 (.mv (t 31)),
 k 38 (.bs 3 2 [.int .i64 0, .int .i64 0] [(0, 1, (t 33)), (1, 1, (t 37))]),
 o 6 (.mv (t 38))])
 .skip))
 (.seq (.seq (.ops [o 7 (.mv (i 0))])
 (.block 0 (.loop (.seq (.seq (.ops [o 39 (.mv (t 7)),
 o 40 (.bin .lss (t 39) (i 2))])
 (.cond (t 40)
 .skip
 (.exit 0)))
 (.seq (.block 1 (.seq (.seq (.opq [o 43 (.mv (t 1)),
 o 44 (.mv (t 5)),
 o 45 (.mv (t 7)),
 o 46 (.ia 1 (t 44) (t 45)),
 o 47 (.ld false 1 (t 46)),
 o 48 (.mx [(t 43), (t 47)]),
 o 49 (.mv (t 6)),
 o 50 (.mv (t 7)),
 o 51 (.ia 1 (t 49) (t 50)),
 o 52 (.ld false 1 (t 51)),
 o 53 (.bin .gtr (t 48) (t 52))])
 (.cond (t 53)
 (.exit 1)
 .skip))
 (.seq (.opq [o 54 (.ld true 6 (t 2)),
 o 55 (.mv (t 1)),
 o 56 (.mv (t 5)),
 o 57 (.mv (t 7)),
 o 58 (.ia 1 (t 56) (t 57)),
 o 59 (.ld false 1 (t 58)),
 o 60 (.mx [(t 55), (t 59)]),
 k 61 (.ca (.func 139) [(t 54), (t 60)]),
 o 8 (.mv (t 61))])
 (.seq (.ops [o 62 (.mv (t 8)),
 o 63 (.bin .geq (t 62) (i 0)),
 o 64 (.mv (t 63)),
 og 65 64 true (.mv (t 8)),
 og 66 64 true (.mv (t 6)),
 og 67 64 true (.mv (t 7)),
 og 68 64 true (.ia 1 (t 66) (t 67)),
 og 69 64 true (.ld false 1 (t 68)),
 og 70 64 true (.bin .leq (t 65) (t 69)),
 o 71 (.pick (t 64) (t 70) (b false))])
 (.cond (t 71)
 (.seq (.ops [o 72 (.mv (t 8)),
 o 4 (.mv (t 72))])
 .ret)
 .skip)))))
 (.ops [o 41 (.mv (t 7)),
 o 42 (.bin .add (t 41) (i 1)),
 o 7 (.mv (t 42))]))))))
 (.seq (.ops [o 4 (.mv (i (-1)))])
 .ret)))))))⟩
theorem e116 : slimF Tryz.prog Tryz.f116 [[(0, []), (1, []), (3, []), (4, []), (5, []), (6, []), (7, []), (8, []), (2, []), (10, []), (9, []), (11, [])], [(0, []), (1, []), (2, []), (3, []), (4, []), (5, []), (6, []), (7, []), (8, []), (9, []), (10, [])], [(0, []), (1, []), (2, []), (3, []), (4, []), (5, []), (6, []), (7, []), (8, [])]] = some c116 := by kernel_rfl
def c118 : SF := ⟨19, [.t 4], (.seq (.ops [o 4 (.mv (i 0))])
 (.seq (.seq (.ops [o 6 (.mv (t 0)),
 o 7 (.ln (t 6)),
 o 8 (.mv (i 0))])
 (.block 0 (.loop (.seq (.ops [o 9 (.bin .lss (t 8) (t 7))])
 (.seq (.cond (t 9)
 .skip
 (.exit 0))
 (.seq (.block 1 (.seq (.ops [o 10 (.mv (t 8)),
 o 5 (.mv (t 10))])
 (.seq (.ops [o 11 (.mv (t 1)),
 o 12 (.mv (t 0)),
 o 13 (.mv (t 5)),
 o 14 (.ia 3 (t 12) (t 13)),
 o 15 (.ld true 3 (t 14)),
 k 16 (.ca (t 11) [(t 15)])])
 (.cond (t 16)
 (.seq (.ops [o 17 (.mv (t 5)),
 o 4 (.mv (t 17))])
 .ret)
 .skip))))
 (.ops [o 18 (.bin .add (t 8) (i 1)),
 o 8 (.mv (t 18))])))))))
 (.seq (.ops [o 4 (.mv (i (-1)))])
 .ret)))⟩
theorem e118 : slimF Tryz.prog Tryz.f118 [] = some c118 := by kernel_rfl
def c119 : SF := ⟨9, [.t 2], (.seq (.ops [o 2 (.mv (b false))])
 (.seq (.ops [o 3 (.mv (t 0)),
 o 4 (.bin .lss (t 3) (i 1)),
 o 5 (.mv (t 4)),
 og 6 5 false (.mv (t 0)),
 og 7 5 false (.bin .gtr (t 6) (i 15)),
 o 8 (.pick (t 5) (b true) (t 7)),
 o 2 (.mv (t 8))])
 .ret))⟩
theorem e119 : slimF Tryz.prog Tryz.f119 [] = some c119 := by kernel_rfl
def c120 : SF := ⟨60, [.t 6], (.seq (.ops [k 3 (.bx 28 (t 0)),
 k 5 (.bx 87 (t 2)),
 o 6 (.mv (b false))])
 (.seq (.seq (.ops [o 8 (.ld true 10 (t 5)),
 k 9 (.ca (.func 141) [(t 8)]),
 o 10 (.un .not (t 9)),
 o 11 (.mv (t 10)),
 og 12 11 false (.fa 0 (t 5)),
 og 13 11 false (.ld false 1 (t 12)),
 og 14 11 false (.bin .lss (t 13) (i 1)),
 o 15 (.pick (t 11) (b true) (t 14)),
 o 16 (.mv (t 15)),
 og 17 16 false (.fa 0 (t 5)),
 og 18 16 false (.ld false 1 (t 17)),
 og 19 16 false (.mv (t 1)),
 og 20 16 false (.ln (t 19)),
 og 21 16 false (.bin .geq (t 18) (t 20)),
 o 22 (.pick (t 16) (b true) (t 21)),
 o 23 (.mv (t 22)),
 og 24 23 false (.fa 1 (t 5)),
 og 25 23 false (.ld false 1 (t 24)),
 og 26 23 false (.bin .lss (t 25) (i 0)),
 o 27 (.pick (t 23) (b true) (t 26)),
 o 28 (.mv (t 27)),
 og 29 28 false (.fa 3 (t 5)),
 og 30 28 false (.fa 6 (t 29)),
 og 31 28 false (.ld false 1 (t 30)),
 og 32 28 false (.mv (t 1)),
 og 33 28 false (.ln (t 32)),
 og 34 28 false (.bin .sub (t 33) (i 1)),
 ⟨some 35, some (28, false), .ca (.func 142) [(t 31), (t 34)]⟩,
 og 36 28 false (.un .not (t 35)),
 o 37 (.pick (t 28) (b true) (t 36))])
 (.cond (t 37)
 (.seq (.ops [o 6 (.mv (b false))])
 .ret)
 .skip))
 (.seq (.ops [o 38 (.fa 0 (t 3)),
 o 39 (.ld true 2 (t 38)),
 o 40 (.fa 2 (t 5)),
 o 41 (.ld false 1 (t 40)),
 k 42 (.ca (.func 87) [(t 39), (t 41)]),
 o 7 (.mv (t 42))])
 (.seq (.opq [o 43 (.fa 1 (t 5)),
 o 44 (.ld false 1 (t 43)),
 o 45 (.mv (t 7)),
 o 46 (.bin .rem (t 44) (t 45)),
 o 47 (.bin .eql (t 46) (i 0)),
 o 48 (.mv (t 47)),
 og 49 48 true (.fa 1 (t 5)),
 og 50 48 true (.ld false 1 (t 49)),
 og 51 48 true (.mv (t 1)),
 og 52 48 true (.fa 0 (t 5)),
 og 53 48 true (.ld false 1 (t 52)),
 og 54 48 true (.ia 1 (t 51) (t 53)),
 og 55 48 true (.ld false 1 (t 54)),
 og 56 48 true (.mv (t 7)),
 og 57 48 true (.bin .sub (t 55) (t 56)),
 og 58 48 true (.bin .leq (t 50) (t 57)),
 o 59 (.pick (t 48) (t 58) (b false)),
 o 6 (.mv (t 59))])
 .ret))))⟩
theorem e120 : slimF Tryz.prog Tryz.f120 [[(0, []), (1, []), (2, []), (3, []), (4, []), (5, []), (6, []), (7, []), (8, []), (9, []), (10, []), (11, []), (12, []), (13, []), (14, []), (15, []), (16, []), (17, [])]] = some c120 := by kernel_rfl
def c121 : SF := ⟨22, [.t 4], (.seq (.ops [k 2 (.bx 87 (t 0)),
 k 3 (.bx 87 (t 1)),
 o 4 (.mv (i 0))])
 (.seq (.opd [o 5 (.fa 0 (t 2)),
 o 6 (.ld false 1 (t 5)),
 o 7 (.fa 0 (t 3)),
 o 8 (.ld false 1 (t 7)),
 o 10 (.fa 1 (t 2)),
 o 11 (.ld false 1 (t 10)),
 o 12 (.fa 1 (t 3)),
 o 13 (.ld false 1 (t 12)),
 o 15 (.fa 2 (t 2)),
 o 16 (.ld false 1 (t 15)),
 o 17 (.fa 2 (t 3)),
 o 18 (.ld false 1 (t 17)),
 k 9 (.ca (.func 144) [(t 6), (t 8)]),
 k 14 (.ca (.func 144) [(t 11), (t 13)]),
 k 19 (.ca (.func 144) [(t 16), (t 18)]),
 k 20 (.bs 3 3 [.int .i64 0, .int .i64 0, .int .i64 0] [(0, 1, (t 9)), (1, 1, (t 14)), (2, 1, (t 19))]),
 k 21 (.ca (.func 143) [(t 20)]),
 o 4 (.mv (t 21))])
 .ret))⟩
theorem e121 : slimF Tryz.prog Tryz.f121 [[(0, []), (1, []), (2, []), (3, []), (5, []), (6, []), (7, []), (8, []), (10, []), (11, []), (12, []), (13, []), (4, []), (9, []), (14, []), (15, []), (16, []), (17, [])]] = some c121 := by kernel_rfl
def c122 : SF := ⟨22, [.t 4], (.seq (.ops [k 2 (.bx 65 (t 0)),
 o 4 (.mv (b false))])
 (.seq (.ops [o 5 (.fa 1 (t 2)),
 o 6 (.ld false 1 (t 5)),
 o 7 (.un .not (t 6)),
 o 8 (.mv (t 7)),
 og 9 8 true (.mv (t 1)),
 og 10 8 true (.fa 4 (t 2)),
 og 11 8 true (.ld false 1 (t 10)),
 og 12 8 true (.bin .andNot (t 9) (t 11)),
 og 13 8 true (.fa 5 (t 2)),
 og 14 8 true (.ld false 1 (t 13)),
 og 15 8 true (.bin .eql (t 12) (t 14)),
 o 16 (.pick (t 8) (t 15) (b false)),
 o 17 (.mv (t 16)),
 og 18 17 true (.ld true 6 (t 2)),
 og 19 17 true (.mv (t 1)),
 ⟨some 20, some (17, true), .ca (.func 145) [(t 18), (t 19)]⟩,
 o 21 (.pick (t 17) (t 20) (b false)),
 o 4 (.mv (t 21))])
 .ret))⟩
theorem e122 : slimF Tryz.prog Tryz.f122 [] = some c122 := by kernel_rfl
def c123 : SF := ⟨14, [.t 6], (.seq (.ops [k 4 (.bx 3 (t 1)),
 k 5 (.bx 3 (t 2)),
 o 6 (.mv (b false))])
 (.seq (.ops [o 7 (.ld false 1 (t 5)),
 o 8 (.bin .leq (t 7) (i 32)),
 o 9 (.mv (t 8)),
 og 10 9 true (.mv (t 0)),
 og 11 9 true (.mf (.func 147) [] [(t 4), (t 5)]),
 ⟨some 12, some (9, true), .ca (.func 146) [(t 10), (t 11)]⟩,
 o 13 (.pick (t 9) (t 12) (b false)),
 o 6 (.mv (t 13))])
 .ret))⟩
theorem e123 : slimF Tryz.prog Tryz.f123 [] = some c123 := by kernel_rfl
def c124 : SF := ⟨21, [.t 6], (.seq (.ops [k 4 (.bx 68 (t 1)),
 k 5 (.bx 119 (t 2)),
 o 6 (.mv (b false))])
 (.seq (.seq (.ops [o 7 (.mv (t 0)),
 o 8 (.bin .eql (t 7) (i 7))])
 (.cond (t 8)
 (.seq (.ops [o 9 (.fa 6 (t 4)),
 o 10 (.ld false 1 (t 9)),
 o 11 (.fa 2 (t 5)),
 o 12 (.ld false 1 (t 11)),
 o 13 (.fa 3 (t 5)),
 o 14 (.ld false 1 (t 13)),
 k 15 (.ca (.func 123) [(t 10), (t 12), (t 14)]),
 o 6 (.mv (t 15))])
 .ret)
 .skip))
 (.seq (.ops [o 16 (.fa 0 (t 4)),
 o 17 (.ld true 6 (t 16)),
 o 18 (.fa 1 (t 5)),
 o 19 (.ld false 1 (t 18)),
 k 20 (.ca (.func 122) [(t 17), (t 19)]),
 o 6 (.mv (t 20))])
 .ret)))⟩
theorem e124 : slimF Tryz.prog Tryz.f124 [] = some c124 := by kernel_rfl
def c125 : SF := ⟨12, [.t 4], (.seq (.ops [k 2 (.bx 23 (t 0)),
 o 4 (.mv (i 0))])
 (.seq (.seq (.ops [o 5 (.mv (t 1)),
 o 6 (.bin .eql (t 5) (i 7))])
 (.cond (t 6)
 (.seq (.ops [o 7 (.fa 1 (t 2)),
 o 8 (.ld false 1 (t 7)),
 o 4 (.mv (t 8))])
 .ret)
 .skip))
 (.seq (.ops [o 9 (.mv (t 1)),
 k 10 (.ca (.func 112) [(t 9)]),
 o 11 (.bin .quo (t 10) (i 8)),
 o 4 (.mv (t 11))])
 .ret)))⟩
theorem e125 : slimF Tryz.prog Tryz.f125 [] = some c125 := by kernel_rfl
def c126 : SF := ⟨26, [.t 4], (.seq (.ops [o 4 (.mv (b false))])
 (.seq (.seq (.ops [o 6 (.mv (t 0)),
 o 7 (.ln (t 6)),
 o 8 (.mv (t 1)),
 o 9 (.ln (t 8)),
 o 10 (.bin .neq (t 7) (t 9))])
 (.cond (t 10)
 (.seq (.ops [o 4 (.mv (b false))])
 .ret)
 .skip))
 (.seq (.seq (.ops [o 5 (.mv (i 0))])
 (.block 0 (.loop (.seq (.seq (.ops [o 11 (.mv (t 5)),
 o 12 (.mv (t 0)),
 o 13 (.ln (t 12)),
 o 14 (.bin .lss (t 11) (t 13))])
 (.cond (t 14)
 .skip
 (.exit 0)))
 (.seq (.block 1 (.seq (.opq [o 17 (.mv (t 0)),
 o 18 (.mv (t 5)),
 o 19 (.ia 5 (t 17) (t 18)),
 o 20 (.ld true 5 (t 19)),
 o 21 (.mv (t 1)),
 o 22 (.mv (t 5)),
 o 23 (.ia 5 (t 21) (t 22)),
 o 24 (.ld true 5 (t 23)),
 o 25 (.eqs (.st [(false, 0, 1, .i), (false, 1, 1, .i), (false, 2, 1, .i), (false, 3, 1, .i), (false, 4, 1, .i)]) true (t 20) (t 24))])
 (.cond (t 25)
 (.seq (.ops [o 4 (.mv (b false))])
 .ret)
 .skip)))
 (.ops [o 15 (.mv (t 5)),
 o 16 (.bin .add (t 15) (i 1)),
 o 5 (.mv (t 16))]))))))
 (.seq (.ops [o 4 (.mv (b true))])
 .ret))))⟩
theorem e126 : slimF Tryz.prog Tryz.f126 [[(0, []), (1, []), (2, []), (3, []), (4, []), (5, []), (6, []), (7, []), (8, [])]] = some c126 := by kernel_rfl
def c127 : SF := ⟨57, [.t 6], (.seq (.ops [k 3 (.bx 23 (t 0)),
 k 5 (.bx 119 (t 2)),
 o 6 (.mv (.const (.slice none 0 0)))])
 (.seq (.ops [o 11 (.ld true 2 (t 3)),
 o 12 (.mv (t 1)),
 k 13 (.ca (.func 77) [(t 11), (t 12)]),
 o 7 (.mv (t 13))])
 (.seq (.ops [o 14 (.mv (t 7)),
 k 15 (.ms 83 5 40 [.int .i64 0, .int .i64 0, .int .i64 0, .int .i64 0, .int .i64 0] (t 14) (t 14)),
 o 8 (.mv (t 15))])
 (.seq (.seq (.ops [o 9 (.mv (i 0))])
 (.block 0 (.loop (.seq (.seq (.ops [o 16 (.mv (t 9)),
 o 17 (.mv (t 7)),
 o 18 (.bin .lss (t 16) (t 17))])
 (.cond (t 18)
 .skip
 (.exit 0)))
 (.seq (.block 1 (.seq (.ops [o 21 (.mv (t 9)),
 o 10 (.mv (t 21))])
 (.seq (.seq (.ops [o 22 (.fa 0 (t 3)),
 o 23 (.ld false 1 (t 22))])
 (.cond (t 23)
 (.ops [o 24 (.mv (t 7)),
 o 25 (.bin .sub (t 24) (i 1)),
 o 26 (.mv (t 9)),
 o 27 (.bin .sub (t 25) (t 26)),
 o 10 (.mv (t 27))])
 .skip))
 (.seq (.ops [o 28 (.mv (t 8)),
 o 29 (.mv (t 9)),
 o 30 (.fa 1 (t 5)),
 o 31 (.ld false 1 (t 30)),
 o 32 (.mv (t 10)),
 o 33 (.bin .mul (i 8) (t 32)),
 o 34 (.bin .shr (t 31) (t 33)),
 o 35 (.bin .and (t 34) (i 255)),
 o 36 (.bd [.int .i64 0, .int .i64 0, .int .i64 0, .int .i64 0, .int .i64 0] [(0, 1, (i 1)), (1, 1, (t 35))]),
 o 37 (.ia 5 (t 28) (t 29)),
 kn (.st [] 5 (t 37) (t 36))])
 (.seq (.ops [o 38 (.fa 0 (t 5)),
 o 39 (.ld false 1 (t 38))])
 (.cond (t 39)
 (.seq (.ops [o 40 (.mv (t 8)),
 o 41 (.mv (t 9)),
 o 42 (.bd [.int .i64 0, .int .i64 0, .int .i64 0, .int .i64 0, .int .i64 0] [(0, 1, (i 1))]),
 o 43 (.ia 5 (t 40) (t 41)),
 kn (.st [] 5 (t 43) (t 42))])
 (.seq (.ops [o 44 (.fa 2 (t 5)),
 o 45 (.ld false 1 (t 44)),
 o 46 (.bin .gtr (t 45) (i 0))])
 (.cond (t 46)
 (.ops [o 47 (.mv (t 8)),
 o 48 (.mv (t 9)),
 o 49 (.fa 2 (t 5)),
 o 50 (.ld false 1 (t 49)),
 o 51 (.fa 3 (t 5)),
 o 52 (.ld false 1 (t 51)),
 o 53 (.mv (t 9)),
 o 54 (.bd [.int .i64 0, .int .i64 0, .int .i64 0, .int .i64 0, .int .i64 0] [(0, 1, (i 2)), (2, 1, (t 50)), (3, 1, (t 52)), (4, 1, (t 53))]),
 o 55 (.ia 5 (t 47) (t 48)),
 kn (.st [] 5 (t 55) (t 54))])
 .skip)))
 .skip))))))
 (.ops [o 19 (.mv (t 9)),
 o 20 (.bin .add (t 19) (i 1)),
 o 9 (.mv (t 20))]))))))
 (.seq (.ops [o 56 (.mv (t 8)),
 o 6 (.mv (t 56))])
 .ret)))))⟩
theorem e127 : slimF Tryz.prog Tryz.f127 [] = some c127 := by kernel_rfl
def c128 : SF := ⟨11, [.t 3], (.seq (.ops [o 3 (.mv (b false))])
 (.seq (.ops [o 4 (.mv (t 0)),
 o 5 (.bin .geq (t 4) (i 0)),
 o 6 (.mv (t 5)),
 og 7 6 true (.mv (t 0)),
 og 8 6 true (.ld false 1 (t 1)),
 og 9 6 true (.bin .lss (t 7) (t 8)),
 o 10 (.pick (t 6) (t 9) (b false)),
 o 3 (.mv (t 10))])
 .ret))⟩
theorem e128 : slimF Tryz.prog Tryz.f128 [] = some c128 := by kernel_rfl
end Go.Proofs.Tryz.S
