/- The small codes of functions, by program (gen.py, by this workplace's session), each with the proof that it is the function's own. -/
import Derived.Test.YtjmgdglhhiccoaaGreatProg
import Derived.Test.YtjmgdglhhiccoaaGreatA3
namespace Go.Proofs.Tryz.S
open Go Go.Ax Go.Ax.N
set_option maxRecDepth 100000

def c3 : SF := ⟨117, [.t 2], (.seq (.ops [k 1 (.bx 33 (t 0)),
 o 2 (.mv (b false))])
 (.seq (.seq (.ops [o 9 (.ld true 10 (t 1)),
 k 10 (.ca (.func 5) [(t 9)])])
 (.cond (t 10)
 (.seq (.ops [o 2 (.mv (b true))])
 .ret)
 .skip))
 (.seq (.ops [o 11 (.fa 0 (t 1)),
 o 12 (.ld true 7 (t 11)),
 k 13 (.ca (.func 6) [(t 12)]),
 o 3 (.mv (t 13))])
 (.seq (.seq (.ops [o 4 (.mv (i 0))])
 (.block 0 (.loop (.seq (.seq (.ops [o 14 (.mv (t 4)),
 o 15 (.fa 7 (t 1)),
 o 16 (.ld false 1 (t 15)),
 o 17 (.ln (t 16)),
 o 18 (.bin .lss (t 14) (t 17)),
 o 19 (.mv (t 18)),
 og 20 19 true (.mv (t 4)),
 og 21 19 true (.bin .lss (t 20) (i 5)),
 o 22 (.pick (t 19) (t 21) (b false))])
 (.cond (t 22)
 .skip
 (.exit 0)))
 (.seq (.block 1 (.seq (.opd [o 26 (.fa 0 (t 1)),
 o 27 (.ld true 7 (t 26)),
 o 28 (.fa 7 (t 1)),
 o 29 (.ld false 1 (t 28)),
 o 30 (.mv (t 4)),
 o 31 (.ia 5 (t 29) (t 30)),
 o 32 (.ld true 5 (t 31)),
 k 33 (.ca (.func 7) [(t 27), (t 32)]),
 o 25 (.mv (t 33)),
 o 34 (.ex (t 25) 0),
 o 35 (.ex (t 25) 1),
 k 5 (.al 38 [.bool false, .slice none 0 0, .slice none 0 0]),
 kn (.st [] 3 (t 5) (t 34)),
 o 6 (.mv (t 35))])
 (.seq (.ops [o 7 (.mv (i 1))])
 (.seq (.seq (.opq [o 36 (.mv (t 3)),
 o 37 (.mv (t 36)),
 og 38 37 true (.fa 0 (t 1)),
 og 39 37 true (.ld true 7 (t 38)),
 og 40 37 true (.fa 7 (t 1)),
 og 41 37 true (.ld false 1 (t 40)),
 og 42 37 true (.mv (t 4)),
 og 43 37 true (.ia 5 (t 41) (t 42)),
 og 44 37 true (.ld true 5 (t 43)),
 ⟨some 45, some (37, true), .ca (.func 8) [(t 39), (t 44)]⟩,
 o 46 (.pick (t 37) (t 45) (b false))])
 (.cond (t 46)
 (.ops [o 7 (.mv (i 0))])
 .skip))
 (.seq (.seq (.ops [o 47 (.mv (t 6)),
 k 48 (.ca (.func 9) [(t 47)]),
 o 49 (.mv (t 7)),
 o 50 (.bin .neq (t 48) (t 49))])
 (.cond (t 50)
 (.seq (.ops [o 2 (.mv (b false))])
 .ret)
 .skip))
 (.seq (.seq (.opq [o 51 (.mv (t 7)),
 o 52 (.bin .eql (t 51) (i 0)),
 o 53 (.mv (t 52)),
 og 54 53 true (.fa 0 (t 1)),
 og 55 53 true (.ld true 7 (t 54)),
 og 56 53 true (.ld true 3 (t 5)),
 ⟨some 57, some (53, true), .ca (.func 10) [(t 55), (t 56)]⟩,
 og 58 53 true (.un .not (t 57)),
 og 59 53 true (.mv (t 58)),
 og 60 59 false (.fa 0 (t 1)),
 og 61 59 false (.ld true 7 (t 60)),
 og 62 59 false (.ld true 3 (t 5)),
 og 63 59 false (.fa 7 (t 1)),
 og 64 59 false (.ld false 1 (t 63)),
 og 65 59 false (.mv (t 4)),
 og 66 59 false (.ia 5 (t 64) (t 65)),
 og 67 59 false (.ld true 5 (t 66)),
 ⟨some 68, some (59, false), .ca (.func 11) [(t 61), (t 62), (t 67)]⟩,
 og 69 59 false (.un .not (t 68)),
 og 70 53 true (.pick (t 59) (b true) (t 69)),
 o 71 (.pick (t 53) (t 70) (b false)),
 o 72 (.mv (t 71)),
 og 73 72 false (.mv (t 7)),
 og 74 72 false (.bin .neq (t 73) (i 0)),
 og 75 72 false (.mv (t 74)),
 og 76 75 true (.ld true 3 (t 5)),
 og 77 75 true (.bd [.bool false, .slice none 0 0, .slice none 0 0] []),
 ⟨some 78, some (75, true), .ca (.func 12) [(t 76), (t 77)]⟩,
 og 79 75 true (.un .not (t 78)),
 og 80 72 false (.pick (t 75) (t 79) (b false)),
 o 81 (.pick (t 72) (b true) (t 80))])
 (.cond (t 81)
 (.seq (.ops [o 2 (.mv (b false))])
 .ret)
 .skip))
 (.seq (.ops [o 8 (.mv (i 0))])
 (.block 2 (.loop (.seq (.seq (.ops [o 82 (.mv (t 8)),
 o 83 (.fa 2 (t 5)),
 o 84 (.ld false 1 (t 83)),
 o 85 (.ln (t 84)),
 o 86 (.bin .lss (t 82) (t 85)),
 o 87 (.mv (t 86)),
 og 88 87 true (.mv (t 7)),
 og 89 87 true (.bin .eql (t 88) (i 0)),
 o 90 (.pick (t 87) (t 89) (b false))])
 (.cond (t 90)
 .skip
 (.exit 2)))
 (.seq (.block 3 (.seq (.opq [o 93 (.fa 2 (t 5)),
 o 94 (.ld false 1 (t 93)),
 o 95 (.mv (t 8)),
 o 96 (.ia 1 (t 94) (t 95)),
 o 97 (.ld false 1 (t 96)),
 o 98 (.fa 7 (t 1)),
 o 99 (.ld false 1 (t 98)),
 o 100 (.mv (t 4)),
 o 101 (.ia 5 (t 99) (t 100)),
 o 102 (.fa 0 (t 101)),
 o 103 (.ld false 1 (t 102)),
 o 104 (.fa 0 (t 1)),
 o 105 (.fa 2 (t 104)),
 o 106 (.ld false 1 (t 105)),
 o 107 (.ln (t 106)),
 o 108 (.bin .add (t 107) (i 1)),
 o 109 (.mv (t 8)),
 o 110 (.bin .add (t 108) (t 109)),
 o 111 (.ia 2 (t 103) (t 110)),
 o 112 (.fa 0 (t 111)),
 o 113 (.ld false 1 (t 112)),
 o 114 (.bin .shl (i 1) (t 113)),
 o 115 (.bin .neq (t 97) (t 114))])
 (.cond (t 115)
 (.seq (.ops [o 2 (.mv (b false))])
 .ret)
 .skip)))
 (.ops [o 91 (.mv (t 8)),
 o 92 (.bin .add (t 91) (i 1)),
 o 8 (.mv (t 92))]))))))))))))
 (.ops [o 23 (.mv (t 4)),
 o 24 (.bin .add (t 23) (i 1)),
 o 4 (.mv (t 24))]))))))
 (.seq (.ops [k 116 (.ca (.func 13) []),
 o 2 (.mv (t 116))])
 .ret)))))⟩
theorem e3 : slimF Tryz.prog Tryz.f3 [[(0, []), (1, []), (2, []), (3, []), (4, []), (5, []), (6, []), (7, []), (8, []), (9, []), (10, []), (11, []), (12, []), (13, [])], [(0, []), (1, []), (2, []), (3, []), (4, []), (5, []), (6, []), (7, []), (8, []), (9, []), (10, [])], [(0, []), (1, []), (2, []), (3, []), (4, []), (5, []), (6, []), (7, []), (8, []), (9, []), (10, []), (11, []), (12, []), (13, []), (14, []), (15, []), (16, []), (17, []), (18, []), (19, []), (20, []), (21, []), (22, []), (23, []), (24, []), (25, []), (26, []), (27, []), (28, []), (29, []), (30, [])], [(0, []), (1, []), (2, []), (3, []), (4, []), (5, []), (6, []), (7, []), (8, []), (9, []), (10, []), (11, []), (12, []), (13, []), (14, []), (15, []), (16, []), (17, []), (18, []), (19, []), (20, []), (21, []), (22, [])]] = some c3 := by kernel_rfl
def c5 : SF := ⟨69, [.t 2], (.seq (.ops [k 1 (.bx 33 (t 0)),
 o 2 (.mv (b false))])
 (.seq (.ops [o 7 (.fa 0 (t 1)),
 o 8 (.ld true 7 (t 7)),
 k 9 (.ca (.func 18) [(t 8)]),
 o 3 (.mv (t 9))])
 (.seq (.seq (.ops [o 4 (.mv (i 0))])
 (.block 0 (.loop (.seq (.seq (.ops [o 10 (.mv (t 4)),
 o 11 (.fa 7 (t 1)),
 o 12 (.ld false 1 (t 11)),
 o 13 (.ln (t 12)),
 o 14 (.bin .lss (t 10) (t 13)),
 o 15 (.mv (t 14)),
 og 16 15 true (.mv (t 3)),
 og 17 15 true (.bin .lss (t 16) (i 1048576)),
 o 18 (.pick (t 15) (t 17) (b false))])
 (.cond (t 18)
 .skip
 (.exit 0)))
 (.seq (.block 1 (.ops [o 21 (.mv (t 3)),
 o 22 (.fa 7 (t 1)),
 o 23 (.ld false 1 (t 22)),
 o 24 (.mv (t 4)),
 o 25 (.ia 5 (t 23) (t 24)),
 o 26 (.ld true 5 (t 25)),
 k 27 (.ca (.func 19) [(t 26)]),
 o 28 (.bin .add (t 21) (t 27)),
 o 3 (.mv (t 28))]))
 (.ops [o 19 (.mv (t 4)),
 o 20 (.bin .add (t 19) (i 1)),
 o 4 (.mv (t 20))]))))))
 (.seq (.seq (.ops [o 5 (.mv (i 0))])
 (.block 2 (.loop (.seq (.seq (.ops [o 29 (.mv (t 5)),
 o 30 (.fa 8 (t 1)),
 o 31 (.ld false 1 (t 30)),
 o 32 (.ln (t 31)),
 o 33 (.bin .lss (t 29) (t 32)),
 o 34 (.mv (t 33)),
 og 35 34 true (.mv (t 3)),
 og 36 34 true (.bin .lss (t 35) (i 1048576)),
 o 37 (.pick (t 34) (t 36) (b false))])
 (.cond (t 37)
 .skip
 (.exit 2)))
 (.seq (.block 3 (.ops [o 40 (.mv (t 3)),
 o 41 (.fa 8 (t 1)),
 o 42 (.ld false 1 (t 41)),
 o 43 (.mv (t 5)),
 o 44 (.ia 3 (t 42) (t 43)),
 o 45 (.ld true 3 (t 44)),
 k 46 (.ca (.func 20) [(t 45)]),
 o 47 (.bin .add (t 40) (t 46)),
 o 3 (.mv (t 47))]))
 (.ops [o 38 (.mv (t 5)),
 o 39 (.bin .add (t 38) (i 1)),
 o 5 (.mv (t 39))]))))))
 (.seq (.seq (.ops [o 6 (.mv (i 0))])
 (.block 4 (.loop (.seq (.seq (.ops [o 48 (.mv (t 6)),
 o 49 (.fa 9 (t 1)),
 o 50 (.ld false 1 (t 49)),
 o 51 (.ln (t 50)),
 o 52 (.bin .lss (t 48) (t 51)),
 o 53 (.mv (t 52)),
 og 54 53 true (.mv (t 3)),
 og 55 53 true (.bin .lss (t 54) (i 1048576)),
 o 56 (.pick (t 53) (t 55) (b false))])
 (.cond (t 56)
 .skip
 (.exit 4)))
 (.seq (.block 5 (.ops [o 59 (.mv (t 3)),
 o 60 (.fa 9 (t 1)),
 o 61 (.ld false 1 (t 60)),
 o 62 (.mv (t 6)),
 o 63 (.ia 7 (t 61) (t 62)),
 o 64 (.ld true 7 (t 63)),
 k 65 (.ca (.func 21) [(t 64)]),
 o 66 (.bin .add (t 59) (t 65)),
 o 3 (.mv (t 66))]))
 (.ops [o 57 (.mv (t 6)),
 o 58 (.bin .add (t 57) (i 1)),
 o 6 (.mv (t 58))]))))))
 (.seq (.ops [o 67 (.mv (t 3)),
 o 68 (.bin .gtr (t 67) (i 2500)),
 o 2 (.mv (t 68))])
 .ret))))))⟩
theorem e5 : slimF Tryz.prog Tryz.f5 [] = some c5 := by kernel_rfl
def c6 : SF := ⟨67, [.t 2], (.seq (.ops [k 1 (.bx 28 (t 0)),
 o 2 (.mv (b false))])
 (.seq (.seq (.ops [o 7 (.fa 0 (t 1)),
 o 8 (.ld true 2 (t 7)),
 k 9 (.ca (.func 22) [(t 8)]),
 o 10 (.un .not (t 9)),
 o 11 (.mv (t 10)),
 og 12 11 false (.fa 2 (t 1)),
 og 13 11 false (.ld false 1 (t 12)),
 ⟨some 14, some (11, false), .ca (.func 23) [(t 13), (i 4)]⟩,
 og 15 11 false (.un .not (t 14)),
 o 16 (.pick (t 11) (b true) (t 15)),
 o 17 (.mv (t 16)),
 og 18 17 false (.fa 3 (t 1)),
 og 19 17 false (.ld false 1 (t 18)),
 ⟨some 20, some (17, false), .ca (.func 23) [(t 19), (i 2)]⟩,
 og 21 17 false (.un .not (t 20)),
 o 22 (.pick (t 17) (b true) (t 21)),
 o 23 (.mv (t 22)),
 og 24 23 false (.fa 4 (t 1)),
 og 25 23 false (.ld false 1 (t 24)),
 og 26 23 false (.ln (t 25)),
 og 27 23 false (.bin .gtr (t 26) (i 120)),
 o 28 (.pick (t 23) (b true) (t 27)),
 o 29 (.mv (t 28)),
 og 30 29 false (.fa 5 (t 1)),
 og 31 29 false (.ld false 1 (t 30)),
 og 32 29 false (.ln (t 31)),
 og 33 29 false (.bin .gtr (t 32) (i 40)),
 o 34 (.pick (t 29) (b true) (t 33))])
 (.cond (t 34)
 (.seq (.ops [o 2 (.mv (b false))])
 .ret)
 .skip))
 (.seq (.seq (.ops [o 3 (.mv (i 0))])
 (.block 0 (.loop (.seq (.seq (.ops [o 35 (.mv (t 3)),
 o 36 (.fa 4 (t 1)),
 o 37 (.ld false 1 (t 36)),
 o 38 (.ln (t 37)),
 o 39 (.bin .lss (t 35) (t 38))])
 (.cond (t 39)
 .skip
 (.exit 0)))
 (.seq (.block 1 (.seq (.ops [o 42 (.ld true 7 (t 1)),
 o 43 (.mv (t 3)),
 k 44 (.ca (.func 24) [(t 42), (t 43)]),
 o 45 (.un .not (t 44))])
 (.cond (t 45)
 (.seq (.ops [o 2 (.mv (b false))])
 .ret)
 .skip)))
 (.ops [o 40 (.mv (t 3)),
 o 41 (.bin .add (t 40) (i 1)),
 o 3 (.mv (t 41))]))))))
 (.seq (.seq (.ops [o 4 (.mv (i 0))])
 (.block 2 (.loop (.seq (.seq (.ops [o 46 (.mv (t 4)),
 o 47 (.fa 5 (t 1)),
 o 48 (.ld false 1 (t 47)),
 o 49 (.ln (t 48)),
 o 50 (.bin .lss (t 46) (t 49))])
 (.cond (t 50)
 .skip
 (.exit 2)))
 (.seq (.block 3 (.seq (.opq [o 53 (.ld true 7 (t 1)),
 o 54 (.fa 5 (t 1)),
 o 55 (.ld false 1 (t 54)),
 o 56 (.mv (t 4)),
 o 57 (.ia 7 (t 55) (t 56)),
 o 58 (.ld true 7 (t 57)),
 k 59 (.ca (.func 25) [(t 53), (t 58)]),
 o 60 (.un .not (t 59))])
 (.cond (t 60)
 (.seq (.ops [o 2 (.mv (b false))])
 .ret)
 .skip)))
 (.ops [o 51 (.mv (t 4)),
 o 52 (.bin .add (t 51) (i 1)),
 o 4 (.mv (t 52))]))))))
 (.seq (.ops [o 62 (.ld true 7 (t 1)),
 k 63 (.ca (.func 26) [(t 62)]),
 o 61 (.mv (t 63)),
 o 64 (.ex (t 61) 0),
 o 65 (.ex (t 61) 1),
 o 5 (.mv (t 64)),
 o 6 (.mv (t 65))])
 (.seq (.ops [o 66 (.mv (t 6)),
 o 2 (.mv (t 66))])
 .ret))))))⟩
theorem e6 : slimF Tryz.prog Tryz.f6 [[(0, []), (1, []), (2, []), (3, []), (4, []), (5, []), (6, []), (7, [])]] = some c6 := by kernel_rfl
def c7 : SF := ⟨19, [.c true 3 4, .t 5], (.seq (.ops [k 2 (.bx 28 (t 0)),
 k 3 (.bx 46 (t 1)),
 k 4 (.al 38 [.bool false, .slice none 0 0, .slice none 0 0]),
 o 5 (.mv (i 0))])
 (.seq (.seq (.ops [o 6 (.ld true 7 (t 2)),
 k 7 (.ca (.func 27) [(t 6)]),
 o 8 (.un .not (t 7)),
 o 9 (.mv (t 8)),
 og 10 9 false (.ld true 7 (t 2)),
 og 11 9 false (.ld true 5 (t 3)),
 ⟨some 12, some (9, false), .ca (.func 28) [(t 10), (t 11)]⟩,
 og 13 9 false (.un .not (t 12)),
 o 14 (.pick (t 9) (b true) (t 13))])
 (.cond (t 14)
 (.seq (.ops [o 15 (.bd [.bool false, .slice none 0 0, .slice none 0 0] []),
 kn (.st [] 3 (t 4) (t 15)),
 o 5 (.mv (i 1))])
 .ret)
 .skip))
 (.seq (.ops [o 16 (.ld true 7 (t 2)),
 o 17 (.ld true 5 (t 3)),
 k 18 (.ca (.func 29) [(t 16), (t 17)]),
 kn (.st [] 3 (t 4) (t 18)),
 o 5 (.mv (i 0))])
 .ret)))⟩
theorem e7 : slimF Tryz.prog Tryz.f7 [] = some c7 := by kernel_rfl
def c8 : SF := ⟨137, [.t 4], (.seq (.ops [k 2 (.bx 28 (t 0)),
 k 3 (.bx 46 (t 1)),
 o 4 (.mv (b false))])
 (.seq (.ops [o 11 (.ld true 7 (t 2)),
 k 12 (.ca (.func 30) [(t 11)]),
 o 5 (.mv (t 12))])
 (.seq (.seq (.ops [o 13 (.fa 0 (t 3)),
 o 14 (.ld false 1 (t 13)),
 k 15 (.ca (.func 31) [(t 14)]),
 o 16 (.un .not (t 15)),
 o 17 (.mv (t 16)),
 og 18 17 false (.fa 0 (t 3)),
 og 19 17 false (.ld false 1 (t 18)),
 og 20 17 false (.ln (t 19)),
 og 21 17 false (.mv (t 5)),
 og 22 17 false (.ln (t 21)),
 og 23 17 false (.bin .neq (t 20) (t 22)),
 o 24 (.pick (t 17) (b true) (t 23)),
 o 25 (.mv (t 24)),
 og 26 25 false (.fa 2 (t 3)),
 og 27 25 false (.ld false 1 (t 26)),
 ⟨some 28, some (25, false), .ca (.func 32) [(t 27), (i 400)]⟩,
 og 29 25 false (.un .not (t 28)),
 o 30 (.pick (t 25) (b true) (t 29))])
 (.cond (t 30)
 (.seq (.ops [o 4 (.mv (b false))])
 .ret)
 .skip))
 (.seq (.seq (.ops [o 6 (.mv (i 1))])
 (.block 0 (.loop (.seq (.seq (.ops [o 31 (.mv (t 6)),
 o 32 (.mv (t 5)),
 o 33 (.ln (t 32)),
 o 34 (.bin .lss (t 31) (t 33))])
 (.cond (t 34)
 .skip
 (.exit 0)))
 (.seq (.block 1 (.seq (.ops [o 37 (.fa 0 (t 3)),
 o 38 (.ld false 1 (t 37)),
 o 39 (.mv (t 6)),
 o 40 (.ia 2 (t 38) (t 39)),
 o 41 (.ld true 2 (t 40)),
 k 7 (.al 54 [.int .i64 0, .slice none 0 0]),
 kn (.st [] 2 (t 7) (t 41))])
 (.seq (.seq (.opq [o 42 (.fa 0 (t 7)),
 o 43 (.ld false 1 (t 42)),
 o 44 (.bin .eql (t 43) (i 1)),
 o 45 (.mv (t 44)),
 og 46 45 true (.fa 1 (t 7)),
 og 47 45 true (.ld false 1 (t 46)),
 og 48 45 true (.ln (t 47)),
 og 49 45 true (.mv (t 5)),
 og 50 45 true (.mv (t 6)),
 og 51 45 true (.ia 1 (t 49) (t 50)),
 og 52 45 true (.ld false 1 (t 51)),
 og 53 45 true (.bin .neq (t 48) (t 52)),
 o 54 (.pick (t 45) (t 53) (b false)),
 o 55 (.mv (t 54)),
 og 56 55 false (.mv (t 6)),
 og 57 55 false (.fa 2 (t 2)),
 og 58 55 false (.ld false 1 (t 57)),
 og 59 55 false (.ln (t 58)),
 og 60 55 false (.bin .leq (t 56) (t 59)),
 og 61 55 false (.mv (t 60)),
 og 62 61 true (.fa 0 (t 7)),
 og 63 61 true (.ld false 1 (t 62)),
 og 64 61 true (.bin .neq (t 63) (i 1)),
 og 65 55 false (.pick (t 61) (t 64) (b false)),
 o 66 (.pick (t 55) (b true) (t 65))])
 (.cond (t 66)
 (.seq (.ops [o 4 (.mv (b false))])
 .ret)
 .skip))
 (.seq (.ops [o 8 (.mv (i 0))])
 (.block 2 (.loop (.seq (.seq (.ops [o 67 (.mv (t 8)),
 o 68 (.fa 1 (t 7)),
 o 69 (.ld false 1 (t 68)),
 o 70 (.ln (t 69)),
 o 71 (.bin .lss (t 67) (t 70))])
 (.cond (t 71)
 .skip
 (.exit 2)))
 (.seq (.block 3 (.seq (.ops [o 74 (.fa 1 (t 7)),
 o 75 (.ld false 1 (t 74)),
 o 76 (.mv (t 8)),
 o 77 (.ia 5 (t 75) (t 76)),
 o 78 (.ld true 5 (t 77)),
 k 9 (.al 83 [.int .i64 0, .int .i64 0, .int .i64 0, .int .i64 0, .int .i64 0]),
 kn (.st [] 5 (t 9) (t 78))])
 (.seq (.opq [o 79 (.fa 0 (t 9)),
 o 80 (.ld false 1 (t 79)),
 o 81 (.bin .eql (t 80) (i 2)),
 o 82 (.mv (t 81)),
 og 83 82 true (.fa 2 (t 9)),
 og 84 82 true (.ld false 1 (t 83)),
 og 85 82 true (.mv (t 5)),
 og 86 82 true (.ln (t 85)),
 og 87 82 true (.bin .geq (t 84) (t 86)),
 og 88 82 true (.mv (t 87)),
 og 89 88 false (.fa 3 (t 9)),
 og 90 88 false (.ld false 1 (t 89)),
 og 91 88 false (.mv (t 5)),
 og 92 88 false (.fa 2 (t 9)),
 og 93 88 false (.ld false 1 (t 92)),
 og 94 88 false (.ia 1 (t 91) (t 93)),
 og 95 88 false (.ld false 1 (t 94)),
 og 96 88 false (.bin .gtr (t 90) (t 95)),
 og 97 82 true (.pick (t 88) (b true) (t 96)),
 o 98 (.pick (t 82) (t 97) (b false))])
 (.cond (t 98)
 (.seq (.ops [o 4 (.mv (b false))])
 .ret)
 .skip))))
 (.ops [o 72 (.mv (t 8)),
 o 73 (.bin .add (t 72) (i 1)),
 o 8 (.mv (t 73))])))))))))
 (.ops [o 35 (.mv (t 6)),
 o 36 (.bin .add (t 35) (i 1)),
 o 6 (.mv (t 36))]))))))
 (.seq (.seq (.ops [o 10 (.mv (i 0))])
 (.block 4 (.loop (.seq (.seq (.ops [o 99 (.mv (t 10)),
 o 100 (.fa 1 (t 3)),
 o 101 (.ld false 1 (t 100)),
 o 102 (.ln (t 101)),
 o 103 (.bin .lss (t 99) (t 102))])
 (.cond (t 103)
 .skip
 (.exit 4)))
 (.seq (.block 5 (.seq (.opq [o 106 (.fa 1 (t 3)),
 o 107 (.ld false 1 (t 106)),
 o 108 (.mv (t 10)),
 o 109 (.ia 1 (t 107) (t 108)),
 o 110 (.ld false 1 (t 109)),
 o 111 (.fa 5 (t 2)),
 o 112 (.ld false 1 (t 111)),
 o 113 (.ln (t 112)),
 o 114 (.bin .sub (t 113) (i 1)),
 k 115 (.ca (.func 32) [(t 110), (t 114)]),
 o 116 (.un .not (t 115))])
 (.cond (t 116)
 (.seq (.ops [o 4 (.mv (b false))])
 .ret)
 .skip)))
 (.ops [o 104 (.mv (t 10)),
 o 105 (.bin .add (t 104) (i 1)),
 o 10 (.mv (t 105))]))))))
 (.seq (.ops [o 117 (.fa 3 (t 3)),
 o 118 (.ld true 2 (t 117)),
 o 119 (.bd [.int .i64 0, .int .i64 0] []),
 o 120 (.eqs (.st [(false, 0, 1, .i), (false, 1, 1, .i)]) false (t 118) (t 119)),
 o 121 (.mv (t 120)),
 og 122 121 false (.fa 3 (t 3)),
 og 123 121 false (.fa 0 (t 122)),
 og 124 121 false (.ld false 1 (t 123)),
 og 125 121 false (.fa 5 (t 2)),
 og 126 121 false (.ld false 1 (t 125)),
 og 127 121 false (.ln (t 126)),
 og 128 121 false (.bin .sub (t 127) (i 1)),
 ⟨some 129, some (121, false), .ca (.func 32) [(t 124), (t 128)]⟩,
 og 130 121 false (.mv (t 129)),
 og 131 130 true (.fa 3 (t 3)),
 og 132 130 true (.fa 1 (t 131)),
 og 133 130 true (.ld false 1 (t 132)),
 ⟨some 134, some (130, true), .ca (.func 33) [(t 133), (i 1), (i 10)]⟩,
 og 135 121 false (.pick (t 130) (t 134) (b false)),
 o 136 (.pick (t 121) (b true) (t 135)),
 o 4 (.mv (t 136))])
 .ret))))))⟩
theorem e8 : slimF Tryz.prog Tryz.f8 [[(0, []), (1, []), (2, []), (3, []), (4, []), (5, []), (6, []), (7, []), (8, []), (9, []), (10, []), (11, []), (12, []), (13, []), (14, []), (15, []), (16, []), (17, []), (18, []), (19, []), (20, []), (21, []), (22, []), (23, []), (24, [])], [(0, []), (1, []), (2, []), (3, []), (4, []), (5, []), (6, []), (7, []), (8, []), (9, []), (10, []), (11, []), (12, []), (13, []), (14, []), (15, []), (16, []), (17, []), (18, []), (19, [])], [(0, []), (1, []), (2, []), (3, []), (4, []), (5, []), (6, []), (7, []), (8, []), (9, []), (10, [])]] = some c8 := by kernel_rfl
def c9 : SF := ⟨4, [.t 2], (.seq (.ops [o 2 (.mv (i 0))])
 (.seq (.ops [o 3 (.mv (t 0)),
 o 2 (.mv (t 3))])
 .ret))⟩
theorem e9 : slimF Tryz.prog Tryz.f9 [] = some c9 := by kernel_rfl
def c10 : SF := ⟨84, [.t 4], (.seq (.ops [k 2 (.bx 28 (t 0)),
 k 3 (.bx 38 (t 1)),
 o 4 (.mv (b false))])
 (.seq (.seq (.ops [o 8 (.fa 0 (t 3)),
 o 9 (.ld false 1 (t 8))])
 (.cond (t 9)
 (.seq (.ops [o 10 (.fa 1 (t 3)),
 o 11 (.ld false 1 (t 10)),
 o 12 (.ln (t 11)),
 o 13 (.bin .eql (t 12) (i 0)),
 o 14 (.mv (t 13)),
 og 15 14 true (.fa 2 (t 3)),
 og 16 14 true (.ld false 1 (t 15)),
 og 17 14 true (.ln (t 16)),
 og 18 14 true (.bin .eql (t 17) (i 0)),
 o 19 (.pick (t 14) (t 18) (b false)),
 o 4 (.mv (t 19))])
 .ret)
 .skip))
 (.seq (.seq (.ops [o 20 (.fa 1 (t 3)),
 o 21 (.ld false 1 (t 20)),
 o 22 (.ln (t 21)),
 o 23 (.bin .gtr (t 22) (i 200)),
 o 24 (.mv (t 23)),
 og 25 24 false (.fa 2 (t 3)),
 og 26 24 false (.ld false 1 (t 25)),
 og 27 24 false (.ln (t 26)),
 og 28 24 false (.fa 3 (t 2)),
 og 29 24 false (.ld false 1 (t 28)),
 og 30 24 false (.ln (t 29)),
 og 31 24 false (.bin .neq (t 27) (t 30)),
 o 32 (.pick (t 24) (b true) (t 31))])
 (.cond (t 32)
 (.seq (.ops [o 4 (.mv (b false))])
 .ret)
 .skip))
 (.seq (.ops [o 33 (.ld true 7 (t 2)),
 k 34 (.ca (.func 30) [(t 33)]),
 o 5 (.mv (t 34))])
 (.seq (.seq (.ops [o 6 (.mv (i 0))])
 (.block 0 (.loop (.seq (.seq (.ops [o 35 (.mv (t 6)),
 o 36 (.fa 1 (t 3)),
 o 37 (.ld false 1 (t 36)),
 o 38 (.ln (t 37)),
 o 39 (.bin .lss (t 35) (t 38))])
 (.cond (t 39)
 .skip
 (.exit 0)))
 (.seq (.block 1 (.seq (.opq [o 42 (.ld true 7 (t 2)),
 o 43 (.mv (t 5)),
 o 44 (.fa 1 (t 3)),
 o 45 (.ld false 1 (t 44)),
 o 46 (.mv (t 6)),
 o 47 (.ia 10 (t 45) (t 46)),
 o 48 (.ld true 10 (t 47)),
 k 49 (.ca (.func 34) [(t 42), (t 43), (t 48)]),
 o 50 (.un .not (t 49)),
 o 51 (.mv (t 50)),
 og 52 51 false (.mv (t 6)),
 og 53 51 false (.bin .gtr (t 52) (i 0)),
 og 54 51 false (.mv (t 53)),
 og 55 54 true (.fa 1 (t 3)),
 og 56 54 true (.ld false 1 (t 55)),
 og 57 54 true (.mv (t 6)),
 og 58 54 true (.bin .sub (t 57) (i 1)),
 og 59 54 true (.ia 10 (t 56) (t 58)),
 og 60 54 true (.ld true 10 (t 59)),
 og 61 54 true (.fa 1 (t 3)),
 og 62 54 true (.ld false 1 (t 61)),
 og 63 54 true (.mv (t 6)),
 og 64 54 true (.ia 10 (t 62) (t 63)),
 og 65 54 true (.ld true 10 (t 64)),
 ⟨some 66, some (54, true), .ca (.func 35) [(t 60), (t 65)]⟩,
 og 67 54 true (.un .not (t 66)),
 og 68 51 false (.pick (t 54) (t 67) (b false)),
 o 69 (.pick (t 51) (b true) (t 68))])
 (.cond (t 69)
 (.seq (.ops [o 4 (.mv (b false))])
 .ret)
 .skip)))
 (.ops [o 40 (.mv (t 6)),
 o 41 (.bin .add (t 40) (i 1)),
 o 6 (.mv (t 41))]))))))
 (.seq (.seq (.ops [o 7 (.mv (i 0))])
 (.block 2 (.loop (.seq (.seq (.ops [o 70 (.mv (t 7)),
 o 71 (.fa 2 (t 3)),
 o 72 (.ld false 1 (t 71)),
 o 73 (.ln (t 72)),
 o 74 (.bin .lss (t 70) (t 73))])
 (.cond (t 74)
 .skip
 (.exit 2)))
 (.seq (.block 3 (.seq (.ops [o 77 (.fa 2 (t 3)),
 o 78 (.ld false 1 (t 77)),
 o 79 (.mv (t 7)),
 o 80 (.ia 1 (t 78) (t 79)),
 o 81 (.ld false 1 (t 80)),
 k 82 (.ca (.func 33) [(t 81), (i 1), (i 15)]),
 o 83 (.un .not (t 82))])
 (.cond (t 83)
 (.seq (.ops [o 4 (.mv (b false))])
 .ret)
 .skip)))
 (.ops [o 75 (.mv (t 7)),
 o 76 (.bin .add (t 75) (i 1)),
 o 7 (.mv (t 76))]))))))
 (.seq (.ops [o 4 (.mv (b true))])
 .ret)))))))⟩
theorem e10 : slimF Tryz.prog Tryz.f10 [[(0, []), (1, []), (2, []), (3, []), (4, []), (5, []), (6, []), (7, []), (8, []), (9, []), (10, []), (11, []), (12, []), (13, []), (14, []), (15, []), (16, []), (17, []), (18, []), (19, []), (20, []), (21, []), (22, []), (23, []), (24, []), (25, []), (26, []), (27, [])]] = some c10 := by kernel_rfl
def c11 : SF := ⟨78, [.t 6], (.seq (.ops [k 3 (.bx 28 (t 0)),
 k 4 (.bx 38 (t 1)),
 k 5 (.bx 46 (t 2)),
 o 6 (.mv (b false))])
 (.seq (.seq (.ops [o 12 (.ld true 7 (t 3)),
 o 13 (.ld true 3 (t 4)),
 o 14 (.ld true 5 (t 5)),
 k 15 (.ca (.func 17) [(t 12), (t 13), (t 14)]),
 o 16 (.un .not (t 15))])
 (.cond (t 16)
 (.seq (.ops [o 6 (.mv (b false))])
 .ret)
 .skip))
 (.seq (.seq (.ops [o 7 (.mv (i 1))])
 (.block 0 (.loop (.seq (.seq (.ops [o 17 (.mv (t 7)),
 o 18 (.fa 0 (t 5)),
 o 19 (.ld false 1 (t 18)),
 o 20 (.ln (t 19)),
 o 21 (.bin .lss (t 17) (t 20))])
 (.cond (t 21)
 .skip
 (.exit 0)))
 (.seq (.block 1 (.seq (.ops [o 8 (.mv (i 0))])
 (.block 2 (.loop (.seq (.seq (.ops [o 24 (.mv (t 8)),
 o 25 (.fa 0 (t 5)),
 o 26 (.ld false 1 (t 25)),
 o 27 (.mv (t 7)),
 o 28 (.ia 2 (t 26) (t 27)),
 o 29 (.fa 1 (t 28)),
 o 30 (.ld false 1 (t 29)),
 o 31 (.ln (t 30)),
 o 32 (.bin .lss (t 24) (t 31))])
 (.cond (t 32)
 .skip
 (.exit 2)))
 (.seq (.block 3 (.seq (.ops [o 9 (.mv (b false))])
 (.seq (.seq (.ops [o 10 (.mv (i 0))])
 (.block 4 (.loop (.seq (.seq (.ops [o 35 (.mv (t 10)),
 o 36 (.fa 1 (t 4)),
 o 37 (.ld false 1 (t 36)),
 o 38 (.ln (t 37)),
 o 39 (.bin .lss (t 35) (t 38)),
 o 40 (.mv (t 39)),
 og 41 40 true (.mv (t 9)),
 og 42 40 true (.un .not (t 41)),
 o 43 (.pick (t 40) (t 42) (b false))])
 (.cond (t 43)
 .skip
 (.exit 4)))
 (.seq (.block 5 (.seq (.ops [o 46 (.fa 1 (t 4)),
 o 47 (.ld false 1 (t 46)),
 o 48 (.mv (t 10)),
 o 49 (.ia 10 (t 47) (t 48)),
 o 50 (.ld true 10 (t 49)),
 k 11 (.al 87 [.int .i64 0, .int .i64 0, .int .i64 0, .int .i64 0, .bool false, .int .i64 0, .int .i64 0, .int .i64 0, .int .i64 0, .slice none 0 0]),
 kn (.st [] 10 (t 11) (t 50))])
 (.opd [o 51 (.fa 0 (t 11)),
 o 52 (.ld false 1 (t 51)),
 o 53 (.mv (t 7)),
 o 54 (.bin .eql (t 52) (t 53)),
 o 55 (.mv (t 54)),
 og 56 55 true (.fa 1 (t 11)),
 og 57 55 true (.ld false 1 (t 56)),
 og 58 55 true (.mv (t 8)),
 og 59 55 true (.bin .leq (t 57) (t 58)),
 o 60 (.pick (t 55) (t 59) (b false)),
 o 61 (.mv (t 60)),
 og 62 61 true (.mv (t 8)),
 og 63 61 true (.fa 1 (t 11)),
 og 64 61 true (.ld false 1 (t 63)),
 og 65 61 true (.ld true 7 (t 3)),
 og 66 61 true (.fa 2 (t 11)),
 og 67 61 true (.ld false 1 (t 66)),
 ⟨some 68, some (61, true), .ca (.func 36) [(t 65), (t 67)]⟩,
 og 69 61 true (.bin .add (t 64) (t 68)),
 og 70 61 true (.bin .lss (t 62) (t 69)),
 o 71 (.pick (t 61) (t 70) (b false)),
 o 72 (.mv (t 71)),
 og 73 72 true (.ld true 10 (t 11)),
 ⟨some 74, some (72, true), .ca (.func 37) [(t 73)]⟩,
 o 75 (.pick (t 72) (t 74) (b false)),
 o 9 (.mv (t 75))])))
 (.ops [o 44 (.mv (t 10)),
 o 45 (.bin .add (t 44) (i 1)),
 o 10 (.mv (t 45))]))))))
 (.seq (.ops [o 76 (.mv (t 9)),
 o 77 (.un .not (t 76))])
 (.cond (t 77)
 (.seq (.ops [o 6 (.mv (b false))])
 .ret)
 .skip)))))
 (.ops [o 33 (.mv (t 8)),
 o 34 (.bin .add (t 33) (i 1)),
 o 8 (.mv (t 34))])))))))
 (.ops [o 22 (.mv (t 7)),
 o 23 (.bin .add (t 22) (i 1)),
 o 7 (.mv (t 23))]))))))
 (.seq (.ops [o 6 (.mv (b true))])
 .ret))))⟩
theorem e11 : slimF Tryz.prog Tryz.f11 [[(0, []), (1, []), (2, []), (3, []), (4, []), (5, []), (6, []), (7, []), (8, []), (9, []), (10, []), (11, []), (12, []), (13, []), (14, []), (15, []), (16, []), (17, []), (18, []), (19, []), (20, []), (21, []), (22, []), (23, []), (24, []), (25, [])]] = some c11 := by kernel_rfl
def c12 : SF := ⟨24, [.t 4], (.seq (.ops [k 2 (.bx 38 (t 0)),
 k 3 (.bx 38 (t 1)),
 o 4 (.mv (b false))])
 (.seq (.ops [o 5 (.fa 0 (t 2)),
 o 6 (.ld false 1 (t 5)),
 o 7 (.fa 0 (t 3)),
 o 8 (.ld false 1 (t 7)),
 o 9 (.eqb false (t 6) (t 8)),
 o 10 (.mv (t 9)),
 og 11 10 true (.fa 1 (t 2)),
 og 12 10 true (.ld false 1 (t 11)),
 og 13 10 true (.fa 1 (t 3)),
 og 14 10 true (.ld false 1 (t 13)),
 ⟨some 15, some (10, true), .ca (.func 38) [(t 12), (t 14)]⟩,
 o 16 (.pick (t 10) (t 15) (b false)),
 o 17 (.mv (t 16)),
 og 18 17 true (.fa 2 (t 2)),
 og 19 17 true (.ld false 1 (t 18)),
 og 20 17 true (.fa 2 (t 3)),
 og 21 17 true (.ld false 1 (t 20)),
 ⟨some 22, some (17, true), .ca (.func 39) [(t 19), (t 21)]⟩,
 o 23 (.pick (t 17) (t 22) (b false)),
 o 4 (.mv (t 23))])
 .ret))⟩
theorem e12 : slimF Tryz.prog Tryz.f12 [] = some c12 := by kernel_rfl
def c13 : SF := ⟨41, [.t 0], (.seq (.ops [o 0 (.mv (b false))])
 (.seq (.ops [k 7 (.ca (.func 40) []),
 k 1 (.al 28 [.bool false, .int .i64 0, .slice none 0 0, .slice none 0 0, .slice none 0 0, .slice none 0 0, .slice none 0 0]),
 kn (.st [] 7 (t 1) (t 7))])
 (.seq (.ops [o 8 (.ld true 7 (t 1)),
 k 9 (.ca (.func 41) [(t 8)]),
 k 2 (.al 46 [.slice none 0 0, .slice none 0 0, .int .i64 0, .int .i64 0, .int .i64 0]),
 kn (.st [] 5 (t 2) (t 9))])
 (.seq (.ops [o 11 (.ld true 7 (t 1)),
 o 12 (.bd [.bool false, .slice none 0 0, .slice none 0 0] [(0, 1, (b true))]),
 o 13 (.ld true 5 (t 2)),
 k 14 (.ca (.func 16) [(t 11), (t 12), (t 13)]),
 o 10 (.mv (t 14)),
 o 15 (.ex (t 10) 0),
 o 16 (.ex (t 10) 1),
 o 3 (.mv (t 15)),
 o 4 (.mv (t 16))])
 (.seq (.ops [o 18 (.ld true 7 (t 1)),
 o 19 (.ld true 5 (t 2)),
 k 20 (.ca (.func 7) [(t 18), (t 19)]),
 o 17 (.mv (t 20)),
 o 21 (.ex (t 17) 0),
 o 22 (.ex (t 17) 1),
 k 5 (.al 38 [.bool false, .slice none 0 0, .slice none 0 0]),
 kn (.st [] 3 (t 5) (t 21)),
 o 6 (.mv (t 22))])
 (.seq (.ops [o 23 (.mv (t 4)),
 k 24 (.ca (.func 9) [(t 23)]),
 o 25 (.bin .eql (t 24) (i 0)),
 o 26 (.mv (t 25)),
 og 27 26 true (.mv (t 6)),
 ⟨some 28, some (26, true), .ca (.func 9) [(t 27)]⟩,
 og 29 26 true (.bin .eql (t 28) (i 0)),
 o 30 (.pick (t 26) (t 29) (b false)),
 o 31 (.mv (t 30)),
 og 32 31 true (.mv (t 3)),
 og 33 31 true (.un .not (t 32)),
 o 34 (.pick (t 31) (t 33) (b false)),
 o 35 (.mv (t 34)),
 og 36 35 true (.ld true 7 (t 1)),
 og 37 35 true (.ld true 3 (t 5)),
 og 38 35 true (.ld true 5 (t 2)),
 ⟨some 39, some (35, true), .ca (.func 11) [(t 36), (t 37), (t 38)]⟩,
 o 40 (.pick (t 35) (t 39) (b false)),
 o 0 (.mv (t 40))])
 .ret))))))⟩
theorem e13 : slimF Tryz.prog Tryz.f13 [] = some c13 := by kernel_rfl
def c16 : SF := ⟨23, [.t 6, .t 7], (.seq (.ops [k 3 (.bx 28 (t 0)),
 k 4 (.bx 38 (t 1)),
 k 5 (.bx 46 (t 2)),
 o 6 (.mv (b false)),
 o 7 (.mv (i 0))])
 (.seq (.seq (.ops [o 8 (.ld true 7 (t 3)),
 o 9 (.ld true 3 (t 4)),
 k 10 (.bs 38 1 [.bool false, .slice none 0 0, .slice none 0 0] [(0, 3, (t 9))]),
 k 11 (.ca (.func 44) [(t 8), (t 10)]),
 o 12 (.un .not (t 11)),
 o 13 (.mv (t 12)),
 og 14 13 false (.ld true 7 (t 3)),
 og 15 13 false (.ld true 5 (t 5)),
 ⟨some 16, some (13, false), .ca (.func 28) [(t 14), (t 15)]⟩,
 og 17 13 false (.un .not (t 16)),
 o 18 (.pick (t 13) (b true) (t 17))])
 (.cond (t 18)
 (.seq (.ops [o 6 (.mv (b false)),
 o 7 (.mv (i 1))])
 .ret)
 .skip))
 (.seq (.ops [o 19 (.ld true 7 (t 3)),
 o 20 (.ld true 3 (t 4)),
 o 21 (.ld true 5 (t 5)),
 k 22 (.ca (.func 45) [(t 19), (t 20), (t 21)]),
 o 6 (.mv (t 22)),
 o 7 (.mv (i 0))])
 .ret)))⟩
theorem e16 : slimF Tryz.prog Tryz.f16 [] = some c16 := by kernel_rfl
def c17 : SF := ⟨54, [.t 6], (.seq (.ops [k 3 (.bx 28 (t 0)),
 k 4 (.bx 38 (t 1)),
 k 5 (.bx 46 (t 2)),
 o 6 (.mv (b false))])
 (.seq (.seq (.ops [o 9 (.fa 0 (t 4)),
 o 10 (.ld false 1 (t 9))])
 (.cond (t 10)
 (.seq (.ops [o 6 (.mv (b false))])
 .ret)
 .skip))
 (.seq (.seq (.ops [o 7 (.mv (i 0))])
 (.block 0 (.loop (.seq (.seq (.ops [o 11 (.mv (t 7)),
 o 12 (.fa 1 (t 4)),
 o 13 (.ld false 1 (t 12)),
 o 14 (.ln (t 13)),
 o 15 (.bin .lss (t 11) (t 14))])
 (.cond (t 15)
 .skip
 (.exit 0)))
 (.seq (.block 1 (.seq (.opq [o 18 (.ld true 7 (t 3)),
 o 19 (.fa 0 (t 5)),
 o 20 (.ld false 1 (t 19)),
 o 21 (.fa 1 (t 4)),
 o 22 (.ld false 1 (t 21)),
 o 23 (.mv (t 7)),
 o 24 (.ia 10 (t 22) (t 23)),
 o 25 (.ld true 10 (t 24)),
 k 26 (.ca (.func 46) [(t 18), (t 20), (t 25)]),
 o 27 (.un .not (t 26))])
 (.cond (t 27)
 (.seq (.ops [o 6 (.mv (b false))])
 .ret)
 .skip)))
 (.ops [o 16 (.mv (t 7)),
 o 17 (.bin .add (t 16) (i 1)),
 o 7 (.mv (t 17))]))))))
 (.seq (.seq (.ops [o 8 (.mv (i 0))])
 (.block 2 (.loop (.seq (.seq (.ops [o 28 (.mv (t 8)),
 o 29 (.fa 2 (t 4)),
 o 30 (.ld false 1 (t 29)),
 o 31 (.ln (t 30)),
 o 32 (.bin .lss (t 28) (t 31))])
 (.cond (t 32)
 .skip
 (.exit 2)))
 (.seq (.block 3 (.seq (.opq [o 35 (.fa 2 (t 4)),
 o 36 (.ld false 1 (t 35)),
 o 37 (.mv (t 8)),
 o 38 (.ia 1 (t 36) (t 37)),
 o 39 (.ld false 1 (t 38)),
 o 40 (.fa 0 (t 5)),
 o 41 (.ld false 1 (t 40)),
 o 42 (.fa 2 (t 3)),
 o 43 (.ld false 1 (t 42)),
 o 44 (.ln (t 43)),
 o 45 (.bin .add (t 44) (i 1)),
 o 46 (.mv (t 8)),
 o 47 (.bin .add (t 45) (t 46)),
 o 48 (.ia 2 (t 41) (t 47)),
 o 49 (.fa 0 (t 48)),
 o 50 (.ld false 1 (t 49)),
 o 51 (.bin .shr (t 39) (t 50)),
 o 52 (.bin .and (t 51) (i 1)),
 o 53 (.bin .eql (t 52) (i 0))])
 (.cond (t 53)
 (.seq (.ops [o 6 (.mv (b false))])
 .ret)
 .skip)))
 (.ops [o 33 (.mv (t 8)),
 o 34 (.bin .add (t 33) (i 1)),
 o 8 (.mv (t 34))]))))))
 (.seq (.ops [o 6 (.mv (b true))])
 .ret)))))⟩
theorem e17 : slimF Tryz.prog Tryz.f17 [[(0, []), (1, []), (2, []), (3, []), (4, []), (5, []), (6, []), (7, []), (8, []), (9, [])], [(0, []), (1, []), (2, []), (3, []), (4, []), (5, []), (6, []), (7, []), (8, []), (9, []), (10, []), (11, []), (12, []), (13, []), (14, []), (15, []), (16, []), (17, []), (18, [])]] = some c17 := by kernel_rfl
def c18 : SF := ⟨53, [.t 2], (.seq (.ops [k 1 (.bx 28 (t 0)),
 o 2 (.mv (i 0))])
 (.seq (.ops [o 5 (.fa 2 (t 1)),
 o 6 (.ld false 1 (t 5)),
 o 7 (.ln (t 6)),
 o 8 (.fa 3 (t 1)),
 o 9 (.ld false 1 (t 8)),
 o 10 (.ln (t 9)),
 o 11 (.bin .add (t 7) (t 10)),
 o 12 (.fa 4 (t 1)),
 o 13 (.ld false 1 (t 12)),
 o 14 (.ln (t 13)),
 o 15 (.bin .add (t 11) (t 14)),
 o 16 (.fa 5 (t 1)),
 o 17 (.ld false 1 (t 16)),
 o 18 (.ln (t 17)),
 o 19 (.bin .add (t 15) (t 18)),
 o 20 (.fa 6 (t 1)),
 o 21 (.ld false 1 (t 20)),
 o 22 (.ln (t 21)),
 o 23 (.bin .add (t 19) (t 22)),
 o 3 (.mv (t 23))])
 (.seq (.seq (.ops [o 4 (.mv (i 0))])
 (.block 0 (.loop (.seq (.seq (.ops [o 24 (.mv (t 4)),
 o 25 (.fa 5 (t 1)),
 o 26 (.ld false 1 (t 25)),
 o 27 (.ln (t 26)),
 o 28 (.bin .lss (t 24) (t 27)),
 o 29 (.mv (t 28)),
 og 30 29 true (.mv (t 3)),
 og 31 29 true (.bin .lss (t 30) (i 1048576)),
 o 32 (.pick (t 29) (t 31) (b false))])
 (.cond (t 32)
 .skip
 (.exit 0)))
 (.seq (.block 1 (.opq [o 35 (.mv (t 3)),
 o 36 (.fa 5 (t 1)),
 o 37 (.ld false 1 (t 36)),
 o 38 (.mv (t 4)),
 o 39 (.ia 7 (t 37) (t 38)),
 o 40 (.fa 5 (t 39)),
 o 41 (.ld false 1 (t 40)),
 o 42 (.ln (t 41)),
 o 43 (.bin .add (t 35) (t 42)),
 o 44 (.fa 5 (t 1)),
 o 45 (.ld false 1 (t 44)),
 o 46 (.mv (t 4)),
 o 47 (.ia 7 (t 45) (t 46)),
 o 48 (.fa 6 (t 47)),
 o 49 (.ld false 1 (t 48)),
 o 50 (.ln (t 49)),
 o 51 (.bin .add (t 43) (t 50)),
 o 3 (.mv (t 51))]))
 (.ops [o 33 (.mv (t 4)),
 o 34 (.bin .add (t 33) (i 1)),
 o 4 (.mv (t 34))]))))))
 (.seq (.ops [o 52 (.mv (t 3)),
 o 2 (.mv (t 52))])
 .ret))))⟩
theorem e18 : slimF Tryz.prog Tryz.f18 [[(0, []), (1, []), (2, []), (3, []), (4, []), (5, []), (6, []), (7, []), (8, []), (9, []), (10, []), (11, []), (12, []), (13, []), (14, []), (15, []), (16, []), (17, [])]] = some c18 := by kernel_rfl
def c19 : SF := ⟨10, [.t 2], (.seq (.ops [k 1 (.bx 46 (t 0)),
 o 2 (.mv (i 0))])
 (.seq (.opd [o 3 (.fa 0 (t 1)),
 o 4 (.ld false 1 (t 3)),
 o 6 (.fa 1 (t 1)),
 o 7 (.ld false 1 (t 6)),
 o 8 (.ln (t 7)),
 k 5 (.ca (.func 47) [(t 4)]),
 o 9 (.bin .add (t 5) (t 8)),
 o 2 (.mv (t 9))])
 .ret))⟩
theorem e19 : slimF Tryz.prog Tryz.f19 [[(0, []), (1, []), (3, []), (4, []), (5, []), (2, []), (6, []), (7, [])]] = some c19 := by kernel_rfl
def c20 : SF := ⟨34, [.t 2], (.seq (.ops [k 1 (.bx 38 (t 0)),
 o 2 (.mv (i 0))])
 (.seq (.ops [o 5 (.fa 1 (t 1)),
 o 6 (.ld false 1 (t 5)),
 o 7 (.ln (t 6)),
 o 8 (.fa 2 (t 1)),
 o 9 (.ld false 1 (t 8)),
 o 10 (.ln (t 9)),
 o 11 (.bin .add (t 7) (t 10)),
 o 3 (.mv (t 11))])
 (.seq (.seq (.ops [o 4 (.mv (i 0))])
 (.block 0 (.loop (.seq (.seq (.ops [o 12 (.mv (t 4)),
 o 13 (.fa 1 (t 1)),
 o 14 (.ld false 1 (t 13)),
 o 15 (.ln (t 14)),
 o 16 (.bin .lss (t 12) (t 15)),
 o 17 (.mv (t 16)),
 og 18 17 true (.mv (t 3)),
 og 19 17 true (.bin .lss (t 18) (i 1048576)),
 o 20 (.pick (t 17) (t 19) (b false))])
 (.cond (t 20)
 .skip
 (.exit 0)))
 (.seq (.block 1 (.ops [o 23 (.mv (t 3)),
 o 24 (.fa 1 (t 1)),
 o 25 (.ld false 1 (t 24)),
 o 26 (.mv (t 4)),
 o 27 (.ia 10 (t 25) (t 26)),
 o 28 (.fa 3 (t 27)),
 o 29 (.fa 6 (t 28)),
 o 30 (.ld false 1 (t 29)),
 o 31 (.ln (t 30)),
 o 32 (.bin .add (t 23) (t 31)),
 o 3 (.mv (t 32))]))
 (.ops [o 21 (.mv (t 4)),
 o 22 (.bin .add (t 21) (i 1)),
 o 4 (.mv (t 22))]))))))
 (.seq (.ops [o 33 (.mv (t 3)),
 o 2 (.mv (t 33))])
 .ret))))⟩
theorem e20 : slimF Tryz.prog Tryz.f20 [] = some c20 := by kernel_rfl
def c21 : SF := ⟨7, [.t 2], (.seq (.ops [k 1 (.bx 68 (t 0)),
 o 2 (.mv (i 0))])
 (.seq (.ops [o 3 (.fa 6 (t 1)),
 o 4 (.ld false 1 (t 3)),
 o 5 (.ln (t 4)),
 o 6 (.bin .add (i 1) (t 5)),
 o 2 (.mv (t 6))])
 .ret))⟩
theorem e21 : slimF Tryz.prog Tryz.f21 [] = some c21 := by kernel_rfl
def c22 : SF := ⟨11, [.t 2], (.seq (.ops [k 1 (.bx 23 (t 0)),
 o 2 (.mv (b false))])
 (.seq (.ops [o 3 (.fa 1 (t 1)),
 o 4 (.ld false 1 (t 3)),
 o 5 (.bin .eql (t 4) (i 2)),
 o 6 (.mv (t 5)),
 og 7 6 false (.fa 1 (t 1)),
 og 8 6 false (.ld false 1 (t 7)),
 og 9 6 false (.bin .eql (t 8) (i 4)),
 o 10 (.pick (t 6) (b true) (t 9)),
 o 2 (.mv (t 10))])
 .ret))⟩
theorem e22 : slimF Tryz.prog Tryz.f22 [] = some c22 := by kernel_rfl
def c23 : SF := ⟨27, [.t 4], (.seq (.ops [o 4 (.mv (b false))])
 (.seq (.seq (.ops [o 5 (.mv (i 0))])
 (.block 0 (.loop (.seq (.seq (.ops [o 6 (.mv (t 5)),
 o 7 (.mv (t 0)),
 o 8 (.ln (t 7)),
 o 9 (.bin .lss (t 6) (t 8)),
 o 10 (.mv (t 9)),
 og 11 10 true (.mv (t 5)),
 og 12 10 true (.mv (t 1)),
 og 13 10 true (.bin .leq (t 11) (t 12)),
 o 14 (.pick (t 10) (t 13) (b false))])
 (.cond (t 14)
 .skip
 (.exit 0)))
 (.seq (.block 1 (.seq (.ops [o 17 (.mv (t 0)),
 o 18 (.mv (t 5)),
 o 19 (.ia 1 (t 17) (t 18)),
 o 20 (.ld false 1 (t 19)),
 k 21 (.ca (.func 33) [(t 20), (i 1), (i 32)]),
 o 22 (.un .not (t 21))])
 (.cond (t 22)
 (.seq (.ops [o 4 (.mv (b false))])
 .ret)
 .skip)))
 (.ops [o 15 (.mv (t 5)),
 o 16 (.bin .add (t 15) (i 1)),
 o 5 (.mv (t 16))]))))))
 (.seq (.ops [o 23 (.mv (t 0)),
 o 24 (.ln (t 23)),
 o 25 (.mv (t 1)),
 o 26 (.bin .leq (t 24) (t 25)),
 o 4 (.mv (t 26))])
 .ret)))⟩
theorem e23 : slimF Tryz.prog Tryz.f23 [] = some c23 := by kernel_rfl
def c24 : SF := ⟨196, [.t 4], (.seq (.ops [k 2 (.bx 28 (t 0)),
 o 4 (.mv (b false))])
 (.seq (.ops [o 8 (.fa 4 (t 2)),
 o 9 (.ld false 1 (t 8)),
 o 10 (.mv (t 1)),
 o 11 (.ia 5 (t 9) (t 10)),
 o 12 (.ld true 5 (t 11)),
 k 5 (.al 101 [.int .i64 0, .int .i64 0, .int .i64 0, .int .i64 0, .int .i64 0]),
 kn (.st [] 5 (t 5) (t 12))])
 (.seq (.seq (.ops [o 13 (.fa 0 (t 5)),
 o 14 (.ld false 1 (t 13)),
 k 15 (.ca (.func 33) [(t 14), (i 1), (i 22)]),
 o 16 (.un .not (t 15))])
 (.cond (t 16)
 (.seq (.ops [o 4 (.mv (b false))])
 .ret)
 .skip))
 (.seq (.ops [o 6 (.mv (i 0)),
 o 7 (.mv (i 0))])
 (.seq (.seq (.ops [o 17 (.fa 0 (t 5)),
 o 18 (.ld false 1 (t 17)),
 k 19 (.ca (.func 48) [(t 18)]),
 o 20 (.bin .gtr (t 19) (i 0))])
 (.cond (t 20)
 (.seq (.seq (.ops [o 21 (.fa 3 (t 5)),
 o 22 (.ld false 1 (t 21)),
 o 23 (.mv (t 1)),
 o 24 (.bin .sub (t 23) (i 1)),
 k 25 (.ca (.func 32) [(t 22), (t 24)]),
 o 26 (.un .not (t 25))])
 (.cond (t 26)
 (.seq (.ops [o 4 (.mv (b false))])
 .ret)
 .skip))
 (.ops [o 27 (.fa 4 (t 2)),
 o 28 (.ld false 1 (t 27)),
 o 29 (.fa 3 (t 5)),
 o 30 (.ld false 1 (t 29)),
 o 31 (.ia 5 (t 28) (t 30)),
 o 32 (.fa 1 (t 31)),
 o 33 (.ld false 1 (t 32)),
 o 6 (.mv (t 33))]))
 (.seq (.ops [o 34 (.fa 3 (t 5)),
 o 35 (.ld false 1 (t 34)),
 o 36 (.bin .neq (t 35) (i 0))])
 (.cond (t 36)
 (.seq (.ops [o 4 (.mv (b false))])
 .ret)
 .skip))))
 (.seq (.seq (.ops [o 37 (.fa 0 (t 5)),
 o 38 (.ld false 1 (t 37)),
 k 39 (.ca (.func 48) [(t 38)]),
 o 40 (.bin .gtr (t 39) (i 1))])
 (.cond (t 40)
 (.seq (.seq (.ops [o 41 (.fa 4 (t 5)),
 o 42 (.ld false 1 (t 41)),
 o 43 (.mv (t 1)),
 o 44 (.bin .sub (t 43) (i 1)),
 k 45 (.ca (.func 32) [(t 42), (t 44)]),
 o 46 (.un .not (t 45))])
 (.cond (t 46)
 (.seq (.ops [o 4 (.mv (b false))])
 .ret)
 .skip))
 (.ops [o 47 (.fa 4 (t 2)),
 o 48 (.ld false 1 (t 47)),
 o 49 (.fa 4 (t 5)),
 o 50 (.ld false 1 (t 49)),
 o 51 (.ia 5 (t 48) (t 50)),
 o 52 (.fa 1 (t 51)),
 o 53 (.ld false 1 (t 52)),
 o 7 (.mv (t 53))]))
 (.seq (.ops [o 54 (.fa 4 (t 5)),
 o 55 (.ld false 1 (t 54)),
 o 56 (.bin .neq (t 55) (i 0))])
 (.cond (t 56)
 (.seq (.ops [o 4 (.mv (b false))])
 .ret)
 .skip))))
 (.seq (.seq (.ops [o 57 (.fa 0 (t 5)),
 o 58 (.ld false 1 (t 57)),
 o 59 (.bin .eql (t 58) (i 1))])
 (.cond (t 59)
 (.seq (.opd [o 60 (.fa 1 (t 5)),
 o 61 (.ld false 1 (t 60)),
 k 62 (.ca (.func 49) [(t 61)]),
 o 63 (.mv (t 62)),
 og 64 63 true (.fa 2 (t 5)),
 og 65 63 true (.ld false 1 (t 64)),
 og 66 63 true (.fa 1 (t 5)),
 og 67 63 true (.ld false 1 (t 66)),
 ⟨some 68, some (63, true), .ca (.func 51) [(t 67)]⟩,
 ⟨some 69, some (63, true), .ca (.func 50) [(t 65), (t 68)]⟩,
 o 70 (.pick (t 63) (t 69) (b false)),
 o 71 (.mv (t 70)),
 og 72 71 false (.fa 1 (t 5)),
 og 73 71 false (.ld false 1 (t 72)),
 og 74 71 false (.bin .eql (t 73) (i 7)),
 og 75 71 false (.mv (t 74)),
 og 76 75 true (.fa 2 (t 5)),
 og 77 75 true (.ld false 1 (t 76)),
 og 78 75 true (.bin .eql (t 77) (i 0)),
 og 79 71 false (.pick (t 75) (t 78) (b false)),
 o 80 (.pick (t 71) (b true) (t 79)),
 o 4 (.mv (t 80))])
 .ret)
 .skip))
 (.seq (.seq (.ops [o 81 (.fa 0 (t 5)),
 o 82 (.ld false 1 (t 81)),
 o 83 (.bin .eql (t 82) (i 2))])
 (.cond (t 83)
 (.seq (.ops [o 84 (.fa 1 (t 5)),
 o 85 (.ld false 1 (t 84)),
 o 86 (.bin .eql (t 85) (i 7)),
 o 87 (.mv (t 86)),
 og 88 87 true (.fa 2 (t 5)),
 og 89 87 true (.ld false 1 (t 88)),
 og 90 87 true (.fa 2 (t 2)),
 og 91 87 true (.ld false 1 (t 90)),
 og 92 87 true (.ln (t 91)),
 ⟨some 93, some (87, true), .ca (.func 33) [(t 89), (i 1), (t 92)]⟩,
 o 94 (.pick (t 87) (t 93) (b false)),
 o 4 (.mv (t 94))])
 .ret)
 .skip))
 (.seq (.seq (.ops [o 95 (.fa 2 (t 5)),
 o 96 (.ld false 1 (t 95)),
 o 97 (.bin .neq (t 96) (i 0))])
 (.cond (t 97)
 (.seq (.ops [o 4 (.mv (b false))])
 .ret)
 .skip))
 (.seq (.seq (.ops [o 98 (.fa 0 (t 5)),
 o 99 (.ld false 1 (t 98))])
 (.block 0 (.seq (.ops [o 101 (.bin .eql (t 99) (i 3)),
 o 100 (.mv (t 101))])
 (.cond (t 100)
 (.seq (.ops [o 102 (.fa 1 (t 5)),
 o 103 (.ld false 1 (t 102)),
 k 104 (.ca (.func 52) [(t 103)]),
 o 105 (.mv (t 104)),
 og 106 105 true (.mv (t 6)),
 og 107 105 true (.bin .eql (t 106) (i 7)),
 o 108 (.pick (t 105) (t 107) (b false)),
 o 4 (.mv (t 108))])
 .ret)
 (.seq (.ops [o 110 (.bin .eql (t 99) (i 4)),
 o 109 (.mv (t 110))])
 (.cond (t 109)
 (.seq (.ops [o 111 (.fa 1 (t 5)),
 o 112 (.ld false 1 (t 111)),
 k 113 (.ca (.func 49) [(t 112)]),
 o 114 (.mv (t 113)),
 og 115 114 true (.mv (t 6)),
 ⟨some 116, some (114, true), .ca (.func 49) [(t 115)]⟩,
 o 117 (.pick (t 114) (t 116) (b false)),
 o 4 (.mv (t 117))])
 .ret)
 (.seq (.seq (.ops [o 119 (.bin .eql (t 99) (i 5)),
 o 118 (.mv (t 119))])
 (.cond (t 118)
 .skip
 (.ops [o 120 (.bin .eql (t 99) (i 6)),
 o 118 (.mv (t 120))])))
 (.cond (t 118)
 (.seq (.ops [o 121 (.fa 1 (t 5)),
 o 122 (.ld false 1 (t 121)),
 k 123 (.ca (.func 49) [(t 122)]),
 o 124 (.mv (t 123)),
 og 125 124 true (.mv (t 6)),
 og 126 124 true (.fa 1 (t 5)),
 og 127 124 true (.ld false 1 (t 126)),
 og 128 124 true (.bin .eql (t 125) (t 127)),
 o 129 (.pick (t 124) (t 128) (b false)),
 o 4 (.mv (t 129))])
 .ret)
 (.seq (.ops [o 131 (.bin .eql (t 99) (i 7)),
 o 130 (.mv (t 131))])
 (.cond (t 130)
 (.seq (.ops [o 132 (.fa 1 (t 5)),
 o 133 (.ld false 1 (t 132)),
 o 134 (.bin .eql (t 133) (i 6)),
 o 135 (.mv (t 134)),
 og 136 135 true (.mv (t 6)),
 ⟨some 137, some (135, true), .ca (.func 52) [(t 136)]⟩,
 o 138 (.pick (t 135) (t 137) (b false)),
 o 4 (.mv (t 138))])
 .ret)
 (.seq (.seq (.ops [o 140 (.bin .eql (t 99) (i 18)),
 o 139 (.mv (t 140))])
 (.cond (t 139)
 .skip
 (.ops [o 141 (.bin .eql (t 99) (i 19)),
 o 139 (.mv (t 141))])))
 (.cond (t 139)
 (.seq (.ops [o 142 (.fa 1 (t 5)),
 o 143 (.ld false 1 (t 142)),
 o 144 (.bin .eql (t 143) (i 6)),
 o 145 (.mv (t 144)),
 og 146 145 true (.mv (t 6)),
 ⟨some 147, some (145, true), .ca (.func 49) [(t 146)]⟩,
 o 148 (.pick (t 145) (t 147) (b false)),
 o 149 (.mv (t 148)),
 og 150 149 true (.mv (t 6)),
 og 151 149 true (.mv (t 7)),
 og 152 149 true (.bin .eql (t 150) (t 151)),
 o 153 (.pick (t 149) (t 152) (b false)),
 o 4 (.mv (t 153))])
 .ret)
 (.seq (.ops [o 155 (.bin .eql (t 99) (i 20)),
 o 154 (.mv (t 155))])
 (.cond (t 154)
 (.seq (.ops [o 156 (.fa 1 (t 5)),
 o 157 (.ld false 1 (t 156)),
 o 158 (.bin .eql (t 157) (i 7)),
 o 159 (.mv (t 158)),
 og 160 159 true (.mv (t 6)),
 og 161 159 true (.bin .eql (t 160) (i 7)),
 o 162 (.pick (t 159) (t 161) (b false)),
 o 163 (.mv (t 162)),
 og 164 163 true (.mv (t 7)),
 og 165 163 true (.bin .eql (t 164) (i 6)),
 o 166 (.pick (t 163) (t 165) (b false)),
 o 4 (.mv (t 166))])
 .ret)
 (.seq (.seq (.ops [o 168 (.bin .eql (t 99) (i 21)),
 o 167 (.mv (t 168))])
 (.cond (t 167)
 .skip
 (.ops [o 169 (.bin .eql (t 99) (i 22)),
 o 167 (.mv (t 169))])))
 (.cond (t 167)
 (.seq (.ops [o 170 (.fa 1 (t 5)),
 o 171 (.ld false 1 (t 170)),
 o 172 (.bin .eql (t 171) (i 6)),
 o 173 (.mv (t 172)),
 og 174 173 true (.mv (t 6)),
 og 175 173 true (.bin .eql (t 174) (i 7)),
 o 176 (.pick (t 173) (t 175) (b false)),
 o 177 (.mv (t 176)),
 og 178 177 true (.mv (t 7)),
 og 179 177 true (.bin .eql (t 178) (i 7)),
 o 180 (.pick (t 177) (t 179) (b false)),
 o 4 (.mv (t 180))])
 .ret)
 .skip))))))))))))))))
 (.seq (.ops [o 181 (.fa 1 (t 5)),
 o 182 (.ld false 1 (t 181)),
 k 183 (.ca (.func 49) [(t 182)]),
 o 184 (.mv (t 183)),
 og 185 184 true (.mv (t 6)),
 og 186 184 true (.fa 1 (t 5)),
 og 187 184 true (.ld false 1 (t 186)),
 og 188 184 true (.bin .eql (t 185) (t 187)),
 o 189 (.pick (t 184) (t 188) (b false)),
 o 190 (.mv (t 189)),
 og 191 190 true (.mv (t 7)),
 og 192 190 true (.fa 1 (t 5)),
 og 193 190 true (.ld false 1 (t 192)),
 og 194 190 true (.bin .eql (t 191) (t 193)),
 o 195 (.pick (t 190) (t 194) (b false)),
 o 4 (.mv (t 195))])
 .ret)))))))))))⟩
theorem e24 : slimF Tryz.prog Tryz.f24 [[(0, []), (1, []), (2, []), (3, []), (4, []), (5, []), (6, []), (7, []), (8, []), (9, []), (10, []), (11, []), (12, []), (13, []), (14, []), (15, []), (16, []), (17, []), (18, []), (19, []), (20, []), (21, [])]] = some c24 := by kernel_rfl
def c25 : SF := ⟨129, [.t 4], (.seq (.ops [k 2 (.bx 28 (t 0)),
 k 3 (.bx 74 (t 1)),
 o 4 (.mv (b false))])
 (.seq (.ops [o 7 (.fa 0 (t 3)),
 o 8 (.ld false 1 (t 7)),
 o 9 (.bd [.int .i64 0, .int .i64 0, .int .i64 0, .int .i64 0, .int .i64 0, .slice none 0 0, .slice none 0 0] [(0, 1, (t 8))]),
 k 5 (.al 74 [.int .i64 0, .int .i64 0, .int .i64 0, .int .i64 0, .int .i64 0, .slice none 0 0, .slice none 0 0]),
 kn (.st [] 7 (t 5) (t 9))])
 (.seq (.ops [o 6 (.mv (b true))])
 (.seq (.seq (.ops [o 10 (.fa 0 (t 3)),
 o 11 (.ld false 1 (t 10))])
 (.block 0 (.seq (.ops [o 13 (.bin .eql (t 11) (i 1)),
 o 12 (.mv (t 13))])
 (.cond (t 12)
 (.seq (.opq [o 14 (.fa 1 (t 3)),
 o 15 (.ld false 1 (t 14)),
 o 16 (.fa 2 (t 3)),
 o 17 (.ld false 1 (t 16)),
 o 18 (.fa 3 (t 3)),
 o 19 (.ld false 1 (t 18)),
 o 20 (.fa 1 (t 5)),
 kn (.st [16, 18] 1 (t 20) (t 15)),
 o 21 (.fa 2 (t 5)),
 kn (.st [18] 1 (t 21) (t 17)),
 o 22 (.fa 3 (t 5)),
 kn (.st [] 1 (t 22) (t 19))])
 (.ops [o 23 (.ld true 7 (t 2)),
 o 24 (.fa 1 (t 3)),
 o 25 (.ld false 1 (t 24)),
 k 26 (.ca (.func 53) [(t 23), (t 25), (i 7)]),
 o 27 (.mv (t 26)),
 og 28 27 true (.fa 2 (t 3)),
 og 29 27 true (.ld false 1 (t 28)),
 ⟨some 30, some (27, true), .ca (.func 52) [(t 29)]⟩,
 o 31 (.pick (t 27) (t 30) (b false)),
 o 32 (.mv (t 31)),
 og 33 32 true (.ld true 7 (t 2)),
 og 34 32 true (.fa 3 (t 3)),
 og 35 32 true (.ld false 1 (t 34)),
 og 36 32 true (.fa 2 (t 3)),
 og 37 32 true (.ld false 1 (t 36)),
 ⟨some 38, some (32, true), .ca (.func 53) [(t 33), (t 35), (t 37)]⟩,
 o 39 (.pick (t 32) (t 38) (b false)),
 o 6 (.mv (t 39))]))
 (.seq (.ops [o 41 (.bin .eql (t 11) (i 2)),
 o 40 (.mv (t 41))])
 (.cond (t 40)
 (.seq (.opq [o 42 (.fa 1 (t 3)),
 o 43 (.ld false 1 (t 42)),
 o 44 (.fa 2 (t 3)),
 o 45 (.ld false 1 (t 44)),
 o 46 (.fa 1 (t 5)),
 kn (.st [44] 1 (t 46) (t 43)),
 o 47 (.fa 2 (t 5)),
 kn (.st [] 1 (t 47) (t 45))])
 (.ops [o 48 (.ld true 7 (t 2)),
 o 49 (.fa 1 (t 3)),
 o 50 (.ld false 1 (t 49)),
 k 51 (.ca (.func 53) [(t 48), (t 50), (i 7)]),
 o 52 (.mv (t 51)),
 og 53 52 true (.fa 2 (t 3)),
 og 54 52 true (.ld false 1 (t 53)),
 ⟨some 55, some (52, true), .ca (.func 49) [(t 54)]⟩,
 o 56 (.pick (t 52) (t 55) (b false)),
 o 6 (.mv (t 56))]))
 (.seq (.ops [o 58 (.bin .eql (t 11) (i 3)),
 o 57 (.mv (t 58))])
 (.cond (t 57)
 (.seq (.opq [o 59 (.fa 1 (t 3)),
 o 60 (.ld false 1 (t 59)),
 o 61 (.fa 4 (t 3)),
 o 62 (.ld false 1 (t 61)),
 o 63 (.fa 1 (t 5)),
 kn (.st [61] 1 (t 63) (t 60)),
 o 64 (.fa 4 (t 5)),
 kn (.st [] 1 (t 64) (t 62))])
 (.ops [o 65 (.ld true 7 (t 2)),
 o 66 (.fa 1 (t 3)),
 o 67 (.ld false 1 (t 66)),
 k 68 (.ca (.func 53) [(t 65), (t 67), (i 7)]),
 o 69 (.mv (t 68)),
 og 70 69 true (.fa 4 (t 3)),
 og 71 69 true (.ld false 1 (t 70)),
 og 72 69 true (.fa 2 (t 2)),
 og 73 69 true (.ld false 1 (t 72)),
 og 74 69 true (.ln (t 73)),
 og 75 69 true (.bin .add (t 74) (i 1)),
 og 76 69 true (.fa 2 (t 2)),
 og 77 69 true (.ld false 1 (t 76)),
 og 78 69 true (.ln (t 77)),
 og 79 69 true (.fa 3 (t 2)),
 og 80 69 true (.ld false 1 (t 79)),
 og 81 69 true (.ln (t 80)),
 og 82 69 true (.bin .add (t 78) (t 81)),
 ⟨some 83, some (69, true), .ca (.func 33) [(t 71), (t 75), (t 82)]⟩,
 o 84 (.pick (t 69) (t 83) (b false)),
 o 6 (.mv (t 84))]))
 (.seq (.ops [o 86 (.bin .eql (t 11) (i 4)),
 o 85 (.mv (t 86))])
 (.cond (t 85)
 (.seq (.ops [o 87 (.fa 3 (t 3)),
 o 88 (.ld false 1 (t 87)),
 o 89 (.fa 3 (t 5)),
 kn (.st [] 1 (t 89) (t 88))])
 (.ops [o 90 (.ld true 7 (t 2)),
 o 91 (.fa 3 (t 3)),
 o 92 (.ld false 1 (t 91)),
 k 93 (.ca (.func 53) [(t 90), (t 92), (i 7)]),
 o 6 (.mv (t 93))]))
 (.seq (.ops [o 95 (.bin .eql (t 11) (i 5)),
 o 94 (.mv (t 95))])
 (.cond (t 94)
 (.seq (.opq [o 96 (.fa 3 (t 3)),
 o 97 (.ld false 1 (t 96)),
 o 98 (.fa 5 (t 3)),
 o 99 (.ld false 1 (t 98)),
 o 100 (.fa 6 (t 3)),
 o 101 (.ld false 1 (t 100)),
 o 102 (.fa 3 (t 5)),
 kn (.st [98, 100] 1 (t 102) (t 97)),
 o 103 (.fa 5 (t 5)),
 kn (.st [100] 1 (t 103) (t 99)),
 o 104 (.fa 6 (t 5)),
 kn (.st [] 1 (t 104) (t 101))])
 (.ops [o 105 (.ld true 7 (t 2)),
 o 106 (.fa 3 (t 3)),
 o 107 (.ld false 1 (t 106)),
 k 108 (.ca (.func 53) [(t 105), (t 107), (i 6)]),
 o 6 (.mv (t 108))]))
 (.seq (.ops [o 110 (.bin .eql (t 11) (i 6)),
 o 109 (.mv (t 110))])
 (.cond (t 109)
 (.seq (.opq [o 111 (.fa 3 (t 3)),
 o 112 (.ld false 1 (t 111)),
 o 113 (.fa 5 (t 3)),
 o 114 (.ld false 1 (t 113)),
 o 115 (.fa 3 (t 5)),
 kn (.st [113] 1 (t 115) (t 112)),
 o 116 (.fa 5 (t 5)),
 kn (.st [] 1 (t 116) (t 114))])
 (.ops [o 117 (.ld true 7 (t 2)),
 o 118 (.fa 3 (t 3)),
 o 119 (.ld false 1 (t 118)),
 k 120 (.ca (.func 53) [(t 117), (t 119), (i 6)]),
 o 6 (.mv (t 120))]))
 (.seq (.ops [o 122 (.bin .eql (t 11) (i 7)),
 o 121 (.mv (t 122))])
 (.cond (t 121)
 .skip
 (.seq (.ops [o 4 (.mv (b false))])
 .ret)))))))))))))))))
 (.seq (.ops [o 123 (.mv (t 6)),
 o 124 (.mv (t 123)),
 og 125 124 true (.ld true 7 (t 3)),
 og 126 124 true (.ld true 7 (t 5)),
 ⟨some 127, some (124, true), .ca (.func 54) [(t 125), (t 126)]⟩,
 o 128 (.pick (t 124) (t 127) (b false)),
 o 4 (.mv (t 128))])
 .ret)))))⟩
theorem e25 : slimF Tryz.prog Tryz.f25 [[(0, []), (1, []), (2, []), (3, []), (4, []), (5, []), (6, []), (7, [16, 18]), (8, []), (9, [18]), (10, []), (11, [])], [(0, []), (1, []), (2, []), (3, []), (4, []), (5, [44]), (6, []), (7, [])], [(0, []), (1, []), (2, []), (3, []), (4, []), (5, [61]), (6, []), (7, [])], [(0, []), (1, []), (2, []), (3, []), (4, []), (5, []), (6, []), (7, [98, 100]), (8, []), (9, [100]), (10, []), (11, [])], [(0, []), (1, []), (2, []), (3, []), (4, []), (5, [113]), (6, []), (7, [])]] = some c25 := by kernel_rfl
def c26 : SF := ⟨40, [.t 2, .t 3], (.seq (.ops [k 1 (.bx 28 (t 0)),
 o 2 (.mv (.const (.pointer none))),
 o 3 (.mv (b false))])
 (.seq (.opq [o 5 (.ld true 7 (t 1)),
 o 6 (.fa 5 (t 1)),
 o 7 (.ld false 1 (t 6)),
 o 8 (.ln (t 7)),
 o 10 (.fa 5 (t 1)),
 o 11 (.ld false 1 (t 10)),
 o 12 (.ln (t 11)),
 o 14 (.fa 3 (t 1)),
 o 15 (.ld false 1 (t 14)),
 o 16 (.ln (t 15)),
 k 9 (.ms 3 1 8 [.int .i64 0] (t 8) (t 8)),
 k 13 (.ms 4 1 1 [.bool false] (t 12) (t 12)),
 k 17 (.ms 4 1 1 [.bool false] (t 16) (t 16)),
 o 18 (.bd [.bool false, .int .i64 0, .slice none 0 0, .slice none 0 0, .slice none 0 0, .slice none 0 0, .slice none 0 0, .slice none 0 0, .slice none 0 0, .int .i64 0, .slice none 0 0, .bool false] [(0, 7, (t 5)), (7, 1, (t 9)), (8, 1, (t 13)), (10, 1, (t 17))]),
 k 19 (.bx 108 (t 18)),
 o 4 (.mv (t 19))])
 (.seq (.ops [o 20 (.mv (t 4)),
 o 21 (.fa 6 (t 1)),
 o 22 (.ld false 1 (t 21)),
 k 23 (.ca (.func 55) [(t 20), (t 22), (i 0), (b false), (i (-1))])])
 (.seq (.opq [o 24 (.mv (t 4)),
 o 25 (.mv (t 4)),
 o 26 (.nc (t 25)),
 o 27 (.fa 11 (t 26)),
 o 28 (.ld false 1 (t 27)),
 o 29 (.un .not (t 28)),
 o 30 (.mv (t 29)),
 og 31 30 true (.mv (t 4)),
 og 32 30 true (.nc (t 31)),
 og 33 30 true (.fa 9 (t 32)),
 og 34 30 true (.ld false 1 (t 33)),
 og 35 30 true (.fa 5 (t 1)),
 og 36 30 true (.ld false 1 (t 35)),
 og 37 30 true (.ln (t 36)),
 og 38 30 true (.bin .eql (t 34) (t 37)),
 o 39 (.pick (t 30) (t 38) (b false)),
 o 2 (.mv (t 24)),
 o 3 (.mv (t 39))])
 .ret))))⟩
theorem e26 : slimF Tryz.prog Tryz.f26 [[(0, []), (1, []), (2, []), (3, []), (5, []), (6, []), (7, []), (9, []), (10, []), (11, []), (4, []), (8, []), (12, []), (13, []), (14, []), (15, [])], [(0, []), (1, []), (2, []), (3, []), (4, []), (5, []), (6, []), (7, []), (8, []), (9, []), (10, []), (11, []), (12, []), (13, []), (14, []), (15, []), (16, []), (17, [])]] = some c26 := by kernel_rfl
def c27 : SF := ⟨73, [.t 2], (.seq (.ops [k 1 (.bx 28 (t 0)),
 o 2 (.mv (b false))])
 (.seq (.ops [o 8 (.ld true 7 (t 1)),
 o 9 (.bd [.bool false, .int .i64 0, .slice none 0 0, .slice none 0 0, .slice none 0 0, .slice none 0 0, .slice none 0 0] [(0, 7, (t 8))]),
 k 3 (.al 111 [.bool false, .int .i64 0, .slice none 0 0, .slice none 0 0, .slice none 0 0, .slice none 0 0, .slice none 0 0]),
 kn (.st [] 7 (t 3) (t 9))])
 (.seq (.ops [o 4 (.mv (.func 56))])
 (.seq (.seq (.ops [o 10 (.fa 0 (t 1)),
 o 11 (.ld true 2 (t 10)),
 k 12 (.ca (.func 57) [(t 11)]),
 o 13 (.un .not (t 12)),
 o 14 (.mv (t 13)),
 og 15 14 false (.fa 2 (t 1)),
 og 16 14 false (.ld false 1 (t 15)),
 og 17 14 false (.ln (t 16)),
 og 18 14 false (.bin .gtr (t 17) (i 4)),
 o 19 (.pick (t 14) (b true) (t 18)),
 o 20 (.mv (t 19)),
 og 21 20 false (.fa 3 (t 1)),
 og 22 20 false (.ld false 1 (t 21)),
 og 23 20 false (.ln (t 22)),
 og 24 20 false (.bin .gtr (t 23) (i 2)),
 o 25 (.pick (t 20) (b true) (t 24)),
 o 26 (.mv (t 25)),
 og 27 26 false (.fa 4 (t 1)),
 og 28 26 false (.ld false 1 (t 27)),
 og 29 26 false (.ln (t 28)),
 og 30 26 false (.bin .gtr (t 29) (i 120)),
 o 31 (.pick (t 26) (b true) (t 30)),
 o 32 (.mv (t 31)),
 og 33 32 false (.fa 5 (t 1)),
 og 34 32 false (.ld false 1 (t 33)),
 og 35 32 false (.ln (t 34)),
 og 36 32 false (.bin .gtr (t 35) (i 40)),
 o 37 (.pick (t 32) (b true) (t 36))])
 (.cond (t 37)
 (.seq (.ops [o 2 (.mv (b false))])
 .ret)
 .skip))
 (.seq (.seq (.ops [o 38 (.fa 2 (t 1)),
 o 39 (.ld false 1 (t 38)),
 o 40 (.mv (t 4)),
 k 41 (.ca (.func 58) [(t 39), (t 40)]),
 o 42 (.mv (t 41)),
 og 43 42 false (.fa 3 (t 1)),
 og 44 42 false (.ld false 1 (t 43)),
 og 45 42 false (.mv (t 4)),
 ⟨some 46, some (42, false), .ca (.func 58) [(t 44), (t 45)]⟩,
 o 47 (.pick (t 42) (b true) (t 46))])
 (.cond (t 47)
 (.seq (.ops [o 2 (.mv (b false))])
 .ret)
 .skip))
 (.seq (.seq (.ops [o 48 (.fa 4 (t 1)),
 o 49 (.ld false 1 (t 48)),
 o 50 (.ln (t 49)),
 o 51 (.mv (i 0))])
 (.block 0 (.loop (.seq (.ops [o 52 (.bin .lss (t 51) (t 50))])
 (.seq (.cond (t 52)
 .skip
 (.exit 0))
 (.seq (.block 1 (.seq (.ops [o 53 (.mv (t 51)),
 o 5 (.mv (t 53))])
 (.seq (.ops [o 54 (.ld true 7 (t 3)),
 o 55 (.mv (t 5)),
 k 56 (.ca (.func 59) [(t 54), (t 55)]),
 o 57 (.un .not (t 56))])
 (.cond (t 57)
 (.seq (.ops [o 2 (.mv (b false))])
 .ret)
 .skip))))
 (.ops [o 58 (.bin .add (t 51) (i 1)),
 o 51 (.mv (t 58))])))))))
 (.seq (.seq (.ops [o 59 (.fa 5 (t 1)),
 o 60 (.ld false 1 (t 59)),
 o 61 (.mf (.func 61) [] [(t 3)]),
 k 62 (.ca (.func 60) [(t 60), (t 61)])])
 (.cond (t 62)
 (.seq (.ops [o 2 (.mv (b false))])
 .ret)
 .skip))
 (.seq (.ops [o 64 (.ld true 7 (t 3)),
 k 65 (.ca (.func 63) [(t 64)]),
 o 63 (.mv (t 65)),
 o 66 (.ex (t 63) 0),
 o 67 (.ex (t 63) 1),
 o 6 (.mv (t 66)),
 o 7 (.mv (t 67))])
 (.seq (.ops [o 68 (.mv (t 7)),
 o 69 (.mv (t 68)),
 og 70 69 true (.ld true 7 (t 3)),
 ⟨some 71, some (69, true), .ca (.func 64) [(t 70)]⟩,
 o 72 (.pick (t 69) (t 71) (b false)),
 o 2 (.mv (t 72))])
 .ret)))))))))⟩
theorem e27 : slimF Tryz.prog Tryz.f27 [] = some c27 := by kernel_rfl
def c28 : SF := ⟨49, [.t 4], (.seq (.ops [k 2 (.bx 28 (t 0)),
 k 3 (.bx 46 (t 1)),
 o 4 (.mv (b false))])
 (.seq (.ops [o 6 (.mf (.func 65) [] [(t 2)]),
 k 5 (.al 103 [.nilFunc]),
 kn (.st [] 1 (t 5) (t 6))])
 (.seq (.seq (.ops [o 7 (.fa 2 (t 3)),
 o 8 (.ld false 1 (t 7)),
 o 9 (.bin .lss (t 8) (i 0)),
 o 10 (.mv (t 9)),
 og 11 10 false (.fa 2 (t 3)),
 og 12 10 false (.ld false 1 (t 11)),
 og 13 10 false (.bin .gtr (t 12) (i 400)),
 o 14 (.pick (t 10) (b true) (t 13)),
 o 15 (.mv (t 14)),
 og 16 15 false (.fa 1 (t 3)),
 og 17 15 false (.ld false 1 (t 16)),
 og 18 15 false (.mf (.func 66) [] [(t 5)]),
 ⟨some 19, some (15, false), .ca (.func 58) [(t 17), (t 18)]⟩,
 o 20 (.pick (t 15) (b true) (t 19))])
 (.cond (t 20)
 (.seq (.ops [o 4 (.mv (b false))])
 .ret)
 .skip))
 (.seq (.seq (.ops [o 21 (.fa 3 (t 3)),
 o 22 (.ld true 2 (t 21)),
 o 23 (.bd [.int .i64 0, .int .i64 0] []),
 o 24 (.eqs (.st [(false, 0, 1, .i), (false, 1, 1, .i)]) true (t 22) (t 23)),
 o 25 (.mv (t 24)),
 og 26 25 true (.ld false 1 (t 5)),
 og 27 25 true (.fa 3 (t 3)),
 og 28 25 true (.fa 0 (t 27)),
 og 29 25 true (.ld false 1 (t 28)),
 ⟨some 30, some (25, true), .ca (t 26) [(t 29)]⟩,
 og 31 25 true (.un .not (t 30)),
 og 32 25 true (.mv (t 31)),
 og 33 32 false (.fa 3 (t 3)),
 og 34 32 false (.fa 1 (t 33)),
 og 35 32 false (.ld false 1 (t 34)),
 og 36 32 false (.bin .lss (t 35) (i 1)),
 og 37 25 true (.pick (t 32) (b true) (t 36)),
 og 38 25 true (.mv (t 37)),
 og 39 38 false (.fa 3 (t 3)),
 og 40 38 false (.fa 1 (t 39)),
 og 41 38 false (.ld false 1 (t 40)),
 og 42 38 false (.bin .gtr (t 41) (i 10)),
 og 43 25 true (.pick (t 38) (b true) (t 42)),
 o 44 (.pick (t 25) (t 43) (b false))])
 (.cond (t 44)
 (.seq (.ops [o 4 (.mv (b false))])
 .ret)
 .skip))
 (.seq (.ops [o 45 (.ld true 7 (t 2)),
 o 46 (.fa 0 (t 3)),
 o 47 (.ld false 1 (t 46)),
 k 48 (.ca (.func 67) [(t 45), (t 47)]),
 o 4 (.mv (t 48))])
 .ret)))))⟩
theorem e28 : slimF Tryz.prog Tryz.f28 [] = some c28 := by kernel_rfl
def c29 : SF := ⟨89, [.c true 3 4], (.seq (.ops [k 2 (.bx 28 (t 0)),
 k 3 (.bx 46 (t 1)),
 k 4 (.al 38 [.bool false, .slice none 0 0, .slice none 0 0])])
 (.seq (.ops [k 5 (.al 38 [.bool false, .slice none 0 0, .slice none 0 0])])
 (.seq (.seq (.ops [o 13 (.fa 0 (t 3)),
 o 14 (.ld false 1 (t 13)),
 o 15 (.ln (t 14)),
 o 16 (.mv (i 0))])
 (.block 0 (.loop (.seq (.ops [o 17 (.bin .lss (t 16) (t 15))])
 (.seq (.cond (t 17)
 .skip
 (.exit 0))
 (.seq (.block 1 (.seq (.ops [o 18 (.mv (t 16)),
 o 19 (.ia 2 (t 14) (t 16)),
 o 20 (.ld true 2 (t 19)),
 k 7 (.al 54 [.int .i64 0, .slice none 0 0]),
 o 6 (.mv (t 18)),
 kn (.st [] 2 (t 7) (t 20))])
 (.seq (.ops [o 8 (.mv (i 0))])
 (.block 2 (.loop (.seq (.seq (.ops [o 21 (.mv (t 8)),
 o 22 (.fa 1 (t 7)),
 o 23 (.ld false 1 (t 22)),
 o 24 (.ln (t 23)),
 o 25 (.bin .lss (t 21) (t 24))])
 (.cond (t 25)
 .skip
 (.exit 2)))
 (.block 3 (.seq (.seq (.ops [o 27 (.fa 0 (t 2)),
 o 28 (.ld true 2 (t 27)),
 o 29 (.fa 1 (t 7)),
 o 30 (.ld false 1 (t 29)),
 o 31 (.mv (t 8)),
 k 32 (.ca (.func 68) [(t 28), (t 30), (t 31)]),
 o 26 (.mv (t 32)),
 o 33 (.ex (t 26) 0),
 o 34 (.ex (t 26) 1),
 k 9 (.al 119 [.bool false, .int .i64 0, .int .i64 0, .int .i64 0]),
 kn (.st [] 4 (t 9) (t 33)),
 o 10 (.mv (t 34))])
 (.seq (.ops [o 35 (.mv (t 10))])
 (.cond (t 35)
 (.seq (.opd [o 36 (.fa 1 (t 5)),
 o 37 (.ld false 1 (t 36)),
 o 38 (.mv (t 6)),
 o 39 (.mv (t 8)),
 o 40 (.ld true 4 (t 9)),
 k 41 (.ca (.func 69) [(i 7), (t 40)]),
 o 42 (.bd [.int .i64 0, .int .i64 0, .int .i64 0, .int .i64 0, .bool false, .int .i64 0, .int .i64 0, .int .i64 0, .int .i64 0, .slice none 0 0] [(0, 1, (t 38)), (1, 1, (t 39)), (2, 1, (i 7)), (3, 7, (t 41))]),
 k 43 (.bs 87 1 [.int .i64 0, .int .i64 0, .int .i64 0, .int .i64 0, .bool false, .int .i64 0, .int .i64 0, .int .i64 0, .int .i64 0, .slice none 0 0] [(0, 10, (t 42))]),
 k 44 (.ap 87 10 96 (t 37) (t 43)),
 o 45 (.fa 1 (t 5)),
 kn (.st [] 1 (t 45) (t 44))])
 (.seq (.ops [o 46 (.mv (t 8)),
 o 47 (.fa 0 (t 2)),
 o 48 (.fa 1 (t 47)),
 o 49 (.ld false 1 (t 48)),
 o 50 (.bin .add (t 46) (t 49)),
 o 8 (.mv (t 50))])
 (.exit 3)))
 .skip)))
 (.seq (.opd [o 51 (.fa 1 (t 5)),
 o 52 (.ld false 1 (t 51)),
 o 53 (.mv (t 6)),
 o 54 (.mv (t 8)),
 o 55 (.fa 1 (t 7)),
 o 56 (.ld false 1 (t 55)),
 o 57 (.mv (t 8)),
 o 58 (.ia 5 (t 56) (t 57)),
 o 59 (.ld true 5 (t 58)),
 k 60 (.ca (.func 70) [(t 53), (t 54), (t 59)]),
 k 61 (.bs 87 1 [.int .i64 0, .int .i64 0, .int .i64 0, .int .i64 0, .bool false, .int .i64 0, .int .i64 0, .int .i64 0, .int .i64 0, .slice none 0 0] [(0, 10, (t 60))]),
 k 62 (.ap 87 10 96 (t 52) (t 61)),
 o 63 (.fa 1 (t 5)),
 kn (.st [] 1 (t 63) (t 62))])
 (.ops [o 64 (.mv (t 8)),
 o 65 (.bin .add (t 64) (i 1)),
 o 8 (.mv (t 65))]))))))))))
 (.ops [o 66 (.bin .add (t 16) (i 1)),
 o 16 (.mv (t 66))])))))))
 (.seq (.seq (.ops [o 67 (.fa 0 (t 3)),
 o 68 (.ld false 1 (t 67)),
 o 69 (.fa 2 (t 2)),
 o 70 (.ld false 1 (t 69)),
 o 71 (.ln (t 70)),
 o 72 (.bin .add (i 1) (t 71)),
 o 73 (.sl 2 (t 68) (some (t 72)) none),
 o 74 (.ln (t 73)),
 o 75 (.mv (i 0))])
 (.block 4 (.loop (.seq (.ops [o 76 (.bin .lss (t 75) (t 74))])
 (.seq (.cond (t 76)
 .skip
 (.exit 4))
 (.seq (.block 5 (.seq (.ops [o 77 (.ia 2 (t 73) (t 75)),
 o 78 (.ld true 2 (t 77)),
 k 12 (.al 54 [.int .i64 0, .slice none 0 0]),
 kn (.st [] 2 (t 12) (t 78))])
 (.opq [o 79 (.fa 2 (t 5)),
 o 80 (.ld false 1 (t 79)),
 o 81 (.fa 0 (t 12)),
 o 82 (.ld false 1 (t 81)),
 o 83 (.bin .shl (i 1) (t 82)),
 k 84 (.bs 3 1 [.int .i64 0] [(0, 1, (t 83))]),
 k 85 (.ap 3 1 8 (t 80) (t 84)),
 o 86 (.fa 2 (t 5)),
 kn (.st [] 1 (t 86) (t 85))])))
 (.ops [o 87 (.bin .add (t 75) (i 1)),
 o 75 (.mv (t 87))])))))))
 (.seq (.ops [o 88 (.ld true 3 (t 5)),
 kn (.st [] 3 (t 4) (t 88))])
 .ret)))))⟩
theorem e29 : slimF Tryz.prog Tryz.f29 [[(0, []), (1, []), (2, []), (3, []), (4, []), (5, []), (6, []), (7, []), (8, []), (9, []), (10, [])], [(0, []), (1, []), (2, []), (3, []), (4, []), (5, []), (6, []), (7, []), (8, []), (9, []), (10, []), (11, []), (12, []), (13, [])], [(0, []), (1, []), (2, []), (3, []), (4, []), (5, []), (6, []), (7, []), (8, [])]] = some c29 := by kernel_rfl
def c30 : SF := ⟨10, [.t 2], (.seq (.ops [k 1 (.bx 28 (t 0)),
 o 2 (.mv (.const (.slice none 0 0)))])
 (.seq (.opq [o 4 (.fa 2 (t 1)),
 o 5 (.ld false 1 (t 4)),
 o 7 (.fa 3 (t 1)),
 o 8 (.ld false 1 (t 7)),
 k 3 (.bs 3 1 [.int .i64 0] [(0, 1, (i 0))]),
 k 6 (.ap 3 1 8 (t 3) (t 5)),
 k 9 (.ap 3 1 8 (t 6) (t 8)),
 o 2 (.mv (t 9))])
 .ret))⟩
theorem e30 : slimF Tryz.prog Tryz.f30 [[(1, []), (2, []), (4, []), (5, []), (0, []), (3, []), (6, []), (7, [])]] = some c30 := by kernel_rfl
def c31 : SF := ⟨63, [.t 2], (.seq (.ops [o 2 (.mv (b false))])
 (.seq (.seq (.ops [o 4 (.mv (t 0)),
 o 5 (.ln (t 4)),
 k 6 (.ca (.func 33) [(t 5), (i 1), (i 33)]),
 o 7 (.un .not (t 6)),
 o 8 (.mv (t 7)),
 og 9 8 false (.mv (t 0)),
 og 10 8 false (.ia 2 (t 9) (i 0)),
 og 11 8 false (.fa 0 (t 10)),
 og 12 8 false (.ld false 1 (t 11)),
 og 13 8 false (.bin .neq (t 12) (i 0)),
 o 14 (.pick (t 8) (b true) (t 13))])
 (.cond (t 14)
 (.seq (.ops [o 2 (.mv (b false))])
 .ret)
 .skip))
 (.seq (.seq (.ops [o 3 (.mv (i 0))])
 (.block 0 (.loop (.seq (.seq (.ops [o 15 (.mv (t 3)),
 o 16 (.mv (t 0)),
 o 17 (.ln (t 16)),
 o 18 (.bin .lss (t 15) (t 17))])
 (.cond (t 18)
 .skip
 (.exit 0)))
 (.seq (.block 1 (.seq (.ops [o 21 (.mv (t 0)),
 o 22 (.mv (t 3)),
 o 23 (.ia 2 (t 21) (t 22)),
 o 24 (.fa 0 (t 23)),
 o 25 (.ld false 1 (t 24)),
 k 26 (.ca (.func 32) [(t 25), (i 3)]),
 o 27 (.un .not (t 26)),
 o 28 (.mv (t 27)),
 og 29 28 false (.mv (t 0)),
 og 30 28 false (.mv (t 3)),
 og 31 28 false (.ia 2 (t 29) (t 30)),
 og 32 28 false (.fa 1 (t 31)),
 og 33 28 false (.ld false 1 (t 32)),
 og 34 28 false (.ln (t 33)),
 og 35 28 false (.bin .gtr (t 34) (i 32)),
 o 36 (.pick (t 28) (b true) (t 35)),
 o 37 (.mv (t 36)),
 og 38 37 false (.mv (t 0)),
 og 39 37 false (.mv (t 3)),
 og 40 37 false (.ia 2 (t 38) (t 39)),
 og 41 37 false (.fa 0 (t 40)),
 og 42 37 false (.ld false 1 (t 41)),
 og 43 37 false (.bin .neq (t 42) (i 1)),
 og 44 37 false (.mv (t 43)),
 og 45 44 true (.mv (t 0)),
 og 46 44 true (.mv (t 3)),
 og 47 44 true (.ia 2 (t 45) (t 46)),
 og 48 44 true (.fa 1 (t 47)),
 og 49 44 true (.ld false 1 (t 48)),
 og 50 44 true (.ln (t 49)),
 og 51 44 true (.bin .gtr (t 50) (i 0)),
 og 52 37 false (.pick (t 44) (t 51) (b false)),
 o 53 (.pick (t 37) (b true) (t 52)),
 o 54 (.mv (t 53)),
 og 55 54 false (.mv (t 0)),
 og 56 54 false (.mv (t 3)),
 og 57 54 false (.ia 2 (t 55) (t 56)),
 og 58 54 false (.fa 1 (t 57)),
 og 59 54 false (.ld false 1 (t 58)),
 ⟨some 60, some (54, false), .ca (.func 71) [(t 59)]⟩,
 og 61 54 false (.un .not (t 60)),
 o 62 (.pick (t 54) (b true) (t 61))])
 (.cond (t 62)
 (.seq (.ops [o 2 (.mv (b false))])
 .ret)
 .skip)))
 (.ops [o 19 (.mv (t 3)),
 o 20 (.bin .add (t 19) (i 1)),
 o 3 (.mv (t 20))]))))))
 (.seq (.ops [o 2 (.mv (b true))])
 .ret))))⟩
theorem e31 : slimF Tryz.prog Tryz.f31 [] = some c31 := by kernel_rfl
def c32 : SF := ⟨12, [.t 4], (.seq (.ops [o 4 (.mv (b false))])
 (.seq (.ops [o 5 (.mv (t 0)),
 o 6 (.bin .geq (t 5) (i 0)),
 o 7 (.mv (t 6)),
 og 8 7 true (.mv (t 0)),
 og 9 7 true (.mv (t 1)),
 og 10 7 true (.bin .leq (t 8) (t 9)),
 o 11 (.pick (t 7) (t 10) (b false)),
 o 4 (.mv (t 11))])
 .ret))⟩
theorem e32 : slimF Tryz.prog Tryz.f32 [] = some c32 := by kernel_rfl
def c33 : SF := ⟨15, [.t 6], (.seq (.ops [o 6 (.mv (b false))])
 (.seq (.ops [o 7 (.mv (t 0)),
 o 8 (.mv (t 1)),
 o 9 (.bin .geq (t 7) (t 8)),
 o 10 (.mv (t 9)),
 og 11 10 true (.mv (t 0)),
 og 12 10 true (.mv (t 2)),
 og 13 10 true (.bin .leq (t 11) (t 12)),
 o 14 (.pick (t 10) (t 13) (b false)),
 o 6 (.mv (t 14))])
 .ret))⟩
theorem e33 : slimF Tryz.prog Tryz.f33 [] = some c33 := by kernel_rfl
def c34 : SF := ⟨115, [.t 6], (.seq (.ops [k 3 (.bx 28 (t 0)),
 k 5 (.bx 87 (t 2)),
 o 6 (.mv (b false))])
 (.seq (.seq (.ops [o 8 (.fa 0 (t 5)),
 o 9 (.ld false 1 (t 8)),
 o 10 (.mv (t 1)),
 o 11 (.ln (t 10)),
 o 12 (.bin .sub (t 11) (i 1)),
 k 13 (.ca (.func 33) [(t 9), (i 1), (t 12)]),
 o 14 (.un .not (t 13)),
 o 15 (.mv (t 14)),
 og 16 15 false (.fa 2 (t 5)),
 og 17 15 false (.ld false 1 (t 16)),
 ⟨some 18, some (15, false), .ca (.func 52) [(t 17)]⟩,
 og 19 15 false (.un .not (t 18)),
 og 20 15 false (.mv (t 19)),
 og 21 20 true (.fa 2 (t 5)),
 og 22 20 true (.ld false 1 (t 21)),
 og 23 20 true (.bin .neq (t 22) (i 0)),
 og 24 15 false (.pick (t 20) (t 23) (b false)),
 og 25 15 false (.mv (t 24)),
 og 26 25 true (.fa 2 (t 5)),
 og 27 25 true (.ld false 1 (t 26)),
 og 28 25 true (.bin .neq (t 27) (i 11)),
 og 29 15 false (.pick (t 25) (t 28) (b false)),
 o 30 (.pick (t 15) (b true) (t 29))])
 (.cond (t 30)
 (.seq (.ops [o 6 (.mv (b false))])
 .ret)
 .skip))
 (.seq (.ops [o 31 (.ld true 7 (t 3)),
 o 32 (.fa 2 (t 5)),
 o 33 (.ld false 1 (t 32)),
 k 34 (.ca (.func 36) [(t 31), (t 33)]),
 o 7 (.mv (t 34))])
 (.seq (.seq (.opq [o 35 (.fa 1 (t 5)),
 o 36 (.ld false 1 (t 35)),
 o 37 (.bin .lss (t 36) (i 0)),
 o 38 (.mv (t 37)),
 og 39 38 false (.fa 1 (t 5)),
 og 40 38 false (.ld false 1 (t 39)),
 og 41 38 false (.mv (t 1)),
 og 42 38 false (.fa 0 (t 5)),
 og 43 38 false (.ld false 1 (t 42)),
 og 44 38 false (.ia 1 (t 41) (t 43)),
 og 45 38 false (.ld false 1 (t 44)),
 og 46 38 false (.bin .gtr (t 40) (t 45)),
 o 47 (.pick (t 38) (b true) (t 46)),
 o 48 (.mv (t 47)),
 og 49 48 false (.mv (t 7)),
 og 50 48 false (.mv (t 1)),
 og 51 48 false (.fa 0 (t 5)),
 og 52 48 false (.ld false 1 (t 51)),
 og 53 48 false (.ia 1 (t 50) (t 52)),
 og 54 48 false (.ld false 1 (t 53)),
 og 55 48 false (.fa 1 (t 5)),
 og 56 48 false (.ld false 1 (t 55)),
 og 57 48 false (.bin .sub (t 54) (t 56)),
 og 58 48 false (.bin .gtr (t 49) (t 57)),
 o 59 (.pick (t 48) (b true) (t 58)),
 o 60 (.mv (t 59)),
 og 61 60 false (.fa 1 (t 5)),
 og 62 60 false (.ld false 1 (t 61)),
 og 63 60 false (.mv (t 7)),
 og 64 60 false (.bin .rem (t 62) (t 63)),
 og 65 60 false (.bin .neq (t 64) (i 0)),
 o 66 (.pick (t 60) (b true) (t 65))])
 (.cond (t 66)
 (.seq (.ops [o 6 (.mv (b false))])
 .ret)
 .skip))
 (.seq (.seq (.ops [o 67 (.fa 2 (t 5)),
 o 68 (.ld false 1 (t 67))])
 (.block 0 (.seq (.ops [o 70 (.bin .eql (t 68) (i 0)),
 o 69 (.mv (t 70))])
 (.cond (t 69)
 (.seq (.ops [o 71 (.fa 3 (t 5)),
 o 72 (.ld true 7 (t 71)),
 o 73 (.bd [.int .i64 0, .bool false, .int .i64 0, .int .i64 0, .int .i64 0, .int .i64 0, .slice none 0 0] []),
 k 74 (.ca (.func 72) [(t 72), (t 73)]),
 o 6 (.mv (t 74))])
 .ret)
 (.seq (.ops [o 76 (.bin .eql (t 68) (i 11)),
 o 75 (.mv (t 76))])
 (.cond (t 75)
 (.seq (.ops [o 77 (.fa 3 (t 5)),
 o 78 (.fa 0 (t 77)),
 o 79 (.ld true 6 (t 78)),
 k 80 (.ca (.func 73) [(t 79)]),
 o 81 (.mv (t 80)),
 og 82 81 true (.fa 3 (t 5)),
 og 83 81 true (.fa 0 (t 82)),
 og 84 81 true (.fa 0 (t 83)),
 og 85 81 true (.ld false 1 (t 84)),
 og 86 81 true (.bin .eql (t 85) (i 8)),
 o 87 (.pick (t 81) (t 86) (b false)),
 o 88 (.mv (t 87)),
 og 89 88 true (.fa 3 (t 5)),
 og 90 88 true (.fa 6 (t 89)),
 og 91 88 true (.ld false 1 (t 90)),
 ⟨some 92, some (88, true), .ca (.func 74) [(t 91)]⟩,
 o 93 (.pick (t 88) (t 92) (b false)),
 o 94 (.mv (t 93)),
 og 95 94 true (.fa 3 (t 5)),
 og 96 94 true (.fa 6 (t 95)),
 og 97 94 true (.ld false 1 (t 96)),
 og 98 94 true (.mv (t 1)),
 og 99 94 true (.ln (t 98)),
 ⟨some 100, some (94, true), .ca (.func 75) [(t 97), (t 99)]⟩,
 o 101 (.pick (t 94) (t 100) (b false)),
 o 6 (.mv (t 101))])
 .ret)
 .skip))))))
 (.seq (.ops [o 102 (.fa 2 (t 5)),
 o 103 (.ld false 1 (t 102)),
 o 104 (.fa 3 (t 5)),
 o 105 (.ld true 7 (t 104)),
 k 106 (.ca (.func 76) [(t 103), (t 105)]),
 o 107 (.mv (t 106)),
 og 108 107 true (.fa 3 (t 5)),
 og 109 107 true (.fa 6 (t 108)),
 og 110 107 true (.ld false 1 (t 109)),
 og 111 107 true (.mv (t 1)),
 og 112 107 true (.ln (t 111)),
 ⟨some 113, some (107, true), .ca (.func 75) [(t 110), (t 112)]⟩,
 o 114 (.pick (t 107) (t 113) (b false)),
 o 6 (.mv (t 114))])
 .ret))))))⟩
theorem e34 : slimF Tryz.prog Tryz.f34 [[(0, []), (1, []), (2, []), (3, []), (4, []), (5, []), (6, []), (7, []), (8, []), (9, []), (10, []), (11, []), (12, []), (13, []), (14, []), (15, []), (16, []), (17, []), (18, []), (19, []), (20, []), (21, []), (22, []), (23, []), (24, []), (25, []), (26, []), (27, []), (28, []), (29, []), (30, []), (31, [])]] = some c34 := by kernel_rfl
def c35 : SF := ⟨30, [.t 4], (.seq (.ops [k 2 (.bx 87 (t 0)),
 k 3 (.bx 87 (t 1)),
 o 4 (.mv (b false))])
 (.seq (.seq (.ops [o 5 (.fa 0 (t 2)),
 o 6 (.ld false 1 (t 5)),
 o 7 (.fa 0 (t 3)),
 o 8 (.ld false 1 (t 7)),
 o 9 (.bin .neq (t 6) (t 8))])
 (.cond (t 9)
 (.seq (.ops [o 10 (.fa 0 (t 2)),
 o 11 (.ld false 1 (t 10)),
 o 12 (.fa 0 (t 3)),
 o 13 (.ld false 1 (t 12)),
 o 14 (.bin .lss (t 11) (t 13)),
 o 4 (.mv (t 14))])
 .ret)
 .skip))
 (.seq (.seq (.ops [o 15 (.fa 1 (t 2)),
 o 16 (.ld false 1 (t 15)),
 o 17 (.fa 1 (t 3)),
 o 18 (.ld false 1 (t 17)),
 o 19 (.bin .neq (t 16) (t 18))])
 (.cond (t 19)
 (.seq (.ops [o 20 (.fa 1 (t 2)),
 o 21 (.ld false 1 (t 20)),
 o 22 (.fa 1 (t 3)),
 o 23 (.ld false 1 (t 22)),
 o 24 (.bin .lss (t 21) (t 23)),
 o 4 (.mv (t 24))])
 .ret)
 .skip))
 (.seq (.ops [o 25 (.fa 2 (t 2)),
 o 26 (.ld false 1 (t 25)),
 o 27 (.fa 2 (t 3)),
 o 28 (.ld false 1 (t 27)),
 o 29 (.bin .lss (t 26) (t 28)),
 o 4 (.mv (t 29))])
 .ret))))⟩
theorem e35 : slimF Tryz.prog Tryz.f35 [] = some c35 := by kernel_rfl
def c36 : SF := ⟨15, [.t 4], (.seq (.ops [k 2 (.bx 28 (t 0)),
 o 4 (.mv (i 0))])
 (.seq (.seq (.ops [o 5 (.mv (t 1)),
 o 6 (.bin .eql (t 5) (i 0)),
 o 7 (.mv (t 6)),
 og 8 7 false (.mv (t 1)),
 og 9 7 false (.bin .eql (t 8) (i 11)),
 o 10 (.pick (t 7) (b true) (t 9))])
 (.cond (t 10)
 (.seq (.ops [o 4 (.mv (i 1))])
 .ret)
 .skip))
 (.seq (.ops [o 11 (.fa 0 (t 2)),
 o 12 (.ld true 2 (t 11)),
 o 13 (.mv (t 1)),
 k 14 (.ca (.func 77) [(t 12), (t 13)]),
 o 4 (.mv (t 14))])
 .ret)))⟩
theorem e36 : slimF Tryz.prog Tryz.f36 [] = some c36 := by kernel_rfl
def c37 : SF := ⟨43, [.t 2], (.seq (.ops [k 1 (.bx 87 (t 0)),
 o 2 (.mv (b false))])
 (.seq (.seq (.ops [o 9 (.fa 2 (t 1)),
 o 10 (.ld false 1 (t 9))])
 (.block 0 (.seq (.ops [o 12 (.bin .eql (t 10) (i 0)),
 o 11 (.mv (t 12))])
 (.cond (t 11)
 (.seq (.ops [o 2 (.mv (b true))])
 .ret)
 (.seq (.ops [o 14 (.bin .eql (t 10) (i 11)),
 o 13 (.mv (t 14))])
 (.cond (t 13)
 (.seq (.ops [o 16 (.fa 3 (t 1)),
 o 17 (.fa 0 (t 16)),
 o 18 (.ld true 6 (t 17)),
 k 19 (.ca (.func 78) [(t 18)]),
 o 15 (.mv (t 19)),
 o 20 (.ex (t 15) 0),
 o 21 (.ex (t 15) 1),
 o 3 (.mv (t 20)),
 o 4 (.mv (t 21))])
 (.seq (.ops [o 23 (.fa 3 (t 1)),
 o 24 (.fa 6 (t 23)),
 o 25 (.ld false 1 (t 24)),
 o 26 (.bd [.int .i64 0, .bool false, .int .i64 0, .int .i64 0, .int .i64 0, .int .i64 0, .slice none 0 0] [(6, 1, (t 25))]),
 k 27 (.ca (.func 79) [(i 7), (t 26)]),
 o 22 (.mv (t 27)),
 o 28 (.ex (t 22) 0),
 o 29 (.ex (t 22) 1),
 k 5 (.al 119 [.bool false, .int .i64 0, .int .i64 0, .int .i64 0]),
 kn (.st [] 4 (t 5) (t 28)),
 o 6 (.mv (t 29))])
 (.seq (.ops [o 30 (.mv (t 4)),
 o 31 (.mv (t 30)),
 og 32 31 true (.mv (t 6)),
 o 33 (.pick (t 31) (t 32) (b false)),
 o 2 (.mv (t 33))])
 .ret)))
 .skip))))))
 (.seq (.ops [o 35 (.fa 2 (t 1)),
 o 36 (.ld false 1 (t 35)),
 o 37 (.fa 3 (t 1)),
 o 38 (.ld true 7 (t 37)),
 k 39 (.ca (.func 79) [(t 36), (t 38)]),
 o 34 (.mv (t 39)),
 o 40 (.ex (t 34) 0),
 o 41 (.ex (t 34) 1),
 k 7 (.al 119 [.bool false, .int .i64 0, .int .i64 0, .int .i64 0]),
 kn (.st [] 4 (t 7) (t 40)),
 o 8 (.mv (t 41))])
 (.seq (.ops [o 42 (.mv (t 8)),
 o 2 (.mv (t 42))])
 .ret))))⟩
theorem e37 : slimF Tryz.prog Tryz.f37 [] = some c37 := by kernel_rfl
def c38 : SF := ⟨27, [.t 4], (.seq (.ops [o 4 (.mv (b false))])
 (.seq (.seq (.ops [o 6 (.mv (t 0)),
 o 7 (.ln (t 6)),
 o 8 (.mv (t 1)),
 o 9 (.ln (t 8)),
 o 10 (.bin .neq (t 7) (t 9))])
 (.cond (t 10)
 (.seq (.ops [o 4 (.mv (b false))])
 .ret)
 .skip))
 (.seq (.seq (.ops [o 5 (.mv (i 0))])
 (.block 0 (.loop (.seq (.seq (.ops [o 11 (.mv (t 5)),
 o 12 (.mv (t 0)),
 o 13 (.ln (t 12)),
 o 14 (.bin .lss (t 11) (t 13))])
 (.cond (t 14)
 .skip
 (.exit 0)))
 (.seq (.block 1 (.seq (.opq [o 17 (.mv (t 0)),
 o 18 (.mv (t 5)),
 o 19 (.ia 10 (t 17) (t 18)),
 o 20 (.ld true 10 (t 19)),
 o 21 (.mv (t 1)),
 o 22 (.mv (t 5)),
 o 23 (.ia 10 (t 21) (t 22)),
 o 24 (.ld true 10 (t 23)),
 k 25 (.ca (.func 80) [(t 20), (t 24)]),
 o 26 (.un .not (t 25))])
 (.cond (t 26)
 (.seq (.ops [o 4 (.mv (b false))])
 .ret)
 .skip)))
 (.ops [o 15 (.mv (t 5)),
 o 16 (.bin .add (t 15) (i 1)),
 o 5 (.mv (t 16))]))))))
 (.seq (.ops [o 4 (.mv (b true))])
 .ret))))⟩
theorem e38 : slimF Tryz.prog Tryz.f38 [[(0, []), (1, []), (2, []), (3, []), (4, []), (5, []), (6, []), (7, []), (8, []), (9, [])]] = some c38 := by kernel_rfl
def c39 : SF := ⟨26, [.t 4], (.seq (.ops [o 4 (.mv (b false))])
 (.seq (.seq (.ops [o 6 (.mv (t 0)),
 o 7 (.ln (t 6)),
 o 8 (.mv (t 1)),
 o 9 (.ln (t 8)),
 o 10 (.bin .neq (t 7) (t 9))])
 (.cond (t 10)
 (.seq (.ops [o 4 (.mv (b false))])
 .ret)
 .skip))
 (.seq (.seq (.ops [o 5 (.mv (i 0))])
 (.block 0 (.loop (.seq (.seq (.ops [o 11 (.mv (t 5)),
 o 12 (.mv (t 0)),
 o 13 (.ln (t 12)),
 o 14 (.bin .lss (t 11) (t 13))])
 (.cond (t 14)
 .skip
 (.exit 0)))
 (.seq (.block 1 (.seq (.opq [o 17 (.mv (t 0)),
 o 18 (.mv (t 5)),
 o 19 (.ia 1 (t 17) (t 18)),
 o 20 (.ld false 1 (t 19)),
 o 21 (.mv (t 1)),
 o 22 (.mv (t 5)),
 o 23 (.ia 1 (t 21) (t 22)),
 o 24 (.ld false 1 (t 23)),
 o 25 (.bin .neq (t 20) (t 24))])
 (.cond (t 25)
 (.seq (.ops [o 4 (.mv (b false))])
 .ret)
 .skip)))
 (.ops [o 15 (.mv (t 5)),
 o 16 (.bin .add (t 15) (i 1)),
 o 5 (.mv (t 16))]))))))
 (.seq (.ops [o 4 (.mv (b true))])
 .ret))))⟩
theorem e39 : slimF Tryz.prog Tryz.f39 [[(0, []), (1, []), (2, []), (3, []), (4, []), (5, []), (6, []), (7, []), (8, [])]] = some c39 := by kernel_rfl
def c40 : SF := ⟨7, [.c true 7 0], (.seq (.ops [k 0 (.al 28 [.bool false, .int .i64 0, .slice none 0 0, .slice none 0 0, .slice none 0 0, .slice none 0 0, .slice none 0 0])])
 (.seq (.ops [o 1 (.bd [.bool false, .int .i64 0] [(1, 1, (i 4))]),
 k 2 (.bs 3 1 [.int .i64 0] [(0, 1, (i 1))]),
 o 3 (.bd [.int .i64 0, .int .i64 0, .int .i64 0, .int .i64 0, .int .i64 0, .slice none 0 0, .slice none 0 0] [(0, 1, (i 7))]),
 k 4 (.bs 74 1 [.int .i64 0, .int .i64 0, .int .i64 0, .int .i64 0, .int .i64 0, .slice none 0 0, .slice none 0 0] [(0, 7, (t 3))]),
 k 5 (.bs 3 1 [.int .i64 0] [(0, 1, (i 0))]),
 o 6 (.bd [.bool false, .int .i64 0, .slice none 0 0, .slice none 0 0, .slice none 0 0, .slice none 0 0, .slice none 0 0] [(0, 2, (t 1)), (2, 1, (t 2)), (5, 1, (t 4)), (6, 1, (t 5))]),
 kn (.st [] 7 (t 0) (t 6))])
 .ret))⟩
theorem e40 : slimF Tryz.prog Tryz.f40 [] = some c40 := by kernel_rfl
def c41 : SF := ⟨45, [.c true 5 2], (.seq (.ops [k 1 (.bx 28 (t 0)),
 k 2 (.al 46 [.slice none 0 0, .slice none 0 0, .int .i64 0, .int .i64 0, .int .i64 0])])
 (.seq (.ops [o 6 (.bd [.int .i64 0, .slice none 0 0] []),
 k 7 (.bs 54 1 [.int .i64 0, .slice none 0 0] [(0, 2, (t 6))]),
 o 8 (.fa 6 (t 1)),
 o 9 (.ld false 1 (t 8)),
 k 10 (.ca (.func 43) [(t 9)]),
 o 11 (.bd [.slice none 0 0, .slice none 0 0, .int .i64 0, .int .i64 0, .int .i64 0] [(0, 1, (t 7)), (1, 1, (t 10))]),
 k 3 (.al 46 [.slice none 0 0, .slice none 0 0, .int .i64 0, .int .i64 0, .int .i64 0]),
 kn (.st [] 5 (t 3) (t 11))])
 (.seq (.seq (.ops [o 4 (.mv (i 0))])
 (.block 0 (.loop (.seq (.seq (.ops [o 12 (.mv (t 4)),
 o 13 (.fa 2 (t 1)),
 o 14 (.ld false 1 (t 13)),
 o 15 (.ln (t 14)),
 o 16 (.bin .lss (t 12) (t 15))])
 (.cond (t 16)
 .skip
 (.exit 0)))
 (.seq (.block 1 (.opd [o 19 (.fa 0 (t 3)),
 o 20 (.ld false 1 (t 19)),
 o 21 (.fa 2 (t 1)),
 o 22 (.ld false 1 (t 21)),
 o 23 (.mv (t 4)),
 o 24 (.ia 1 (t 22) (t 23)),
 o 25 (.ld false 1 (t 24)),
 k 26 (.ca (.func 81) [(t 25)]),
 o 27 (.bd [.int .i64 0, .slice none 0 0] [(0, 1, (i 1)), (1, 1, (t 26))]),
 k 28 (.bs 54 1 [.int .i64 0, .slice none 0 0] [(0, 2, (t 27))]),
 k 29 (.ap 54 2 32 (t 20) (t 28)),
 o 30 (.fa 0 (t 3)),
 kn (.st [] 1 (t 30) (t 29))]))
 (.ops [o 17 (.mv (t 4)),
 o 18 (.bin .add (t 17) (i 1)),
 o 4 (.mv (t 18))]))))))
 (.seq (.seq (.ops [o 5 (.mv (i 0))])
 (.block 2 (.loop (.seq (.seq (.ops [o 31 (.mv (t 5)),
 o 32 (.fa 3 (t 1)),
 o 33 (.ld false 1 (t 32)),
 o 34 (.ln (t 33)),
 o 35 (.bin .lss (t 31) (t 34))])
 (.cond (t 35)
 .skip
 (.exit 2)))
 (.seq (.block 3 (.ops [o 38 (.fa 0 (t 3)),
 o 39 (.ld false 1 (t 38)),
 o 40 (.bd [.int .i64 0, .slice none 0 0] []),
 k 41 (.bs 54 1 [.int .i64 0, .slice none 0 0] [(0, 2, (t 40))]),
 k 42 (.ap 54 2 32 (t 39) (t 41)),
 o 43 (.fa 0 (t 3)),
 kn (.st [] 1 (t 43) (t 42))]))
 (.ops [o 36 (.mv (t 5)),
 o 37 (.bin .add (t 36) (i 1)),
 o 5 (.mv (t 37))]))))))
 (.seq (.ops [o 44 (.ld true 5 (t 3)),
 kn (.st [] 5 (t 2) (t 44))])
 .ret)))))⟩
theorem e41 : slimF Tryz.prog Tryz.f41 [[(0, []), (1, []), (2, []), (3, []), (4, []), (5, []), (6, []), (7, []), (8, []), (9, []), (10, []), (11, []), (12, [])]] = some c41 := by kernel_rfl
def c43 : SF := ⟨19, [.t 2], (.seq (.ops [o 2 (.mv (.const (.slice none 0 0)))])
 (.seq (.ops [o 3 (.mv (.const (.slice none 0 0)))])
 (.seq (.seq (.ops [o 4 (.mv (i 0))])
 (.block 0 (.loop (.seq (.seq (.ops [o 5 (.mv (t 4)),
 o 6 (.mv (t 0)),
 o 7 (.ln (t 6)),
 o 8 (.bin .lss (t 5) (t 7))])
 (.cond (t 8)
 .skip
 (.exit 0)))
 (.seq (.block 1 (.ops [o 11 (.mv (t 3)),
 o 12 (.mv (t 0)),
 o 13 (.mv (t 4)),
 o 14 (.ia 1 (t 12) (t 13)),
 o 15 (.ld false 1 (t 14)),
 k 16 (.bs 3 1 [.int .i64 0] [(0, 1, (t 15))]),
 k 17 (.ap 3 1 8 (t 11) (t 16)),
 o 3 (.mv (t 17))]))
 (.ops [o 9 (.mv (t 4)),
 o 10 (.bin .add (t 9) (i 1)),
 o 4 (.mv (t 10))]))))))
 (.seq (.ops [o 18 (.mv (t 3)),
 o 2 (.mv (t 18))])
 .ret))))⟩
theorem e43 : slimF Tryz.prog Tryz.f43 [] = some c43 := by kernel_rfl
def c44 : SF := ⟨13, [.t 4], (.seq (.ops [k 2 (.bx 28 (t 0)),
 o 4 (.mv (b false))])
 (.seq (.ops [o 5 (.ld true 7 (t 2)),
 k 6 (.ca (.func 27) [(t 5)]),
 o 7 (.mv (t 6)),
 og 8 7 true (.mv (t 1)),
 og 9 7 true (.mf (.func 84) [] [(t 2)]),
 ⟨some 10, some (7, true), .ca (.func 83) [(t 8), (t 9)]⟩,
 og 11 7 true (.un .not (t 10)),
 o 12 (.pick (t 7) (t 11) (b false)),
 o 4 (.mv (t 12))])
 .ret))⟩
theorem e44 : slimF Tryz.prog Tryz.f44 [] = some c44 := by kernel_rfl
def c45 : SF := ⟨75, [.t 6], (.seq (.ops [k 3 (.bx 28 (t 0)),
 k 4 (.bx 38 (t 1)),
 k 5 (.bx 46 (t 2)),
 o 6 (.mv (b false))])
 (.seq (.seq (.ops [o 12 (.fa 0 (t 4)),
 o 13 (.ld false 1 (t 12))])
 (.cond (t 13)
 (.seq (.ops [o 6 (.mv (b false))])
 .ret)
 .skip))
 (.seq (.seq (.ops [o 14 (.fa 1 (t 4)),
 o 15 (.ld false 1 (t 14)),
 o 16 (.ln (t 15)),
 o 17 (.mv (i 0))])
 (.block 0 (.loop (.seq (.ops [o 18 (.bin .lss (t 17) (t 16))])
 (.seq (.cond (t 18)
 .skip
 (.exit 0))
 (.seq (.block 1 (.seq (.ops [o 19 (.ia 10 (t 15) (t 17)),
 o 20 (.ld true 10 (t 19)),
 k 8 (.al 87 [.int .i64 0, .int .i64 0, .int .i64 0, .int .i64 0, .bool false, .int .i64 0, .int .i64 0, .int .i64 0, .int .i64 0, .slice none 0 0]),
 kn (.st [] 10 (t 8) (t 20))])
 (.seq (.ops [o 21 (.fa 0 (t 5)),
 o 22 (.ld false 1 (t 21)),
 o 23 (.fa 0 (t 8)),
 o 24 (.ld false 1 (t 23)),
 o 25 (.ia 2 (t 22) (t 24)),
 o 26 (.ld true 2 (t 25)),
 k 9 (.al 54 [.int .i64 0, .slice none 0 0]),
 kn (.st [] 2 (t 9) (t 26))])
 (.seq (.opd [o 27 (.fa 0 (t 9)),
 o 28 (.ld false 1 (t 27)),
 o 29 (.bin .eql (t 28) (i 1)),
 o 30 (.mv (t 29)),
 og 31 30 true (.fa 0 (t 3)),
 og 32 30 true (.ld true 2 (t 31)),
 og 33 30 true (.ld true 10 (t 8)),
 og 34 30 true (.fa 1 (t 9)),
 og 35 30 true (.ld false 1 (t 34)),
 og 36 30 true (.fa 1 (t 8)),
 og 37 30 true (.ld false 1 (t 36)),
 og 38 30 true (.fa 1 (t 8)),
 og 39 30 true (.ld false 1 (t 38)),
 og 40 30 true (.fa 0 (t 3)),
 og 41 30 true (.ld true 2 (t 40)),
 og 42 30 true (.fa 2 (t 8)),
 og 43 30 true (.ld false 1 (t 42)),
 ⟨some 44, some (30, true), .ca (.func 87) [(t 41), (t 43)]⟩,
 og 45 30 true (.bin .add (t 39) (t 44)),
 og 46 30 true (.sl 5 (t 35) (some (t 37)) (some (t 45))),
 ⟨some 47, some (30, true), .ca (.func 86) [(t 32), (t 33), (t 46)]⟩,
 og 48 30 true (.un .not (t 47)),
 o 49 (.pick (t 30) (t 48) (b false))])
 (.cond (t 49)
 (.seq (.ops [o 6 (.mv (b false))])
 .ret)
 .skip)))))
 (.ops [o 50 (.bin .add (t 17) (i 1)),
 o 17 (.mv (t 50))])))))))
 (.seq (.seq (.ops [o 51 (.fa 2 (t 4)),
 o 52 (.ld false 1 (t 51)),
 o 53 (.ln (t 52)),
 o 54 (.mv (i 0))])
 (.block 2 (.loop (.seq (.ops [o 55 (.bin .lss (t 54) (t 53))])
 (.seq (.cond (t 55)
 .skip
 (.exit 2))
 (.seq (.block 3 (.seq (.ops [o 56 (.mv (t 54)),
 o 57 (.ia 1 (t 52) (t 54)),
 o 58 (.ld false 1 (t 57)),
 o 10 (.mv (t 56)),
 o 11 (.mv (t 58))])
 (.seq (.ops [o 59 (.mv (t 11)),
 o 60 (.fa 0 (t 5)),
 o 61 (.ld false 1 (t 60)),
 o 62 (.fa 2 (t 3)),
 o 63 (.ld false 1 (t 62)),
 o 64 (.ln (t 63)),
 o 65 (.bin .add (i 1) (t 64)),
 o 66 (.mv (t 10)),
 o 67 (.bin .add (t 65) (t 66)),
 o 68 (.ia 2 (t 61) (t 67)),
 o 69 (.fa 0 (t 68)),
 o 70 (.ld false 1 (t 69)),
 o 71 (.bin .shr (t 59) (t 70)),
 o 72 (.bin .and (t 71) (i 1)),
 o 73 (.bin .eql (t 72) (i 0))])
 (.cond (t 73)
 (.seq (.ops [o 6 (.mv (b false))])
 .ret)
 .skip))))
 (.ops [o 74 (.bin .add (t 54) (i 1)),
 o 54 (.mv (t 74))])))))))
 (.seq (.ops [o 6 (.mv (b true))])
 .ret)))))⟩
theorem e45 : slimF Tryz.prog Tryz.f45 [[(0, []), (1, []), (2, []), (3, []), (4, []), (5, []), (6, []), (7, []), (8, []), (9, []), (10, []), (11, []), (12, []), (13, []), (14, []), (15, []), (16, []), (17, []), (18, []), (19, []), (20, []), (21, []), (22, [])]] = some c45 := by kernel_rfl
def c46 : SF := ⟨91, [.t 6], (.seq (.ops [k 3 (.bx 28 (t 0)),
 k 5 (.bx 87 (t 2)),
 o 6 (.mv (b false))])
 (.seq (.seq (.ops [o 10 (.mv (t 1)),
 o 11 (.fa 0 (t 5)),
 o 12 (.ld false 1 (t 11)),
 o 13 (.ia 2 (t 10) (t 12)),
 o 14 (.fa 0 (t 13)),
 o 15 (.ld false 1 (t 14)),
 o 16 (.bin .neq (t 15) (i 1))])
 (.cond (t 16)
 (.seq (.ops [o 6 (.mv (b true))])
 .ret)
 .skip))
 (.seq (.opq [o 17 (.mv (t 1)),
 o 18 (.fa 0 (t 5)),
 o 19 (.ld false 1 (t 18)),
 o 20 (.ia 2 (t 17) (t 19)),
 o 21 (.fa 1 (t 20)),
 o 22 (.ld false 1 (t 21)),
 o 23 (.fa 1 (t 5)),
 o 24 (.ld false 1 (t 23)),
 o 25 (.ia 5 (t 22) (t 24)),
 o 26 (.ld true 5 (t 25)),
 k 7 (.al 83 [.int .i64 0, .int .i64 0, .int .i64 0, .int .i64 0, .int .i64 0]),
 kn (.st [] 5 (t 7) (t 26))])
 (.seq (.seq (.ops [o 27 (.fa 2 (t 5)),
 o 28 (.ld false 1 (t 27))])
 (.block 0 (.seq (.ops [o 30 (.bin .eql (t 28) (i 0)),
 o 29 (.mv (t 30))])
 (.cond (t 29)
 (.seq (.ops [o 31 (.fa 0 (t 7)),
 o 32 (.ld false 1 (t 31)),
 o 33 (.bin .eql (t 32) (i 0)),
 o 6 (.mv (t 33))])
 .ret)
 (.seq (.ops [o 35 (.bin .eql (t 28) (i 11)),
 o 34 (.mv (t 35))])
 (.cond (t 34)
 (.seq (.ops [o 36 (.fa 0 (t 7)),
 o 37 (.ld false 1 (t 36)),
 o 38 (.bin .eql (t 37) (i 2)),
 o 39 (.mv (t 38)),
 og 40 39 true (.fa 3 (t 5)),
 og 41 39 true (.fa 0 (t 40)),
 og 42 39 true (.ld true 6 (t 41)),
 og 43 39 true (.fa 4 (t 7)),
 og 44 39 true (.ld false 1 (t 43)),
 ⟨some 45, some (39, true), .ca (.func 88) [(t 42), (t 44)]⟩,
 o 46 (.pick (t 39) (t 45) (b false)),
 o 47 (.mv (t 46)),
 og 48 47 true (.fa 3 (t 5)),
 og 49 47 true (.fa 6 (t 48)),
 og 50 47 true (.ld false 1 (t 49)),
 og 51 47 true (.fa 2 (t 7)),
 og 52 47 true (.ld false 1 (t 51)),
 og 53 47 true (.fa 3 (t 7)),
 og 54 47 true (.ld false 1 (t 53)),
 ⟨some 55, some (47, true), .ca (.func 89) [(t 50), (t 52), (t 54)]⟩,
 o 56 (.pick (t 47) (t 55) (b false)),
 o 6 (.mv (t 56))])
 .ret)
 .skip))))))
 (.seq (.opd [o 58 (.fa 0 (t 3)),
 o 59 (.ld true 2 (t 58)),
 o 60 (.fa 2 (t 5)),
 o 61 (.ld false 1 (t 60)),
 o 62 (.mv (t 1)),
 o 63 (.fa 0 (t 5)),
 o 64 (.ld false 1 (t 63)),
 o 65 (.ia 2 (t 62) (t 64)),
 o 66 (.fa 1 (t 65)),
 o 67 (.ld false 1 (t 66)),
 o 68 (.fa 1 (t 5)),
 o 69 (.ld false 1 (t 68)),
 o 70 (.fa 1 (t 5)),
 o 71 (.ld false 1 (t 70)),
 o 72 (.ld true 7 (t 3)),
 o 73 (.fa 2 (t 5)),
 o 74 (.ld false 1 (t 73)),
 k 75 (.ca (.func 36) [(t 72), (t 74)]),
 o 76 (.bin .add (t 71) (t 75)),
 o 77 (.sl 5 (t 67) (some (t 69)) (some (t 76))),
 k 78 (.ca (.func 90) [(t 59), (t 61), (t 77)]),
 o 57 (.mv (t 78)),
 o 79 (.ex (t 57) 0),
 o 80 (.ex (t 57) 1),
 k 8 (.al 119 [.bool false, .int .i64 0, .int .i64 0, .int .i64 0]),
 kn (.st [] 4 (t 8) (t 79)),
 o 9 (.mv (t 80))])
 (.seq (.ops [o 81 (.mv (t 9)),
 o 82 (.bin .eql (t 81) (i 0)),
 o 83 (.mv (t 82)),
 og 84 83 true (.fa 2 (t 5)),
 og 85 83 true (.ld false 1 (t 84)),
 og 86 83 true (.fa 3 (t 5)),
 og 87 83 true (.ld true 7 (t 86)),
 og 88 83 true (.ld true 4 (t 8)),
 ⟨some 89, some (83, true), .ca (.func 91) [(t 85), (t 87), (t 88)]⟩,
 o 90 (.pick (t 83) (t 89) (b false)),
 o 6 (.mv (t 90))])
 .ret))))))⟩
theorem e46 : slimF Tryz.prog Tryz.f46 [[(0, []), (1, []), (2, []), (3, []), (4, []), (5, []), (6, []), (7, []), (8, []), (9, []), (10, []), (11, [])], [(0, []), (1, []), (2, []), (3, []), (4, []), (5, []), (6, []), (7, []), (8, []), (9, []), (10, []), (11, []), (12, []), (13, []), (14, []), (15, []), (16, []), (17, []), (18, []), (19, []), (20, []), (21, []), (22, []), (23, []), (24, []), (25, []), (26, [])]] = some c46 := by kernel_rfl
def c47 : SF := ⟨26, [.t 2], (.seq (.ops [o 2 (.mv (i 0))])
 (.seq (.ops [o 5 (.mv (t 0)),
 o 6 (.ln (t 5)),
 o 3 (.mv (t 6))])
 (.seq (.seq (.ops [o 4 (.mv (i 0))])
 (.block 0 (.loop (.seq (.seq (.ops [o 7 (.mv (t 4)),
 o 8 (.mv (t 0)),
 o 9 (.ln (t 8)),
 o 10 (.bin .lss (t 7) (t 9)),
 o 11 (.mv (t 10)),
 og 12 11 true (.mv (t 3)),
 og 13 11 true (.bin .lss (t 12) (i 1048576)),
 o 14 (.pick (t 11) (t 13) (b false))])
 (.cond (t 14)
 .skip
 (.exit 0)))
 (.seq (.block 1 (.ops [o 17 (.mv (t 3)),
 o 18 (.mv (t 0)),
 o 19 (.mv (t 4)),
 o 20 (.ia 2 (t 18) (t 19)),
 o 21 (.fa 1 (t 20)),
 o 22 (.ld false 1 (t 21)),
 o 23 (.ln (t 22)),
 o 24 (.bin .add (t 17) (t 23)),
 o 3 (.mv (t 24))]))
 (.ops [o 15 (.mv (t 4)),
 o 16 (.bin .add (t 15) (i 1)),
 o 4 (.mv (t 16))]))))))
 (.seq (.ops [o 25 (.mv (t 3)),
 o 2 (.mv (t 25))])
 .ret))))⟩
theorem e47 : slimF Tryz.prog Tryz.f47 [] = some c47 := by kernel_rfl
def c48 : SF := ⟨13, [.t 2], (.seq (.ops [o 2 (.mv (i 0))])
 (.seq (.block 0 (.seq (.ops [o 4 (.mv (t 0)),
 o 5 (.bin .eql (t 4) (i 1)),
 o 6 (.mv (t 5)),
 og 7 6 false (.mv (t 0)),
 og 8 6 false (.bin .eql (t 7) (i 2)),
 o 9 (.pick (t 6) (b true) (t 8)),
 o 3 (.mv (t 9))])
 (.cond (t 3)
 (.seq (.ops [o 2 (.mv (i 0))])
 .ret)
 (.seq (.ops [o 11 (.mv (t 0)),
 k 12 (.ca (.func 33) [(t 11), (i 3), (i 7)]),
 o 10 (.mv (t 12))])
 (.cond (t 10)
 (.seq (.ops [o 2 (.mv (i 1))])
 .ret)
 .skip)))))
 (.seq (.ops [o 2 (.mv (i 2))])
 .ret)))⟩
theorem e48 : slimF Tryz.prog Tryz.f48 [] = some c48 := by kernel_rfl
def c49 : SF := ⟨6, [.t 2], (.seq (.ops [o 2 (.mv (b false))])
 (.seq (.ops [o 3 (.mv (t 0)),
 k 4 (.ca (.func 51) [(t 3)]),
 o 5 (.bin .gtr (t 4) (i 0)),
 o 2 (.mv (t 5))])
 .ret))⟩
theorem e49 : slimF Tryz.prog Tryz.f49 [] = some c49 := by kernel_rfl
def c50 : SF := ⟨10, [.t 4], (.seq (.ops [o 4 (.mv (b false))])
 (.seq (.ops [o 5 (.mv (t 0)),
 o 6 (.mv (t 1)),
 o 7 (.bin .shl (i 1) (t 6)),
 o 8 (.bin .sub (t 7) (i 1)),
 k 9 (.ca (.func 32) [(t 5), (t 8)]),
 o 4 (.mv (t 9))])
 .ret))⟩
theorem e50 : slimF Tryz.prog Tryz.f50 [] = some c50 := by kernel_rfl
def c51 : SF := ⟨13, [.t 2], (.seq (.ops [o 2 (.mv (i 0))])
 (.seq (.seq (.ops [o 3 (.mv (t 0))])
 (.block 0 (.seq (.seq (.ops [o 5 (.bin .eql (t 3) (i 1)),
 o 4 (.mv (t 5))])
 (.cond (t 4)
 .skip
 (.ops [o 6 (.bin .eql (t 3) (i 2)),
 o 4 (.mv (t 6))])))
 (.cond (t 4)
 (.seq (.ops [o 2 (.mv (i 8))])
 .ret)
 (.seq (.seq (.ops [o 8 (.bin .eql (t 3) (i 3)),
 o 7 (.mv (t 8))])
 (.cond (t 7)
 .skip
 (.ops [o 9 (.bin .eql (t 3) (i 4)),
 o 7 (.mv (t 9))])))
 (.cond (t 7)
 (.seq (.ops [o 2 (.mv (i 16))])
 .ret)
 (.seq (.seq (.ops [o 11 (.bin .eql (t 3) (i 5)),
 o 10 (.mv (t 11))])
 (.cond (t 10)
 .skip
 (.ops [o 12 (.bin .eql (t 3) (i 6)),
 o 10 (.mv (t 12))])))
 (.cond (t 10)
 (.seq (.ops [o 2 (.mv (i 32))])
 .ret)
 .skip))))))))
 (.seq (.ops [o 2 (.mv (i 0))])
 .ret)))⟩
theorem e51 : slimF Tryz.prog Tryz.f51 [] = some c51 := by kernel_rfl
def c52 : SF := ⟨5, [.t 2], (.seq (.ops [o 2 (.mv (b false))])
 (.seq (.ops [o 3 (.mv (t 0)),
 k 4 (.ca (.func 33) [(t 3), (i 1), (i 7)]),
 o 2 (.mv (t 4))])
 .ret))⟩
theorem e52 : slimF Tryz.prog Tryz.f52 [] = some c52 := by kernel_rfl
def c53 : SF := ⟨22, [.t 6], (.seq (.ops [k 3 (.bx 28 (t 0)),
 o 6 (.mv (b false))])
 (.seq (.seq (.ops [o 7 (.mv (t 1)),
 o 8 (.fa 4 (t 3)),
 o 9 (.ld false 1 (t 8)),
 o 10 (.ln (t 9)),
 o 11 (.bin .sub (t 10) (i 1)),
 k 12 (.ca (.func 32) [(t 7), (t 11)]),
 o 13 (.un .not (t 12))])
 (.cond (t 13)
 (.seq (.ops [o 6 (.mv (b false))])
 .ret)
 .skip))
 (.seq (.ops [o 14 (.fa 4 (t 3)),
 o 15 (.ld false 1 (t 14)),
 o 16 (.mv (t 1)),
 o 17 (.ia 5 (t 15) (t 16)),
 o 18 (.fa 1 (t 17)),
 o 19 (.ld false 1 (t 18)),
 o 20 (.mv (t 2)),
 o 21 (.bin .eql (t 19) (t 20)),
 o 6 (.mv (t 21))])
 .ret)))⟩
theorem e53 : slimF Tryz.prog Tryz.f53 [] = some c53 := by kernel_rfl
def c54 : SF := ⟨52, [.t 4], (.seq (.ops [k 2 (.bx 74 (t 0)),
 k 3 (.bx 74 (t 1)),
 o 4 (.mv (b false))])
 (.seq (.ops [o 5 (.fa 0 (t 2)),
 o 6 (.ld false 1 (t 5)),
 o 7 (.fa 0 (t 3)),
 o 8 (.ld false 1 (t 7)),
 o 9 (.bin .eql (t 6) (t 8)),
 o 10 (.mv (t 9)),
 og 11 10 true (.fa 1 (t 2)),
 og 12 10 true (.ld false 1 (t 11)),
 og 13 10 true (.fa 1 (t 3)),
 og 14 10 true (.ld false 1 (t 13)),
 og 15 10 true (.bin .eql (t 12) (t 14)),
 o 16 (.pick (t 10) (t 15) (b false)),
 o 17 (.mv (t 16)),
 og 18 17 true (.fa 2 (t 2)),
 og 19 17 true (.ld false 1 (t 18)),
 og 20 17 true (.fa 2 (t 3)),
 og 21 17 true (.ld false 1 (t 20)),
 og 22 17 true (.bin .eql (t 19) (t 21)),
 o 23 (.pick (t 17) (t 22) (b false)),
 o 24 (.mv (t 23)),
 og 25 24 true (.fa 3 (t 2)),
 og 26 24 true (.ld false 1 (t 25)),
 og 27 24 true (.fa 3 (t 3)),
 og 28 24 true (.ld false 1 (t 27)),
 og 29 24 true (.bin .eql (t 26) (t 28)),
 o 30 (.pick (t 24) (t 29) (b false)),
 o 31 (.mv (t 30)),
 og 32 31 true (.fa 4 (t 2)),
 og 33 31 true (.ld false 1 (t 32)),
 og 34 31 true (.fa 4 (t 3)),
 og 35 31 true (.ld false 1 (t 34)),
 og 36 31 true (.bin .eql (t 33) (t 35)),
 o 37 (.pick (t 31) (t 36) (b false)),
 o 38 (.mv (t 37)),
 og 39 38 true (.fa 5 (t 2)),
 og 40 38 true (.ld false 1 (t 39)),
 og 41 38 true (.fa 5 (t 3)),
 og 42 38 true (.ld false 1 (t 41)),
 ⟨some 43, some (38, true), .ca (.func 39) [(t 40), (t 42)]⟩,
 o 44 (.pick (t 38) (t 43) (b false)),
 o 45 (.mv (t 44)),
 og 46 45 true (.fa 6 (t 2)),
 og 47 45 true (.ld false 1 (t 46)),
 og 48 45 true (.fa 6 (t 3)),
 og 49 45 true (.ld false 1 (t 48)),
 ⟨some 50, some (45, true), .ca (.func 39) [(t 47), (t 49)]⟩,
 o 51 (.pick (t 45) (t 50) (b false)),
 o 4 (.mv (t 51))])
 .ret))⟩
theorem e54 : slimF Tryz.prog Tryz.f54 [] = some c54 := by kernel_rfl
def c55 : SF := ⟨148, [.t 10], (.seq (.ops [o 10 (.mv (i 0))])
 (.seq (.seq (.ops [o 14 (.mv (t 2)),
 o 15 (.bin .gtr (t 14) (i 5)),
 o 16 (.mv (t 15)),
 og 17 16 true (.mv (t 1)),
 og 18 16 true (.ln (t 17)),
 og 19 16 true (.bin .gtr (t 18) (i 0)),
 o 20 (.pick (t 16) (t 19) (b false))])
 (.cond (t 20)
 (.ops [o 21 (.mv (t 0)),
 o 22 (.nc (t 21)),
 o 23 (.fa 11 (t 22)),
 kn (.st [] 1 (t 23) (b true))])
 .skip))
 (.seq (.seq (.ops [o 11 (.mv (i 0))])
 (.block 0 (.loop (.seq (.seq (.ops [o 24 (.mv (t 11)),
 o 25 (.mv (t 1)),
 o 26 (.ln (t 25)),
 o 27 (.bin .lss (t 24) (t 26)),
 o 28 (.mv (t 27)),
 og 29 28 true (.mv (t 0)),
 og 30 28 true (.nc (t 29)),
 og 31 28 true (.fa 11 (t 30)),
 og 32 28 true (.ld false 1 (t 31)),
 og 33 28 true (.un .not (t 32)),
 o 34 (.pick (t 28) (t 33) (b false))])
 (.cond (t 34)
 .skip
 (.exit 0)))
 (.seq (.block 1 (.seq (.seq (.opq [o 37 (.mv (t 1)),
 o 38 (.mv (t 11)),
 o 39 (.ia 1 (t 37) (t 38)),
 o 40 (.ld false 1 (t 39)),
 o 41 (.mv (t 4)),
 o 42 (.bin .leq (t 40) (t 41)),
 o 43 (.mv (t 42)),
 og 44 43 false (.mv (t 1)),
 og 45 43 false (.mv (t 11)),
 og 46 43 false (.ia 1 (t 44) (t 45)),
 og 47 43 false (.ld false 1 (t 46)),
 og 48 43 false (.mv (t 0)),
 og 49 43 false (.nc (t 48)),
 og 50 43 false (.fa 0 (t 49)),
 og 51 43 false (.fa 5 (t 50)),
 og 52 43 false (.ld false 1 (t 51)),
 og 53 43 false (.ln (t 52)),
 og 54 43 false (.bin .geq (t 47) (t 53)),
 o 55 (.pick (t 43) (b true) (t 54))])
 (.cond (t 55)
 (.seq (.ops [o 56 (.mv (t 0)),
 o 57 (.nc (t 56)),
 o 58 (.fa 11 (t 57)),
 kn (.st [] 1 (t 58) (b true))])
 (.seq (.ops [o 59 (.mv (t 4)),
 o 10 (.mv (t 59))])
 .ret))
 .skip))
 (.seq (.ops [o 60 (.mv (t 1)),
 o 61 (.mv (t 11)),
 o 62 (.ia 1 (t 60) (t 61)),
 o 63 (.ld false 1 (t 62)),
 o 4 (.mv (t 63))])
 (.seq (.ops [o 64 (.mv (t 0)),
 o 65 (.nc (t 64)),
 o 66 (.fa 0 (t 65)),
 o 67 (.fa 5 (t 66)),
 o 68 (.ld false 1 (t 67)),
 o 69 (.mv (t 4)),
 o 70 (.ia 7 (t 68) (t 69)),
 o 71 (.ld true 7 (t 70)),
 k 12 (.al 74 [.int .i64 0, .int .i64 0, .int .i64 0, .int .i64 0, .int .i64 0, .slice none 0 0, .slice none 0 0]),
 kn (.st [] 7 (t 12) (t 71))])
 (.seq (.opq [o 72 (.mv (t 0)),
 o 73 (.nc (t 72)),
 o 74 (.fa 7 (t 73)),
 o 75 (.ld false 1 (t 74)),
 o 76 (.mv (t 4)),
 o 77 (.mv (t 0)),
 o 78 (.nc (t 77)),
 o 79 (.fa 8 (t 78)),
 o 80 (.ld false 1 (t 79)),
 o 81 (.mv (t 4)),
 o 82 (.mv (t 2)),
 o 83 (.mv (t 3)),
 o 84 (.ia 1 (t 75) (t 76)),
 kn (.st [] 1 (t 84) (t 82)),
 o 85 (.ia 1 (t 80) (t 81)),
 kn (.st [] 1 (t 85) (t 83))])
 (.seq (.ops [o 86 (.mv (t 0)),
 o 87 (.nc (t 86)),
 o 88 (.fa 9 (t 87)),
 o 89 (.ld false 1 (t 88)),
 o 90 (.bin .add (t 89) (i 1)),
 o 91 (.nc (t 86)),
 o 92 (.fa 9 (t 91)),
 kn (.st [] 1 (t 92) (t 90))])
 (.seq (.seq (.ops [o 93 (.fa 0 (t 12)),
 o 94 (.ld false 1 (t 93)),
 o 95 (.bin .eql (t 94) (i 3))])
 (.cond (t 95)
 (.seq (.opq [o 96 (.fa 4 (t 12)),
 o 97 (.ld false 1 (t 96)),
 o 98 (.mv (t 0)),
 o 99 (.nc (t 98)),
 o 100 (.fa 0 (t 99)),
 o 101 (.fa 2 (t 100)),
 o 102 (.ld false 1 (t 101)),
 o 103 (.ln (t 102)),
 o 104 (.bin .sub (t 97) (t 103)),
 o 105 (.bin .sub (t 104) (i 1)),
 o 13 (.mv (t 105))])
 (.seq (.seq (.ops [o 106 (.mv (t 3)),
 o 107 (.mv (t 106)),
 og 108 107 false (.mv (t 0)),
 og 109 107 false (.nc (t 108)),
 og 110 107 false (.fa 10 (t 109)),
 og 111 107 false (.ld false 1 (t 110)),
 og 112 107 false (.mv (t 13)),
 og 113 107 false (.ia 1 (t 111) (t 112)),
 og 114 107 false (.ld false 1 (t 113)),
 o 115 (.pick (t 107) (b true) (t 114))])
 (.cond (t 115)
 (.seq (.ops [o 116 (.mv (t 0)),
 o 117 (.nc (t 116)),
 o 118 (.fa 11 (t 117)),
 kn (.st [] 1 (t 118) (b true))])
 (.seq (.ops [o 119 (.mv (t 4)),
 o 10 (.mv (t 119))])
 .ret))
 .skip))
 (.ops [o 120 (.mv (t 0)),
 o 121 (.nc (t 120)),
 o 122 (.fa 10 (t 121)),
 o 123 (.ld false 1 (t 122)),
 o 124 (.mv (t 13)),
 o 125 (.ia 1 (t 123) (t 124)),
 kn (.st [] 1 (t 125) (b true))])))
 .skip))
 (.seq (.ops [o 126 (.mv (t 0)),
 o 127 (.fa 5 (t 12)),
 o 128 (.ld false 1 (t 127)),
 o 129 (.mv (t 2)),
 o 130 (.bin .add (t 129) (i 1)),
 o 131 (.mv (t 3)),
 o 132 (.mv (t 131)),
 og 133 132 false (.fa 0 (t 12)),
 og 134 132 false (.ld false 1 (t 133)),
 og 135 132 false (.bin .eql (t 134) (i 6)),
 o 136 (.pick (t 132) (b true) (t 135)),
 o 137 (.mv (t 4)),
 k 138 (.ca (.func 55) [(t 126), (t 128), (t 130), (t 136), (t 137)]),
 o 4 (.mv (t 138))])
 (.ops [o 139 (.mv (t 0)),
 o 140 (.fa 6 (t 12)),
 o 141 (.ld false 1 (t 140)),
 o 142 (.mv (t 2)),
 o 143 (.bin .add (t 142) (i 1)),
 o 144 (.mv (t 3)),
 o 145 (.mv (t 4)),
 k 146 (.ca (.func 55) [(t 139), (t 141), (t 143), (t 144), (t 145)]),
 o 4 (.mv (t 146))])))))))))
 (.ops [o 35 (.mv (t 11)),
 o 36 (.bin .add (t 35) (i 1)),
 o 11 (.mv (t 36))]))))))
 (.seq (.ops [o 147 (.mv (t 4)),
 o 10 (.mv (t 147))])
 .ret))))⟩
theorem e55 : slimF Tryz.prog Tryz.f55 [[(0, []), (1, []), (2, []), (3, []), (4, []), (5, []), (6, []), (7, []), (8, []), (9, []), (10, []), (11, []), (12, []), (13, []), (14, []), (15, []), (16, []), (17, []), (18, [])], [(0, []), (1, []), (2, []), (3, []), (4, []), (5, []), (6, []), (7, []), (8, []), (9, []), (10, []), (11, []), (12, []), (13, []), (14, []), (15, [])], [(0, []), (1, []), (2, []), (3, []), (4, []), (5, []), (6, []), (7, []), (8, []), (9, []), (10, [])]] = some c55 := by kernel_rfl
def c56 : SF := ⟨9, [.t 2], (.seq (.ops [o 2 (.mv (b false))])
 (.seq (.ops [o 3 (.mv (t 0)),
 o 4 (.bin .lss (t 3) (i 1)),
 o 5 (.mv (t 4)),
 og 6 5 false (.mv (t 0)),
 og 7 5 false (.bin .gtr (t 6) (i 32)),
 o 8 (.pick (t 5) (b true) (t 7)),
 o 2 (.mv (t 8))])
 .ret))⟩
theorem e56 : slimF Tryz.prog Tryz.f56 [] = some c56 := by kernel_rfl
def c57 : SF := ⟨11, [.t 2], (.seq (.ops [k 1 (.bx 23 (t 0)),
 o 2 (.mv (b false))])
 (.seq (.ops [o 3 (.fa 1 (t 1)),
 o 4 (.ld false 1 (t 3)),
 o 5 (.bin .eql (t 4) (i 2)),
 o 6 (.mv (t 5)),
 og 7 6 false (.fa 1 (t 1)),
 og 8 6 false (.ld false 1 (t 7)),
 og 9 6 false (.bin .eql (t 8) (i 4)),
 o 10 (.pick (t 6) (b true) (t 9)),
 o 2 (.mv (t 10))])
 .ret))⟩
theorem e57 : slimF Tryz.prog Tryz.f57 [] = some c57 := by kernel_rfl
def c58 : SF := ⟨9, [.t 4], (.seq (.ops [o 4 (.mv (b false))])
 (.seq (.ops [o 5 (.mv (t 0)),
 o 6 (.mv (t 1)),
 k 7 (.ca (.func 92) [(t 5), (t 6)]),
 o 8 (.bin .geq (t 7) (i 0)),
 o 4 (.mv (t 8))])
 .ret))⟩
theorem e58 : slimF Tryz.prog Tryz.f58 [] = some c58 := by kernel_rfl
def c59 : SF := ⟨42, [.t 4], (.seq (.ops [k 2 (.bx 111 (t 0)),
 o 4 (.mv (b false))])
 (.seq (.ops [o 6 (.fa 0 (t 2)),
 o 7 (.fa 4 (t 6)),
 o 8 (.ld false 1 (t 7)),
 o 9 (.mv (t 1)),
 o 10 (.ia 5 (t 8) (t 9)),
 o 11 (.ld true 5 (t 10)),
 k 5 (.al 101 [.int .i64 0, .int .i64 0, .int .i64 0, .int .i64 0, .int .i64 0]),
 kn (.st [] 5 (t 5) (t 11))])
 (.seq (.seq (.ops [o 12 (.ld true 7 (t 2)),
 o 13 (.mv (t 1)),
 k 14 (.ca (.func 93) [(t 12), (t 13)]),
 o 15 (.un .not (t 14))])
 (.cond (t 15)
 (.seq (.ops [o 4 (.mv (b false))])
 .ret)
 .skip))
 (.seq (.seq (.ops [o 16 (.fa 0 (t 5)),
 o 17 (.ld false 1 (t 16)),
 k 18 (.ca (.func 94) [(t 17)])])
 (.block 0 (.seq (.ops [o 20 (.bin .eql (t 18) (i 0)),
 o 19 (.mv (t 20))])
 (.cond (t 19)
 (.seq (.ops [o 21 (.ld true 7 (t 2)),
 o 22 (.ld true 5 (t 5)),
 k 23 (.ca (.func 95) [(t 21), (t 22)]),
 o 4 (.mv (t 23))])
 .ret)
 (.seq (.ops [o 25 (.bin .eql (t 18) (i 1)),
 o 24 (.mv (t 25))])
 (.cond (t 24)
 (.seq (.ops [o 26 (.fa 2 (t 5)),
 o 27 (.ld false 1 (t 26)),
 o 28 (.bin .eql (t 27) (i 0)),
 o 29 (.mv (t 28)),
 og 30 29 true (.ld true 7 (t 2)),
 og 31 29 true (.ld true 5 (t 5)),
 ⟨some 32, some (29, true), .ca (.func 96) [(t 30), (t 31)]⟩,
 o 33 (.pick (t 29) (t 32) (b false)),
 o 4 (.mv (t 33))])
 .ret)
 .skip))))))
 (.seq (.ops [o 34 (.fa 2 (t 5)),
 o 35 (.ld false 1 (t 34)),
 o 36 (.bin .eql (t 35) (i 0)),
 o 37 (.mv (t 36)),
 og 38 37 true (.ld true 7 (t 2)),
 og 39 37 true (.ld true 5 (t 5)),
 ⟨some 40, some (37, true), .ca (.func 97) [(t 38), (t 39)]⟩,
 o 41 (.pick (t 37) (t 40) (b false)),
 o 4 (.mv (t 41))])
 .ret)))))⟩
theorem e59 : slimF Tryz.prog Tryz.f59 [] = some c59 := by kernel_rfl
def c60 : SF := ⟨9, [.t 4], (.seq (.ops [o 4 (.mv (b false))])
 (.seq (.ops [o 5 (.mv (t 0)),
 o 6 (.mv (t 1)),
 k 7 (.ca (.func 98) [(t 5), (t 6)]),
 o 8 (.bin .geq (t 7) (i 0)),
 o 4 (.mv (t 8))])
 .ret))⟩
theorem e60 : slimF Tryz.prog Tryz.f60 [] = some c60 := by kernel_rfl
def c61 : SF := ⟨8, [.t 3], (.seq (.ops [k 2 (.bx 74 (t 0)),
 o 3 (.mv (b false))])
 (.seq (.ops [o 4 (.ld true 7 (t 1)),
 o 5 (.ld true 7 (t 2)),
 k 6 (.ca (.func 62) [(t 4), (t 5)]),
 o 7 (.un .not (t 6)),
 o 3 (.mv (t 7))])
 .ret))⟩
theorem e61 : slimF Tryz.prog Tryz.f61 [] = some c61 := by kernel_rfl
def c62 : SF := ⟨85, [.t 4], (.seq (.ops [k 2 (.bx 111 (t 0)),
 k 3 (.bx 74 (t 1)),
 o 4 (.mv (b false))])
 (.seq (.seq (.ops [o 5 (.ld true 7 (t 3)),
 k 6 (.ca (.func 99) [(t 5)]),
 o 7 (.un .not (t 6))])
 (.cond (t 7)
 (.seq (.ops [o 4 (.mv (b false))])
 .ret)
 .skip))
 (.seq (.seq (.ops [o 8 (.fa 0 (t 3)),
 o 9 (.ld false 1 (t 8))])
 (.block 0 (.seq (.ops [o 11 (.bin .eql (t 9) (i 1)),
 o 10 (.mv (t 11))])
 (.cond (t 10)
 (.seq (.ops [o 12 (.ld true 7 (t 2)),
 o 13 (.fa 1 (t 3)),
 o 14 (.ld false 1 (t 13)),
 k 15 (.ca (.func 100) [(t 12), (t 14), (i 7)]),
 o 16 (.mv (t 15)),
 og 17 16 true (.fa 2 (t 3)),
 og 18 16 true (.ld false 1 (t 17)),
 ⟨some 19, some (16, true), .ca (.func 101) [(t 18)]⟩,
 o 20 (.pick (t 16) (t 19) (b false)),
 o 21 (.mv (t 20)),
 og 22 21 true (.ld true 7 (t 2)),
 og 23 21 true (.fa 3 (t 3)),
 og 24 21 true (.ld false 1 (t 23)),
 og 25 21 true (.fa 2 (t 3)),
 og 26 21 true (.ld false 1 (t 25)),
 ⟨some 27, some (21, true), .ca (.func 100) [(t 22), (t 24), (t 26)]⟩,
 o 28 (.pick (t 21) (t 27) (b false)),
 o 4 (.mv (t 28))])
 .ret)
 (.seq (.ops [o 30 (.bin .eql (t 9) (i 2)),
 o 29 (.mv (t 30))])
 (.cond (t 29)
 (.seq (.ops [o 31 (.ld true 7 (t 2)),
 o 32 (.fa 1 (t 3)),
 o 33 (.ld false 1 (t 32)),
 k 34 (.ca (.func 100) [(t 31), (t 33), (i 7)]),
 o 35 (.mv (t 34)),
 og 36 35 true (.fa 2 (t 3)),
 og 37 35 true (.ld false 1 (t 36)),
 ⟨some 38, some (35, true), .ca (.func 102) [(t 37)]⟩,
 o 39 (.pick (t 35) (t 38) (b false)),
 o 4 (.mv (t 39))])
 .ret)
 (.seq (.ops [o 41 (.bin .eql (t 9) (i 3)),
 o 40 (.mv (t 41))])
 (.cond (t 40)
 (.seq (.ops [o 42 (.ld true 7 (t 2)),
 o 43 (.fa 1 (t 3)),
 o 44 (.ld false 1 (t 43)),
 k 45 (.ca (.func 100) [(t 42), (t 44), (i 7)]),
 o 46 (.mv (t 45)),
 og 47 46 true (.fa 4 (t 3)),
 og 48 46 true (.ld false 1 (t 47)),
 og 49 46 true (.fa 0 (t 2)),
 og 50 46 true (.fa 2 (t 49)),
 og 51 46 true (.ld false 1 (t 50)),
 og 52 46 true (.ln (t 51)),
 og 53 46 true (.bin .gtr (t 48) (t 52)),
 o 54 (.pick (t 46) (t 53) (b false)),
 o 55 (.mv (t 54)),
 og 56 55 true (.fa 4 (t 3)),
 og 57 55 true (.ld false 1 (t 56)),
 og 58 55 true (.fa 0 (t 2)),
 og 59 55 true (.fa 2 (t 58)),
 og 60 55 true (.ld false 1 (t 59)),
 og 61 55 true (.ln (t 60)),
 og 62 55 true (.fa 0 (t 2)),
 og 63 55 true (.fa 3 (t 62)),
 og 64 55 true (.ld false 1 (t 63)),
 og 65 55 true (.ln (t 64)),
 og 66 55 true (.bin .add (t 61) (t 65)),
 og 67 55 true (.bin .leq (t 57) (t 66)),
 o 68 (.pick (t 55) (t 67) (b false)),
 o 4 (.mv (t 68))])
 .ret)
 (.seq (.ops [o 70 (.bin .eql (t 9) (i 4)),
 o 69 (.mv (t 70))])
 (.cond (t 69)
 (.seq (.ops [o 71 (.ld true 7 (t 2)),
 o 72 (.fa 3 (t 3)),
 o 73 (.ld false 1 (t 72)),
 k 74 (.ca (.func 100) [(t 71), (t 73), (i 7)]),
 o 4 (.mv (t 74))])
 .ret)
 (.seq (.seq (.ops [o 76 (.bin .eql (t 9) (i 5)),
 o 75 (.mv (t 76))])
 (.cond (t 75)
 .skip
 (.ops [o 77 (.bin .eql (t 9) (i 6)),
 o 75 (.mv (t 77))])))
 (.cond (t 75)
 (.seq (.ops [o 78 (.ld true 7 (t 2)),
 o 79 (.fa 3 (t 3)),
 o 80 (.ld false 1 (t 79)),
 k 81 (.ca (.func 100) [(t 78), (t 80), (i 6)]),
 o 4 (.mv (t 81))])
 .ret)
 .skip))))))))))))
 (.seq (.ops [o 82 (.fa 0 (t 3)),
 o 83 (.ld false 1 (t 82)),
 o 84 (.bin .eql (t 83) (i 7)),
 o 4 (.mv (t 84))])
 .ret))))⟩
theorem e62 : slimF Tryz.prog Tryz.f62 [] = some c62 := by kernel_rfl
def c63 : SF := ⟨25, [.t 2, .t 3], (.seq (.ops [k 1 (.bx 111 (t 0)),
 o 2 (.mv (.const (.slice none 0 0))),
 o 3 (.mv (b false))])
 (.seq (.ops [o 7 (.ld true 7 (t 1)),
 o 8 (.fa 0 (t 1)),
 o 9 (.fa 6 (t 8)),
 o 10 (.ld false 1 (t 9)),
 k 11 (.ca (.func 103) [(t 7), (t 10), (.const (.slice none 0 0)), (i 0)]),
 o 6 (.mv (t 11)),
 o 12 (.ex (t 6) 0),
 o 13 (.ex (t 6) 1),
 o 4 (.mv (t 12)),
 o 5 (.mv (t 13))])
 (.seq (.opq [o 14 (.mv (t 4)),
 o 15 (.mv (t 5)),
 o 16 (.mv (t 15)),
 og 17 16 true (.mv (t 4)),
 og 18 16 true (.ln (t 17)),
 og 19 16 true (.fa 0 (t 1)),
 og 20 16 true (.fa 5 (t 19)),
 og 21 16 true (.ld false 1 (t 20)),
 og 22 16 true (.ln (t 21)),
 og 23 16 true (.bin .eql (t 18) (t 22)),
 o 24 (.pick (t 16) (t 23) (b false)),
 o 2 (.mv (t 14)),
 o 3 (.mv (t 24))])
 .ret)))⟩
theorem e63 : slimF Tryz.prog Tryz.f63 [[(0, []), (1, []), (2, []), (3, []), (4, []), (5, []), (6, []), (7, []), (8, []), (9, []), (10, []), (11, []), (12, [])]] = some c63 := by kernel_rfl
def c64 : SF := ⟨65, [.t 2], (.seq (.ops [k 1 (.bx 111 (t 0)),
 o 2 (.mv (b false))])
 (.seq (.ops [o 9 (.fa 0 (t 1)),
 o 10 (.fa 5 (t 9)),
 o 11 (.ld false 1 (t 10)),
 o 12 (.ln (t 11)),
 k 13 (.ms 4 1 1 [.bool false] (t 12) (t 12)),
 o 3 (.mv (t 13))])
 (.seq (.ops [k 14 (.mm),
 o 4 (.mv (t 14))])
 (.seq (.seq (.ops [o 15 (.fa 0 (t 1)),
 o 16 (.fa 5 (t 15)),
 o 17 (.ld false 1 (t 16)),
 o 18 (.ln (t 17)),
 o 19 (.mv (i 0))])
 (.block 0 (.loop (.seq (.ops [o 20 (.bin .lss (t 19) (t 18))])
 (.seq (.cond (t 20)
 .skip
 (.exit 0))
 (.seq (.block 1 (.seq (.ops [o 21 (.mv (t 19)),
 o 22 (.ia 7 (t 17) (t 19)),
 o 23 (.ld true 7 (t 22)),
 k 6 (.al 74 [.int .i64 0, .int .i64 0, .int .i64 0, .int .i64 0, .int .i64 0, .slice none 0 0, .slice none 0 0]),
 o 5 (.mv (t 21)),
 kn (.st [] 7 (t 6) (t 23))])
 (.seq (.seq (.ops [o 24 (.fa 5 (t 6)),
 o 25 (.ld false 1 (t 24)),
 o 26 (.fa 6 (t 6)),
 o 27 (.ld false 1 (t 26)),
 k 28 (.bs 24 2 [.slice none 0 0, .slice none 0 0] [(0, 1, (t 25)), (1, 1, (t 27))]),
 k 29 (.ca (.func 104) [(t 28)]),
 o 30 (.ln (t 29)),
 o 31 (.mv (i 0))])
 (.block 2 (.loop (.seq (.ops [o 32 (.bin .lss (t 31) (t 30))])
 (.seq (.cond (t 32)
 .skip
 (.exit 2))
 (.seq (.block 3 (.seq (.ops [o 33 (.ia 1 (t 29) (t 31)),
 o 34 (.ld false 1 (t 33)),
 o 8 (.mv (t 34))])
 (.ops [o 35 (.mv (t 3)),
 o 36 (.mv (t 8)),
 o 37 (.mv (t 3)),
 o 38 (.mv (t 5)),
 o 39 (.ia 1 (t 37) (t 38)),
 o 40 (.ld false 1 (t 39)),
 o 41 (.mv (t 40)),
 og 42 41 false (.fa 0 (t 6)),
 og 43 41 false (.ld false 1 (t 42)),
 og 44 41 false (.bin .eql (t 43) (i 6)),
 o 45 (.pick (t 41) (b true) (t 44)),
 o 46 (.ia 1 (t 35) (t 36)),
 kn (.st [] 1 (t 46) (t 45))])))
 (.ops [o 47 (.bin .add (t 31) (i 1)),
 o 31 (.mv (t 47))])))))))
 (.seq (.ops [o 48 (.fa 0 (t 6)),
 o 49 (.ld false 1 (t 48)),
 o 50 (.bin .eql (t 49) (i 3))])
 (.cond (t 50)
 (.seq (.seq (.ops [o 51 (.mv (t 3)),
 o 52 (.mv (t 5)),
 o 53 (.ia 1 (t 51) (t 52)),
 o 54 (.ld false 1 (t 53)),
 o 55 (.mv (t 54)),
 og 56 55 false (.mv (t 4)),
 og 57 55 false (.fa 4 (t 6)),
 og 58 55 false (.ld false 1 (t 57)),
 ⟨some 59, some (55, false), .ml (.bool false) (t 56) (t 58)⟩,
 o 60 (.pick (t 55) (b true) (t 59))])
 (.cond (t 60)
 (.seq (.ops [o 2 (.mv (b false))])
 .ret)
 .skip))
 (.ops [o 61 (.mv (t 4)),
 o 62 (.fa 4 (t 6)),
 o 63 (.ld false 1 (t 62)),
 kn (.mu (t 61) (t 63) (b true))]))
 .skip)))))
 (.ops [o 64 (.bin .add (t 19) (i 1)),
 o 19 (.mv (t 64))])))))))
 (.seq (.ops [o 2 (.mv (b true))])
 .ret)))))⟩
theorem e64 : slimF Tryz.prog Tryz.f64 [] = some c64 := by kernel_rfl
def c65 : SF := ⟨13, [.t 3], (.seq (.ops [o 3 (.mv (b false))])
 (.seq (.ops [o 4 (.mv (t 0)),
 o 5 (.bin .geq (t 4) (i 0)),
 o 6 (.mv (t 5)),
 og 7 6 true (.mv (t 0)),
 og 8 6 true (.fa 5 (t 1)),
 og 9 6 true (.ld false 1 (t 8)),
 og 10 6 true (.ln (t 9)),
 og 11 6 true (.bin .lss (t 7) (t 10)),
 o 12 (.pick (t 6) (t 11) (b false)),
 o 3 (.mv (t 12))])
 .ret))⟩
theorem e65 : slimF Tryz.prog Tryz.f65 [] = some c65 := by kernel_rfl
def c66 : SF := ⟨8, [.t 3], (.seq (.ops [o 3 (.mv (b false))])
 (.seq (.ops [o 4 (.ld false 1 (t 1)),
 o 5 (.mv (t 0)),
 k 6 (.ca (t 4) [(t 5)]),
 o 7 (.un .not (t 6)),
 o 3 (.mv (t 7))])
 .ret))⟩
theorem e66 : slimF Tryz.prog Tryz.f66 [] = some c66 := by kernel_rfl
end Go.Proofs.Tryz.S
