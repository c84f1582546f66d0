/- Parts K65to69: the machine's runs of small codes, contracts of functions, plain facts. -/
import Derived.Test.YtlcjihpdkdngkabGreatProg
import Derived.Test.YtlcjihpdkdngkabGreatK60to64
namespace Go.Proofs.Tryz.S
open Go Go.Ax Go.Ax.N
set_option maxRecDepth 100000

/-- (*cellar/maths.held).add -/
def c62 : SF := ⟨40, [], (.seq (.ops [o 6 (.mv (t 2)),
 o 7 (.bin .eql (t 6) (i 0))])
 (.cond (t 7)
 (.opd [o 8 (.mv (t 0)),
 o 9 (.mv (t 0)),
 o 10 (.nc (t 9)),
 o 11 (.fa 0 (t 10)),
 o 12 (.ld true 6 (t 11)),
 o 13 (.mv (t 0)),
 o 14 (.nc (t 13)),
 o 15 (.fa 0 (t 14)),
 o 16 (.fa 0 (t 15)),
 o 17 (.ld false 1 (t 16)),
 o 18 (.mv (t 1)),
 k 19 (.ca (.func 76) [(t 17), (t 18)]),
 k 20 (.ca (.func 80) [(t 12), (t 19)]),
 o 21 (.nc (t 8)),
 o 22 (.fa 0 (t 21)),
 kn (.st [] 6 (t 22) (t 20))])
 (.seq (.ops [o 23 (.mv (t 0)),
 o 24 (.nc (t 23)),
 o 25 (.fa 6 (t 24)),
 o 26 (.ld false 1 (t 25)),
 o 27 (.mv (t 2)),
 k 28 (.ca (.func 81) [(t 26), (t 27)]),
 o 29 (.un .not (t 28))])
 (.cond (t 29)
 (.ops [o 30 (.mv (t 0)),
 o 31 (.mv (t 0)),
 o 32 (.nc (t 31)),
 o 33 (.fa 6 (t 32)),
 o 34 (.ld false 1 (t 33)),
 o 35 (.mv (t 2)),
 k 36 (.bs 3 1 [.int .i64 0] [(0, 1, (t 35))]),
 k 37 (.ap 3 1 8 (t 34) (t 36)),
 o 38 (.nc (t 30)),
 o 39 (.fa 6 (t 38)),
 kn (.st [] 1 (t 39) (t 37))])
 .skip))))⟩
theorem e62 : slimF Tryz.prog Tryz.f62 [[(0, []), (1, []), (2, []), (3, []), (4, []), (5, []), (6, []), (7, []), (8, []), (9, []), (10, []), (11, []), (12, []), (13, []), (14, []), (15, [])]] = some c62 := by kernel_rfl
/-- (*cellar/maths.held).told -/
def c73 : SF := ⟨17, [.c true 6 2, .t 3], (.seq (.ops [k 2 (.al 30 [.int .i64 0, .bool false, .int .i64 0, .int .i64 0, .int .i64 0, .int .i64 0]),
 o 3 (.mv (.const (.slice none 0 0)))])
 (.seq (.ops [o 4 (.mv (t 0)),
 o 5 (.nc (t 4)),
 o 6 (.fa 6 (t 5)),
 o 7 (.ld false 1 (t 6)),
 k 8 (.ca (.func 86) [(t 7)])])
 (.seq (.opq [o 9 (.mv (t 0)),
 o 10 (.nc (t 9)),
 o 11 (.fa 0 (t 10)),
 o 12 (.ld true 6 (t 11)),
 o 13 (.mv (t 0)),
 o 14 (.nc (t 13)),
 o 15 (.fa 6 (t 14)),
 o 16 (.ld false 1 (t 15)),
 kn (.st [15] 6 (t 2) (t 12)),
 o 3 (.mv (t 16))])
 .ret)))⟩
theorem e73 : slimF Tryz.prog Tryz.f73 [[(0, []), (1, []), (2, []), (3, []), (4, []), (5, []), (6, []), (7, []), (8, [15]), (9, [])]] = some c73 := by kernel_rfl
/-- (*cellar/maths.held).many -/
def c74 : SF := ⟨98, [], (.seq (.ops [k 8 (.bx 30 (t 3)),
 k 9 (.bx 30 (t 4))])
 (.seq (.ops [k 10 (.al 87 [.int .i64 0, .int .i64 0, .int .i64 0, .int .i64 0])])
 (.seq (.ops [o 12 (.mv (t 2)),
 o 13 (.ld true 6 (t 8)),
 k 14 (.ca (.func 64) [(t 12), (t 13)]),
 o 11 (.mv (t 14)),
 o 15 (.ex (t 11) 0),
 o 16 (.ex (t 11) 1),
 o 17 (.fa 0 (t 10)),
 kn (.st [] 1 (t 17) (t 15)),
 o 18 (.fa 1 (t 10)),
 kn (.st [] 1 (t 18) (t 16))])
 (.seq (.ops [o 20 (.mv (t 2)),
 o 21 (.ld true 6 (t 9)),
 k 22 (.ca (.func 64) [(t 20), (t 21)]),
 o 19 (.mv (t 22)),
 o 23 (.ex (t 19) 0),
 o 24 (.ex (t 19) 1),
 o 25 (.fa 2 (t 10)),
 kn (.st [] 1 (t 25) (t 23)),
 o 26 (.fa 3 (t 10)),
 kn (.st [] 1 (t 26) (t 24))])
 (.seq (.ops [o 27 (.mv (t 1))])
 (.block 0 (.seq (.ops [o 35 (.bin .eql (t 27) (i 8)),
 o 34 (.mv (t 35))])
 (.cond (t 34)
 (.ops [o 36 (.mv (t 0)),
 o 37 (.mv (t 2)),
 o 38 (.fa 0 (t 10)),
 o 39 (.ld false 1 (t 38)),
 o 40 (.fa 2 (t 10)),
 o 41 (.ld false 1 (t 40)),
 o 42 (.bin .add (t 39) (t 41)),
 o 43 (.fa 1 (t 10)),
 o 44 (.ld false 1 (t 43)),
 o 45 (.fa 3 (t 10)),
 o 46 (.ld false 1 (t 45)),
 o 47 (.bin .add (t 44) (t 46)),
 k 48 (.ca (.func 87) [(t 36), (t 37), (t 42), (t 47)])])
 (.seq (.ops [o 50 (.bin .eql (t 27) (i 9)),
 o 49 (.mv (t 50))])
 (.cond (t 49)
 (.ops [o 51 (.mv (t 0)),
 o 52 (.mv (t 2)),
 o 53 (.fa 0 (t 10)),
 o 54 (.ld false 1 (t 53)),
 o 55 (.fa 3 (t 10)),
 o 56 (.ld false 1 (t 55)),
 o 57 (.bin .sub (t 54) (t 56)),
 o 58 (.fa 1 (t 10)),
 o 59 (.ld false 1 (t 58)),
 o 60 (.fa 2 (t 10)),
 o 61 (.ld false 1 (t 60)),
 o 62 (.bin .sub (t 59) (t 61)),
 k 63 (.ca (.func 87) [(t 51), (t 52), (t 57), (t 62)])])
 (.seq (.ops [o 65 (.bin .eql (t 27) (i 10)),
 o 64 (.mv (t 65))])
 (.cond (t 64)
 (.ops [o 66 (.mv (t 0)),
 o 67 (.mv (t 2)),
 o 68 (.ld true 4 (t 10)),
 k 69 (.ca (.func 88) [(t 66), (t 67), (t 68)])])
 (.seq (.seq (.ops [o 71 (.bin .eql (t 27) (i 11)),
 o 70 (.mv (t 71))])
 (.cond (t 70)
 .skip
 (.ops [o 72 (.bin .eql (t 27) (i 12)),
 o 70 (.mv (t 72))])))
 (.cond (t 70)
 (.ops [o 73 (.mv (t 0)),
 o 74 (.mv (t 1)),
 o 75 (.mv (t 2)),
 o 76 (.ld true 4 (t 10)),
 k 77 (.ca (.func 89) [(t 73), (t 74), (t 75), (t 76)])])
 (.seq (.seq (.ops [o 79 (.bin .eql (t 27) (i 13)),
 o 78 (.mv (t 79))])
 (.cond (t 78)
 .skip
 (.seq (.ops [o 80 (.bin .eql (t 27) (i 14)),
 o 78 (.mv (t 80))])
 (.cond (t 78)
 .skip
 (.ops [o 81 (.bin .eql (t 27) (i 15)),
 o 78 (.mv (t 81))])))))
 (.cond (t 78)
 (.ops [o 82 (.mv (t 0)),
 o 83 (.mv (t 1)),
 o 84 (.ld true 6 (t 8)),
 o 85 (.ld true 6 (t 9)),
 k 86 (.ca (.func 90) [(t 83), (t 84), (t 85)]),
 o 87 (.nc (t 82)),
 o 88 (.fa 0 (t 87)),
 kn (.st [] 6 (t 88) (t 86))])
 (.seq (.seq (.ops [o 90 (.bin .eql (t 27) (i 16)),
 o 89 (.mv (t 90))])
 (.cond (t 89)
 .skip
 (.ops [o 91 (.bin .eql (t 27) (i 17)),
 o 89 (.mv (t 91))])))
 (.cond (t 89)
 (.ops [o 92 (.mv (t 0)),
 o 93 (.mv (t 1)),
 o 94 (.mv (t 2)),
 o 95 (.ld true 6 (t 9)),
 o 96 (.ld true 4 (t 10)),
 k 97 (.ca (.func 91) [(t 92), (t 93), (t 94), (t 95), (t 96)])])
 (.ops [o 28 (.mv (t 0)),
 o 29 (.mv (t 1)),
 o 30 (.ld true 6 (t 8)),
 o 31 (.ld true 6 (t 9)),
 o 32 (.ld true 4 (t 10)),
 k 33 (.ca (.func 92) [(t 28), (t 29), (t 30), (t 31), (t 32)])])))))))))))))))))))⟩
theorem e74 : slimF Tryz.prog Tryz.f74 [] = some c74 := by kernel_rfl
/-- (*cellar/maths.held).span -/
def c87 : SF := ⟨70, [], (.seq (.ops [o 11 (.mv (t 1)),
 k 12 (.ca (.func 59) [(t 11)]),
 o 8 (.mv (t 12))])
 (.seq (.ops [o 14 (.mv (t 1)),
 k 15 (.ca (.func 104) [(t 14)]),
 o 13 (.mv (t 15)),
 o 16 (.ex (t 13) 0),
 o 17 (.ex (t 13) 1),
 o 9 (.mv (t 16)),
 o 10 (.mv (t 17))])
 (.seq (.seq (.ops [o 18 (.mv (t 1)),
 k 19 (.ca (.func 83) [(t 18)]),
 o 20 (.mv (t 19)),
 og 21 20 true (.mv (t 2)),
 og 22 20 true (.mv (t 9)),
 og 23 20 true (.bin .lss (t 21) (t 22)),
 og 24 20 true (.mv (t 23)),
 og 25 24 false (.mv (t 3)),
 og 26 24 false (.mv (t 10)),
 og 27 24 false (.bin .gtr (t 25) (t 26)),
 og 28 20 true (.pick (t 24) (b true) (t 27)),
 o 29 (.pick (t 20) (t 28) (b false))])
 (.cond (t 29)
 (.seq (.ops [o 30 (.mv (t 0)),
 k 31 (.ca (.func 62) [(t 30), (i 0), (i 4)])])
 (.ops [o 32 (.mv (t 2)),
 o 33 (.mv (t 9)),
 o 34 (.mx [(t 32), (t 33)]),
 o 35 (.mv (t 3)),
 o 36 (.mv (t 10)),
 o 37 (.mn [(t 35), (t 36)]),
 o 2 (.mv (t 34)),
 o 3 (.mv (t 37))]))
 .skip))
 (.block 0 (.seq (.ops [o 55 (.mv (t 2)),
 o 56 (.mv (t 3)),
 o 57 (.bin .gtr (t 55) (t 56)),
 o 54 (.mv (t 57))])
 (.cond (t 54)
 .skip
 (.seq (.ops [o 59 (.mv (t 3)),
 o 60 (.mv (t 2)),
 o 61 (.bin .sub (t 59) (t 60)),
 o 62 (.mv (t 8)),
 k 63 (.ca (.func 65) [(t 62)]),
 o 64 (.bin .geq (t 61) (t 63)),
 o 58 (.mv (t 64))])
 (.cond (t 58)
 (.ops [o 65 (.mv (t 0)),
 o 66 (.mv (t 8)),
 k 67 (.ca (.func 66) [(t 66)]),
 o 68 (.nc (t 65)),
 o 69 (.fa 0 (t 68)),
 kn (.st [] 6 (t 69) (t 67))])
 (.opd [o 38 (.mv (t 0)),
 o 39 (.mv (t 0)),
 o 40 (.nc (t 39)),
 o 41 (.fa 0 (t 40)),
 o 42 (.ld true 6 (t 41)),
 o 43 (.mv (t 8)),
 o 44 (.mv (t 2)),
 o 45 (.mv (t 8)),
 o 47 (.mv (t 3)),
 o 48 (.mv (t 8)),
 k 46 (.ca (.func 68) [(t 44), (t 45)]),
 k 49 (.ca (.func 68) [(t 47), (t 48)]),
 k 50 (.ca (.func 67) [(t 43), (t 46), (t 49)]),
 k 51 (.ca (.func 80) [(t 42), (t 50)]),
 o 52 (.nc (t 38)),
 o 53 (.fa 0 (t 52)),
 kn (.st [] 6 (t 53) (t 51))])))))))))⟩
theorem e87 : slimF Tryz.prog Tryz.f87 [[(0, []), (1, []), (2, []), (3, []), (4, []), (5, []), (6, []), (7, []), (9, []), (10, []), (8, []), (11, []), (12, []), (13, []), (14, []), (15, []), (16, [])]] = some c87 := by kernel_rfl
/-- (*cellar/maths.held).times -/
def c88 : SF := ⟨32, [], (.seq (.ops [k 5 (.bx 87 (t 2))])
 (.seq (.seq (.ops [o 8 (.fa 1 (t 5)),
 o 9 (.ld false 1 (t 8)),
 o 10 (.bin .gtr (t 9) (i 2147483648)),
 o 11 (.mv (t 10)),
 og 12 11 true (.fa 3 (t 5)),
 og 13 11 true (.ld false 1 (t 12)),
 og 14 11 true (.bin .gtr (t 13) (i 2147483648)),
 o 15 (.pick (t 11) (t 14) (b false))])
 (.cond (t 15)
 (.seq (.ops [o 16 (.mv (t 0)),
 o 17 (.mv (t 1)),
 k 18 (.ca (.func 59) [(t 17)]),
 k 19 (.ca (.func 66) [(t 18)]),
 o 20 (.nc (t 16)),
 o 21 (.fa 0 (t 20)),
 kn (.st [] 6 (t 21) (t 19))])
 .ret)
 .skip))
 (.seq (.ops [o 23 (.ld true 4 (t 5)),
 k 24 (.ca (.func 105) [(t 23), (.func 106)]),
 o 22 (.mv (t 24)),
 o 25 (.ex (t 22) 0),
 o 26 (.ex (t 22) 1),
 o 6 (.mv (t 25)),
 o 7 (.mv (t 26))])
 (.ops [o 27 (.mv (t 0)),
 o 28 (.mv (t 1)),
 o 29 (.mv (t 6)),
 o 30 (.mv (t 7)),
 k 31 (.ca (.func 87) [(t 27), (t 28), (t 29), (t 30)])]))))⟩
theorem e88 : slimF Tryz.prog Tryz.f88 [] = some c88 := by kernel_rfl
/-- (*cellar/maths.held).divide -/
def c89 : SF := ⟨108, [], (.seq (.ops [k 7 (.bx 87 (t 3))])
 (.seq (.ops [o 14 (.mv (t 2)),
 k 15 (.ca (.func 104) [(t 14)]),
 o 13 (.mv (t 15)),
 o 16 (.ex (t 13) 0),
 o 17 (.ex (t 13) 1),
 o 8 (.mv (t 16)),
 o 9 (.mv (t 17))])
 (.seq (.seq (.ops [o 18 (.fa 2 (t 7)),
 o 19 (.ld false 1 (t 18)),
 o 20 (.bin .leq (t 19) (i 0)),
 o 21 (.mv (t 20)),
 og 22 21 true (.fa 3 (t 7)),
 og 23 21 true (.ld false 1 (t 22)),
 og 24 21 true (.bin .geq (t 23) (i 0)),
 o 25 (.pick (t 21) (t 24) (b false))])
 (.cond (t 25)
 (.ops [o 26 (.mv (t 0)),
 k 27 (.ca (.func 62) [(t 26), (i 0), (i 6)])])
 .skip))
 (.seq (.seq (.ops [o 28 (.mv (t 2)),
 k 29 (.ca (.func 83) [(t 28)]),
 o 30 (.mv (t 29)),
 og 31 30 true (.fa 0 (t 7)),
 og 32 30 true (.ld false 1 (t 31)),
 og 33 30 true (.mv (t 8)),
 og 34 30 true (.bin .eql (t 32) (t 33)),
 o 35 (.pick (t 30) (t 34) (b false)),
 o 36 (.mv (t 35)),
 og 37 36 true (.fa 2 (t 7)),
 og 38 36 true (.ld false 1 (t 37)),
 og 39 36 true (.bin .leq (t 38) (i (-1))),
 o 40 (.pick (t 36) (t 39) (b false)),
 o 41 (.mv (t 40)),
 og 42 41 true (.fa 3 (t 7)),
 og 43 41 true (.ld false 1 (t 42)),
 og 44 41 true (.bin .geq (t 43) (i (-1))),
 o 45 (.pick (t 41) (t 44) (b false))])
 (.cond (t 45)
 (.ops [o 46 (.mv (t 0)),
 k 47 (.ca (.func 62) [(t 46), (i 0), (i 4)])])
 .skip))
 (.seq (.ops [o 48 (.fa 0 (t 7)),
 o 49 (.ld false 1 (t 48)),
 o 50 (.fa 0 (t 7)),
 o 51 (.ld false 1 (t 50)),
 o 52 (.un .neg (t 51)),
 o 53 (.fa 1 (t 7)),
 o 54 (.ld false 1 (t 53)),
 o 55 (.fa 1 (t 7)),
 o 56 (.ld false 1 (t 55)),
 o 57 (.un .neg (t 56)),
 o 58 (.mx [(t 49), (t 52), (t 54), (t 57)]),
 o 10 (.mv (t 58))])
 (.seq (.seq (.ops [o 59 (.mv (t 1)),
 o 60 (.bin .eql (t 59) (i 12))])
 (.cond (t 60)
 (.ops [o 61 (.mv (t 10)),
 o 62 (.fa 2 (t 7)),
 o 63 (.ld false 1 (t 62)),
 o 64 (.fa 2 (t 7)),
 o 65 (.ld false 1 (t 64)),
 o 66 (.un .neg (t 65)),
 o 67 (.fa 3 (t 7)),
 o 68 (.ld false 1 (t 67)),
 o 69 (.fa 3 (t 7)),
 o 70 (.ld false 1 (t 69)),
 o 71 (.un .neg (t 70)),
 o 72 (.mx [(t 63), (t 66), (t 68), (t 71)]),
 o 73 (.bin .sub (t 72) (i 1)),
 o 74 (.mn [(t 61), (t 73)]),
 o 10 (.mv (t 74))])
 .skip))
 (.seq (.seq (.ops [o 75 (.mv (t 10)),
 o 76 (.bin .lss (t 75) (i 0))])
 (.cond (t 76)
 .ret
 .skip))
 (.seq (.ops [o 77 (.mv (t 8)),
 o 78 (.mv (t 10)),
 o 79 (.un .neg (t 78)),
 o 80 (.mx [(t 77), (t 79)]),
 o 81 (.mv (t 9)),
 o 82 (.mv (t 10)),
 o 83 (.mn [(t 81), (t 82)]),
 o 11 (.mv (t 80)),
 o 12 (.mv (t 83))])
 (.seq (.seq (.ops [o 84 (.fa 0 (t 7)),
 o 85 (.ld false 1 (t 84)),
 o 86 (.bin .geq (t 85) (i 0)),
 o 87 (.mv (t 86)),
 og 88 87 true (.mv (t 1)),
 og 89 87 true (.bin .eql (t 88) (i 12)),
 og 90 87 true (.mv (t 89)),
 og 91 90 false (.fa 2 (t 7)),
 og 92 90 false (.ld false 1 (t 91)),
 og 93 90 false (.bin .geq (t 92) (i 0)),
 og 94 87 true (.pick (t 90) (b true) (t 93)),
 o 95 (.pick (t 87) (t 94) (b false))])
 (.cond (t 95)
 (.ops [o 11 (.mv (i 0))])
 .skip))
 (.seq (.seq (.ops [o 96 (.fa 1 (t 7)),
 o 97 (.ld false 1 (t 96)),
 o 98 (.bin .leq (t 97) (i 0)),
 o 99 (.mv (t 98)),
 og 100 99 true (.mv (t 1)),
 og 101 99 true (.bin .eql (t 100) (i 12)),
 o 102 (.pick (t 99) (t 101) (b false))])
 (.cond (t 102)
 (.ops [o 12 (.mv (i 0))])
 .skip))
 (.ops [o 103 (.mv (t 0)),
 o 104 (.mv (t 2)),
 o 105 (.mv (t 11)),
 o 106 (.mv (t 12)),
 k 107 (.ca (.func 87) [(t 103), (t 104), (t 105), (t 106)])])))))))))))⟩
theorem e89 : slimF Tryz.prog Tryz.f89 [] = some c89 := by kernel_rfl
/-- cellar/maths.bits -/
def c90 : SF := ⟨94, [.c true 6 6], (.seq (.ops [k 4 (.bx 30 (t 1)),
 k 5 (.bx 30 (t 2)),
 k 6 (.al 30 [.int .i64 0, .bool false, .int .i64 0, .int .i64 0, .int .i64 0, .int .i64 0])])
 (.seq (.ops [o 11 (.fa 5 (t 4)),
 o 12 (.ld false 1 (t 11)),
 o 13 (.fa 5 (t 5)),
 o 14 (.ld false 1 (t 13)),
 o 15 (.bin .and (t 12) (t 14)),
 o 7 (.mv (t 15))])
 (.seq (.ops [o 16 (.fa 5 (t 4)),
 o 17 (.ld false 1 (t 16)),
 o 18 (.fa 4 (t 4)),
 o 19 (.ld false 1 (t 18)),
 o 20 (.bin .or (t 17) (t 19)),
 o 21 (.un .xor (t 20)),
 o 22 (.fa 5 (t 5)),
 o 23 (.ld false 1 (t 22)),
 o 24 (.fa 4 (t 5)),
 o 25 (.ld false 1 (t 24)),
 o 26 (.bin .or (t 23) (t 25)),
 o 27 (.un .xor (t 26)),
 o 28 (.bin .or (t 21) (t 27)),
 o 8 (.mv (t 28))])
 (.seq (.seq (.ops [o 29 (.mv (t 0))])
 (.block 0 (.seq (.ops [o 31 (.bin .eql (t 29) (i 14)),
 o 30 (.mv (t 31))])
 (.cond (t 30)
 (.opq [o 32 (.fa 5 (t 4)),
 o 33 (.ld false 1 (t 32)),
 o 34 (.fa 5 (t 5)),
 o 35 (.ld false 1 (t 34)),
 o 36 (.bin .or (t 33) (t 35)),
 o 37 (.fa 5 (t 4)),
 o 38 (.ld false 1 (t 37)),
 o 39 (.fa 4 (t 4)),
 o 40 (.ld false 1 (t 39)),
 o 41 (.bin .or (t 38) (t 40)),
 o 42 (.un .xor (t 41)),
 o 43 (.fa 5 (t 5)),
 o 44 (.ld false 1 (t 43)),
 o 45 (.fa 4 (t 5)),
 o 46 (.ld false 1 (t 45)),
 o 47 (.bin .or (t 44) (t 46)),
 o 48 (.bin .andNot (t 42) (t 47)),
 o 7 (.mv (t 36)),
 o 8 (.mv (t 48))])
 (.seq (.ops [o 50 (.bin .eql (t 29) (i 15)),
 o 49 (.mv (t 50))])
 (.cond (t 49)
 (.seq (.ops [o 51 (.fa 4 (t 4)),
 o 52 (.ld false 1 (t 51)),
 o 53 (.fa 4 (t 5)),
 o 54 (.ld false 1 (t 53)),
 o 55 (.bin .or (t 52) (t 54)),
 o 56 (.un .xor (t 55)),
 o 9 (.mv (t 56))])
 (.opq [o 57 (.fa 5 (t 4)),
 o 58 (.ld false 1 (t 57)),
 o 59 (.fa 5 (t 5)),
 o 60 (.ld false 1 (t 59)),
 o 61 (.bin .xor (t 58) (t 60)),
 o 62 (.mv (t 9)),
 o 63 (.bin .and (t 61) (t 62)),
 o 64 (.fa 5 (t 4)),
 o 65 (.ld false 1 (t 64)),
 o 66 (.fa 5 (t 5)),
 o 67 (.ld false 1 (t 66)),
 o 68 (.bin .xor (t 65) (t 67)),
 o 69 (.un .xor (t 68)),
 o 70 (.mv (t 9)),
 o 71 (.bin .and (t 69) (t 70)),
 o 7 (.mv (t 63)),
 o 8 (.mv (t 71))]))
 .skip))))))
 (.seq (.ops [o 72 (.fa 0 (t 4)),
 o 73 (.ld false 1 (t 72)),
 k 74 (.ca (.func 65) [(t 73)]),
 o 10 (.mv (t 74))])
 (.seq (.ops [o 75 (.fa 0 (t 4)),
 o 76 (.ld false 1 (t 75)),
 o 77 (.mv (t 7)),
 o 78 (.mv (t 10)),
 o 79 (.bin .and (t 77) (t 78)),
 o 80 (.mv (t 8)),
 o 81 (.un .xor (t 80)),
 o 82 (.mv (t 10)),
 o 83 (.bin .and (t 81) (t 82)),
 o 84 (.mv (t 7)),
 o 85 (.mv (t 8)),
 o 86 (.bin .or (t 84) (t 85)),
 o 87 (.un .xor (t 86)),
 o 88 (.mv (t 10)),
 o 89 (.bin .and (t 87) (t 88)),
 o 90 (.mv (t 7)),
 o 91 (.mv (t 10)),
 o 92 (.bin .and (t 90) (t 91)),
 o 93 (.bd [.int .i64 0, .bool false, .int .i64 0, .int .i64 0, .int .i64 0, .int .i64 0] [(0, 1, (t 76)), (2, 1, (t 79)), (3, 1, (t 83)), (4, 1, (t 89)), (5, 1, (t 92))]),
 kn (.st [] 6 (t 6) (t 93))])
 .ret))))))⟩
theorem e90 : slimF Tryz.prog Tryz.f90 [[(0, []), (1, []), (2, []), (3, []), (4, []), (5, []), (6, []), (7, []), (8, []), (9, []), (10, []), (11, []), (12, []), (13, []), (14, []), (15, []), (16, []), (17, []), (18, [])], [(0, []), (1, []), (2, []), (3, []), (4, []), (5, []), (6, []), (7, []), (8, []), (9, []), (10, []), (11, []), (12, []), (13, []), (14, []), (15, []), (16, [])]] = some c90 := by kernel_rfl
/-- (*cellar/maths.held).shift -/
def c91 : SF := ⟨77, [], (.seq (.ops [k 8 (.bx 30 (t 3)),
 k 9 (.bx 87 (t 4))])
 (.seq (.ops [o 15 (.mv (t 2)),
 k 16 (.ca (.func 59) [(t 15)]),
 o 10 (.mv (t 16))])
 (.seq (.seq (.ops [o 17 (.ld true 6 (t 8)),
 o 18 (.mv (t 10)),
 k 19 (.ca (.func 79) [(t 17), (t 18)]),
 o 20 (.bin .geq (t 19) (i 0))])
 (.cond (t 20)
 (.ops [o 21 (.mv (t 0)),
 k 22 (.ca (.func 62) [(t 21), (i 0), (i 5)])])
 .skip))
 (.seq (.opd [o 23 (.ld true 6 (t 8)),
 o 25 (.ld true 6 (t 8)),
 o 26 (.mv (t 10)),
 o 27 (.bin .sub (t 26) (i 1)),
 k 24 (.ca (.func 79) [(t 23), (i 0)]),
 k 28 (.ca (.func 84) [(t 25), (t 27)]),
 o 11 (.mv (t 24)),
 o 12 (.mv (t 28))])
 (.seq (.seq (.ops [o 29 (.mv (t 12)),
 o 30 (.bin .lss (t 29) (i 0))])
 (.cond (t 30)
 .ret
 .skip))
 (.seq (.ops [o 31 (.mv (t 11)),
 o 32 (.mv (t 12)),
 o 33 (.fa 2 (t 9)),
 kn (.st [] 1 (t 33) (t 31)),
 o 34 (.fa 3 (t 9)),
 kn (.st [] 1 (t 34) (t 32))])
 (.seq (.seq (.ops [o 35 (.mv (t 1)),
 o 36 (.bin .eql (t 35) (i 17))])
 (.cond (t 36)
 (.seq (.ops [o 38 (.ld true 4 (t 9)),
 k 39 (.ca (.func 105) [(t 38), (.func 107)]),
 o 37 (.mv (t 39)),
 o 40 (.ex (t 37) 0),
 o 41 (.ex (t 37) 1),
 o 13 (.mv (t 40)),
 o 14 (.mv (t 41))])
 (.seq (.ops [o 42 (.mv (t 0)),
 o 43 (.mv (t 2)),
 o 44 (.mv (t 13)),
 o 45 (.mv (t 14)),
 k 46 (.ca (.func 87) [(t 42), (t 43), (t 44), (t 45)])])
 .ret))
 .skip))
 (.seq (.ops [o 47 (.mv (t 0)),
 o 48 (.mv (t 10)),
 k 49 (.ca (.func 66) [(t 48)]),
 o 50 (.nc (t 47)),
 o 51 (.fa 0 (t 50)),
 kn (.st [] 6 (t 51) (t 49))])
 (.seq (.opd [o 52 (.fa 0 (t 9)),
 o 53 (.ld false 1 (t 52)),
 o 54 (.bin .geq (t 53) (i 0)),
 o 55 (.mv (t 54)),
 og 56 55 true (.fa 1 (t 9)),
 og 57 55 true (.ld false 1 (t 56)),
 og 58 55 true (.mv (t 12)),
 og 59 55 true (.bin .shl (t 57) (t 58)),
 og 60 55 true (.mv (t 10)),
 ⟨some 61, some (55, true), .ca (.func 65) [(t 60)]⟩,
 og 62 55 true (.bin .leq (t 59) (t 61)),
 o 63 (.pick (t 55) (t 62) (b false))])
 (.cond (t 63)
 (.opq [o 64 (.mv (t 0)),
 o 65 (.mv (t 10)),
 o 66 (.fa 0 (t 9)),
 o 67 (.ld false 1 (t 66)),
 o 68 (.mv (t 11)),
 o 69 (.bin .shl (t 67) (t 68)),
 o 70 (.fa 1 (t 9)),
 o 71 (.ld false 1 (t 70)),
 o 72 (.mv (t 12)),
 o 73 (.bin .shl (t 71) (t 72)),
 k 74 (.ca (.func 67) [(t 65), (t 69), (t 73)]),
 o 75 (.nc (t 64)),
 o 76 (.fa 0 (t 75)),
 kn (.st [] 6 (t 76) (t 74))])
 .skip))))))))))⟩
theorem e91 : slimF Tryz.prog Tryz.f91 [[(0, []), (2, []), (3, []), (4, []), (1, []), (5, []), (6, []), (7, [])], [(0, []), (1, []), (2, []), (3, []), (4, []), (5, []), (6, []), (7, []), (8, []), (9, []), (10, []), (11, [])], [(0, []), (1, []), (2, []), (3, []), (4, []), (5, []), (6, []), (7, []), (8, []), (9, []), (10, []), (11, []), (12, []), (13, [])]] = some c91 := by kernel_rfl
/-- (*cellar/maths.held).compare -/
def c92 : SF := ⟨35, [], (.seq (.ops [k 7 (.bx 30 (t 2)),
 k 8 (.bx 30 (t 3)),
 k 9 (.bx 87 (t 4))])
 (.seq (.opq [o 12 (.fa 0 (t 9)),
 o 13 (.ld false 1 (t 12)),
 o 14 (.fa 3 (t 9)),
 o 15 (.ld false 1 (t 14)),
 o 16 (.bin .lss (t 13) (t 15)),
 o 17 (.fa 1 (t 9)),
 o 18 (.ld false 1 (t 17)),
 o 19 (.fa 2 (t 9)),
 o 20 (.ld false 1 (t 19)),
 o 21 (.bin .geq (t 18) (t 20)),
 o 10 (.mv (t 16)),
 o 11 (.mv (t 21))])
 (.seq (.seq (.ops [o 22 (.mv (t 1)),
 o 23 (.bin .eql (t 22) (i 18))])
 (.cond (t 23)
 (.ops [o 24 (.ld true 6 (t 7)),
 o 25 (.ld true 6 (t 8)),
 k 26 (.ca (.func 108) [(t 24), (t 25)]),
 k 27 (.ca (.func 72) [(t 26)]),
 o 28 (.un .not (t 27)),
 o 10 (.mv (t 28)),
 o 11 (.mv (b true))])
 .skip))
 (.seq (.seq (.ops [o 29 (.mv (t 10))])
 (.cond (t 29)
 (.ops [o 30 (.mv (t 0)),
 k 31 (.ca (.func 62) [(t 30), (i 1), (i 0)])])
 .skip))
 (.seq (.ops [o 32 (.mv (t 11))])
 (.cond (t 32)
 (.ops [o 33 (.mv (t 0)),
 k 34 (.ca (.func 62) [(t 33), (i 0), (i 0)])])
 .skip))))))⟩
theorem e92 : slimF Tryz.prog Tryz.f92 [[(0, []), (1, []), (2, []), (3, []), (4, []), (5, []), (6, []), (7, []), (8, []), (9, []), (10, []), (11, [])]] = some c92 := by kernel_rfl
/-- (*cellar/maths.held).times$1 -/
def c106 : SF := ⟨8, [.t 4], (.seq (.ops [o 4 (.mv (i 0))])
 (.seq (.ops [o 5 (.mv (t 0)),
 o 6 (.mv (t 1)),
 o 7 (.bin .mul (t 5) (t 6)),
 o 4 (.mv (t 7))])
 .ret))⟩
theorem e106 : slimF Tryz.prog Tryz.f106 [] = some c106 := by kernel_rfl
/-- (*cellar/maths.held).shift$1 -/
def c107 : SF := ⟨8, [.t 4], (.seq (.ops [o 4 (.mv (i 0))])
 (.seq (.ops [o 5 (.mv (t 0)),
 o 6 (.mv (t 1)),
 o 7 (.bin .shr (t 5) (t 6)),
 o 4 (.mv (t 7))])
 .ret))⟩
theorem e107 : slimF Tryz.prog Tryz.f107 [] = some c107 := by kernel_rfl
end Go.Proofs.Tryz.S
/- Contracts: what is found of sets' operators, noted and told. -/
namespace Go.Proofs.Tryz.K
open Go Go.Ax Go.Proofs.Tryz.S
set_option maxRecDepth 100000
set_option linter.unusedSimpArgs false
set_option linter.unusedVariables false
set_option maxHeartbeats 2000000
variable (F : Fz) (M : Hp)

/-- What was found so far lies in a block of the call's own. -/
structure Held (F : Fz) (M0 M : Hp) (r : Nat) (z : V) (u : Value) (l : List Int) : Prop where
  blk : M r = some ⟨abCs z u, 77, 7⟩
  row : MineG 1 intC 3 F M0 M u l
  r0 : M0 r = none
  kp : Keep M0 M
  old : Old F M
/-- Whatever else there was stays. -/
def Rest (M M' : Hp) (r : Nat) : Prop := ∀ b x, M b = some x → ¬ b = r → ¬ x.elem = 3 → M' b = some x
theorem Rest.refl (M : Hp) (r : Nat) : Rest M M r := fun _ _ h _ _ => h
theorem Rest.trans {A B C : Hp} {r : Nat} (h : Rest A B r) (k : Rest B C r) : Rest A C r := fun b x hb h1 h2 => k b x (h b x hb h1 h2) h1 h2
theorem Rest.fresh {M M' : Hp} {r q : Nat} {e : Ent} (hq : M q = none) (h : Rest (M.upd q e) M' r) : Rest M M' r := fun b x hb h1 h2 => by
  refine h b x ?_ h1 h2
  rw [Hp.upd_ne' (ne_of_none hq hb).1]; exact hb
theorem Held.fresh {F : Fz} {M0 M : Hp} {r : Nat} {z : V} {u : Value} {l : List Int} (h : Held F M0 M r z u l) {q : Nat} {e : Ent} (hF : F q = none) (hM : M q = none) : Held F M0 (M.upd q e) r z u l :=
  ⟨by rw [Hp.upd_ne' (ne_of_none hM h.blk).1]; exact h.blk, h.row.fresh hM, h.r0, h.kp.new (h.kp.free hM), h.old.upd hF⟩
theorem Held.set {F : Fz} {M0 M : Hp} {r : Nat} {z : V} {u : Value} {l : List Int} (h : Held F M0 M r z u l) (z' : V) : Held F M0 (M.upd r ⟨abCs z' u, 77, 7⟩) r z' u l ∧ Rest M (M.upd r ⟨abCs z' u, 77, 7⟩) r := by
  have fr : ∀ b x, M b = some x → ¬ b = r → (M.upd r ⟨abCs z' u, 77, 7⟩) b = some x := fun b x hb h1 => by rw [Hp.upd_ne' h1]; exact hb
  refine ⟨⟨Hp.upd_same _ _ _, ⟨h.row.own.frame (e' := 77) (fun b x hb hx => fr b x hb ?_) (by decide), h.row.new⟩, h.r0, h.kp.new h.r0, h.old.upd (h.old.free h.blk)⟩, fun b x hb h1 _ => fr b x hb h1⟩
  rintro rfl
  rw [h.blk] at hb
  cases hb
  exact hx rfl
theorem heldMk {F : Fz} {M0 M : Hp} {r : Nat} {z z' : V} {u u' : Value} {l : List Int} (hb : M r = some ⟨abCs z u, 77, 7⟩) (row : MineG 1 intC 3 F M0 M u' l) (r0 : M0 r = none) (kp : Keep M0 M) (old : Old F M) :
    Held F M0 (M.upd r ⟨abCs z' u', 77, 7⟩) r z' u' l ∧ Rest M (M.upd r ⟨abCs z' u', 77, 7⟩) r := by
  have fr : ∀ b x, M b = some x → ¬ b = r → (M.upd r ⟨abCs z' u', 77, 7⟩) b = some x := fun b x hb h1 => by rw [Hp.upd_ne' h1]; exact hb
  refine ⟨⟨Hp.upd_same _ _ _, ⟨row.own.frame (e' := 77) (fun b x hbx hx => fr b x hbx ?_) (by decide), row.new⟩, r0, kp.new r0, old.upd (old.free hb)⟩, fun b x hb h1 _ => fr b x hb h1⟩
  rintro rfl
  rw [hb] at hbx
  cases hbx
  exact hx rfl
theorem Held.shape {F : Fz} {M0 M : Hp} {r : Nat} {z : V} {u : Value} {l : List Int} (h : Held F M0 M r z u l) : ∃ a c, u = .slice a l.length c := h.row.shape
theorem Held.rd {F : Fz} {M0 M : Hp} {r : Nat} {z : V} {u : Value} {l : List Int} (h : Held F M0 M r z u l) (hl : l.length ≤ 1000) : RdG 1 intC F M u l := h.row.own.rd intC_len (by omega)
def addP (M0 : Hp) (r : Nat) (z : V) (l : List Int) (n bad : Int) (F : Fz) (M : Hp) (_ : Value) (F' : Fz) (M' : Hp) : Prop :=
  F' = F ∧ ∃ z' u' l', Held F M0 M' r z' u' l' ∧ Rest M M' r ∧ ((bad = 0 ∧ l' = l ∧ BothR z (V.just z.w n) z') ∨ (bad ≠ 0 ∧ z' = z ∧ l' = addB l bad))
theorem k62 (M0 : Hp) (r : Nat) (z : V) (u : Value) (l : List Int) (n bad : Int) (h : Held F M0 M r z u l) (hz : z.ok = true) (hn : bad = 0 → isN n z.w = true) (hl : l.length ≤ 1000) :
    CallsA Tryz.prog 62 [.pointer (some ⟨r, 0, none⟩), .int .i64 n, .int .i64 bad] F M (addP M0 r z l n bad F M) := by
  refine callsA_of hm Tryz.func62 e62 (Nat.le_of_ble_eq_true rfl) ?_
  have hb := h.blk
  have bk := blk_M (F := F) hb
  have hw := (ok_in hz).w
  by_cases h0 : bad = 0
  · subst h0
    have hj := just_ok hw (hn rfl)
    simp only [c62, go_sem, reduceCtorEq, reduceIte, Nat.reduceEqDiff, Nat.reduceAdd, Nat.reduceLeDiff, Nat.reduceMul, Int.reduceLT, Int.reduceLE, Int.reduceAdd, Int.reduceSub, Int.reduceMul, Int.reduceNeg, Int.reduceToNat, Int.reduceEq, bk]
    refine callK_same (k76 F M _ n) ?_
    simp only [go_sem, reduceCtorEq, reduceIte, Nat.reduceEqDiff, Nat.reduceAdd, Nat.reduceLeDiff, Nat.reduceMul, Int.reduceLT, Int.reduceLE, Int.reduceAdd, Int.reduceSub, Int.reduceMul, Int.reduceNeg, Int.reduceToNat, Int.reduceEq, bk]
    refine callK_of (k80 F M z (V.just z.w n) hz hj rfl) ?_
    rintro w G M' ⟨hG, rfl, z', rfl, hbo⟩
    rw [hG]
    refine ⟨fun _ => Le.refl _ _, ?_⟩
    simp only [go_sem, reduceCtorEq, reduceIte, Nat.reduceEqDiff, Nat.reduceAdd, Nat.reduceLeDiff, Nat.reduceMul, Int.reduceLT, Int.reduceLE, Int.reduceAdd, Int.reduceSub, Int.reduceMul, Int.reduceNeg, Int.reduceToNat, Int.reduceEq, hb]
    simp only [setH, go_sem, reduceCtorEq, reduceIte, Nat.reduceEqDiff, Nat.reduceAdd, Nat.reduceLeDiff, Nat.reduceMul, Int.reduceLT, Int.reduceLE, Int.reduceAdd, Int.reduceSub, Int.reduceMul, Int.reduceNeg, Int.reduceToNat, Int.reduceEq]
    obtain ⟨hh, hr⟩ := h.set z'
    exact endK_same ⟨rfl, z', u, l, hh, hr, .inl ⟨rfl, rfl, hbo⟩⟩
  · simp only [c62, go_sem, reduceCtorEq, reduceIte, Nat.reduceEqDiff, Nat.reduceAdd, Nat.reduceLeDiff, Nat.reduceMul, Int.reduceLT, Int.reduceLE, Int.reduceAdd, Int.reduceSub, Int.reduceMul, Int.reduceNeg, Int.reduceToNat, Int.reduceEq, bk, h0]
    refine callK_same (k81 F M u l bad (h.rd hl)) ?_
    by_cases hc : bad ∈ l
    · simp only [go_sem, reduceCtorEq, reduceIte, Nat.reduceEqDiff, Nat.reduceAdd, Nat.reduceLeDiff, Nat.reduceMul, Int.reduceLT, Int.reduceLE, Int.reduceAdd, Int.reduceSub, Int.reduceMul, Int.reduceNeg, Int.reduceToNat, Int.reduceEq, hc]
      exact endK_same ⟨rfl, z, u, l, h, Rest.refl _ _, .inr ⟨h0, rfl, by unfold addB; rw [if_pos hc]⟩⟩
    · simp only [go_sem, reduceCtorEq, reduceIte, Nat.reduceEqDiff, Nat.reduceAdd, Nat.reduceLeDiff, Nat.reduceMul, Int.reduceLT, Int.reduceLE, Int.reduceAdd, Int.reduceSub, Int.reduceMul, Int.reduceNeg, Int.reduceToNat, Int.reduceEq, hc, bk]
      intro rb hFb hMb
      have gb := ne_of_none hMb hb
      simp only [go_sem, reduceCtorEq, reduceIte, Nat.reduceEqDiff, Nat.reduceAdd, Nat.reduceLeDiff, Nat.reduceMul, Int.reduceLT, Int.reduceLE, Int.reduceAdd, Int.reduceSub, Int.reduceMul, Int.reduceNeg, Int.reduceToNat, Int.reduceEq, gb, bk]
      refine apMG_of (M0 := M0) (xs := l) (ys := [bad]) intC_len intC_plain (by decide) (h.row.fresh hMb) (h.kp.new (h.kp.free hMb)) ⟨rfl, .inr ⟨⟨rb, 0, none⟩, 1, rfl, .inr ⟨rb, 0, _, rfl, blk_upd_same, by simp [intC, intV]⟩⟩⟩ (by simp) (by simp; omega) ?_
      rintro v' M5 ⟨g5, c5, rfl⟩ hfr kp5 ho5 mine5
      have hb5 : M5 r = some ⟨abCs z u, 77, 7⟩ := hfr _ _ (by rw [Hp.upd_ne' gb.1]; exact hb) (fun h => by cases h)
      simp only [go_sem, reduceCtorEq, reduceIte, Nat.reduceEqDiff, Nat.reduceAdd, Nat.reduceLeDiff, Nat.reduceMul, Int.reduceLT, Int.reduceLE, Int.reduceAdd, Int.reduceSub, Int.reduceMul, Int.reduceNeg, Int.reduceToNat, Int.reduceEq, hb5]
      simp only [setH, go_sem, reduceCtorEq, reduceIte, Nat.reduceEqDiff, Nat.reduceAdd, Nat.reduceLeDiff, Nat.reduceMul, Int.reduceLT, Int.reduceLE, Int.reduceAdd, Int.reduceSub, Int.reduceMul, Int.reduceNeg, Int.reduceToNat, Int.reduceEq]
      obtain ⟨hh, hr⟩ := heldMk (z' := z) hb5 mine5 h.r0 kp5 (ho5 (h.old.upd hFb))
      have el : (l ++ [bad]).length = l.length + 1 := by simp
      rw [el] at hh hr
      have ab : addB l bad = l ++ [bad] := by unfold addB; rw [if_neg hc]
      exact endK_same ⟨rfl, z, _, l ++ [bad], hh, fun b x hbx h1 h2 => hr b x (hfr b x (by rw [Hp.upd_ne' (ne_of_none hMb hbx).1]; exact hbx) h2) h1 h2, .inr ⟨h0, rfl, ab.symm⟩⟩
theorem Held.other {F : Fz} {M0 M : Hp} {r : Nat} {z : V} {u : Value} {l : List Int} (h : Held F M0 M r z u l) {q : Nat} {e x : Ent} (hq : M q = some x) (hx : ¬ x.elem = 3) (hne : ¬ q = r) (q0 : M0 q = none) : Held F M0 (M.upd q e) r z u l := by
  refine ⟨by rw [Hp.upd_ne' (fun e => hne e.symm)]; exact h.blk, ⟨h.row.own.frame (e' := x.elem) (fun b y hb hy => ?_) (fun e => hx e.symm), h.row.new⟩, h.r0, h.kp.new q0, h.old.upd (h.old.free hq)⟩
  rw [Hp.upd_ne']
  · exact hb
  · rintro rfl
    rw [hq] at hb
    cases hb
    exact hy rfl
/-- The classes are put in order. -/
theorem Held.sorted {F : Fz} {M0 M : Hp} {r : Nat} {z : V} {u : Value} {l : List Int} (h : Held F M0 M r z u l) {w : Value} {F' : Fz} {M' : Hp} (hs : sortP u l F M w F' M') :
    F' = F ∧ ∃ l', Held F M0 M' r z u l' ∧ Rest M M' r ∧ l'.Perm l ∧ (l.Nodup → l'.Pairwise (· < ·)) := by
  obtain ⟨hF, hs⟩ := hs
  refine ⟨hF, ?_⟩
  rcases hs with ⟨h1, rfl⟩ | ⟨g, cap, x, y, n, rfl, rfl, hg, rfl⟩
  · refine ⟨l, h, Rest.refl _ _, List.Perm.refl _, fun _ => ?_⟩
    match l, h1 with
    | [], _ => simp
    | [a], _ => simp
    | _ :: _ :: _, h1 => simp at h1
  · have hne : ¬ r = g := by
      rintro rfl
      have := h.blk
      rw [hg] at this
      cases this
    have g0 := h.row.new _ _ _ rfl
    rcases h.row.own with ⟨e, _⟩ | ⟨g', cap', e, hF', hM', hc1, hc2⟩
    · cases e
    cases e
    rw [hg] at hM'
    have en : n = cap * 1 := by injection hM' with hM'; injection hM'
    have hlen : (srt x y).length = 2 := by unfold srt; split <;> rfl
    refine ⟨srt x y, ⟨by rw [Hp.upd_ne' hne]; exact h.blk, ⟨.inr ⟨g, cap, by rw [hlen], hF', by rw [en]; exact Hp.upd_same _ _ _, by rw [hlen]; exact hc1, hc2⟩, h.row.new⟩, h.r0, h.kp.new g0, h.old.upd hF'⟩, fun b e hb _ h2 => ?_, srt_perm x y, fun hn => srt_rise hn⟩
    rw [Hp.upd_ne']
    · exact hb
    · rintro rfl
      rw [hg] at hb
      cases hb
      exact h2 rfl
def toldP (M0 : Hp) (r : Nat) (z : V) (l : List Int) (F : Fz) (M : Hp) (v : Value) (F' : Fz) (M' : Hp) : Prop :=
  F' = F ∧ ∃ u' l', v = .tuple #[z.val, u'] ∧ Held F M0 M' r z u' l' ∧ Rest M M' r ∧ l'.Perm l ∧ (l.Nodup → l'.Pairwise (· < ·))
theorem k73 (M0 : Hp) (r : Nat) (z : V) (u : Value) (l : List Int) (h : Held F M0 M r z u l) (hl : l.length ≤ 2) :
    CallsA Tryz.prog 73 [.pointer (some ⟨r, 0, none⟩)] F M (toldP M0 r z l F M) := by
  refine callsA_of hm Tryz.func73 e73 (Nat.le_of_ble_eq_true rfl) ?_
  simp only [c73, go_sem, reduceCtorEq, reduceIte, Nat.reduceEqDiff, Nat.reduceAdd, Nat.reduceLeDiff, Nat.reduceMul, Int.reduceLT, Int.reduceLE, Int.reduceAdd, Int.reduceSub, Int.reduceMul, Int.reduceNeg, Int.reduceToNat, Int.reduceEq]
  intro r2 hF2 hM2
  have h1 := h.fresh (e := ⟨[.int .i64 0, .bool false, .int .i64 0, .int .i64 0, .int .i64 0, .int .i64 0], 30, 6⟩) hF2 hM2
  have g2 := ne_of_none hM2 h.blk
  have bk := blk_M (F := F) h1.blk
  have q0 : M0 r2 = none := h.kp.free hM2
  have f2 : (M.upd r2 ⟨[.int .i64 0, .bool false, .int .i64 0, .int .i64 0, .int .i64 0, .int .i64 0], 30, 6⟩) r2 = some ⟨[.int .i64 0, .bool false, .int .i64 0, .int .i64 0, .int .i64 0, .int .i64 0], 30, 6⟩ := Hp.upd_same _ _ _
  have fr : ∀ b x, M b = some x → (M.upd r2 ⟨[.int .i64 0, .bool false, .int .i64 0, .int .i64 0, .int .i64 0, .int .i64 0], 30, 6⟩) b = some x := fun b x hb => by rw [Hp.upd_ne' (ne_of_none hM2 hb).1]; exact hb
  simp only [go_sem, reduceCtorEq, reduceIte, Nat.reduceEqDiff, Nat.reduceAdd, Nat.reduceLeDiff, Nat.reduceMul, Int.reduceLT, Int.reduceLE, Int.reduceAdd, Int.reduceSub, Int.reduceMul, Int.reduceNeg, Int.reduceToNat, Int.reduceEq]
  generalize M.upd r2 ⟨[.int .i64 0, .bool false, .int .i64 0, .int .i64 0, .int .i64 0, .int .i64 0], 30, 6⟩ = M1 at *
  simp only [go_sem, reduceCtorEq, reduceIte, Nat.reduceEqDiff, Nat.reduceAdd, Nat.reduceLeDiff, Nat.reduceMul, Int.reduceLT, Int.reduceLE, Int.reduceAdd, Int.reduceSub, Int.reduceMul, Int.reduceNeg, Int.reduceToNat, Int.reduceEq, bk]
  refine callK_of (k86 F M1 u l h1.row.own hl) ?_
  rintro w G M2 hs
  obtain ⟨hG, l', h2, hr, hp, hri⟩ := h1.sorted hs
  rw [hG]
  refine ⟨(fun h => by cases h), ?_⟩
  have bk2 := blk_M (F := F) h2.blk
  have f22 := hr _ _ f2 g2.2 (by decide)
  simp only [go_sem, reduceCtorEq, reduceIte, Nat.reduceEqDiff, Nat.reduceAdd, Nat.reduceLeDiff, Nat.reduceMul, Int.reduceLT, Int.reduceLE, Int.reduceAdd, Int.reduceSub, Int.reduceMul, Int.reduceNeg, Int.reduceToNat, Int.reduceEq, bk2, f22, g2]
  simp only [setH, go_sem, reduceCtorEq, reduceIte, Nat.reduceEqDiff, Nat.reduceAdd, Nat.reduceLeDiff, Nat.reduceMul, Int.reduceLT, Int.reduceLE, Int.reduceAdd, Int.reduceSub, Int.reduceMul, Int.reduceNeg, Int.reduceToNat, Int.reduceEq]
  exact endK_same ⟨rfl, u, l', rfl, h2.other f22 (by decide) g2.2 q0, fun b x hb h3 h4 => by
    rw [Hp.upd_ne' (ne_of_none hM2 hb).1]
    exact hr _ _ (fr b x hb) h3 h4, hp, hri⟩
/-- Behind the question whether a row is too great. -/
structure SpC (k low high : Int) (F0 : Fz) (M0 M1 : Hp) (r : Nat) (z : V) (l : List Int) (σ : Env) (F : Fz) (M : Hp) : Prop where
  ff : F = F0
  held : ∃ u, Held F0 M0 M r z u (if sgn k = true ∧ (low < leastK k ∨ mostK k < high) then addB l 4 else l)
  rest : Rest M1 M r
  h0 : Ax.look σ 0 = some (.pointer (some ⟨r, 0, none⟩))
  h1 : Ax.look σ 1 = some (.int .i64 k)
  h2 : Ax.look σ 2 = some (.int .i64 (lowS k low))
  h3 : Ax.look σ 3 = some (.int .i64 (highS k high))
  h8 : Ax.look σ 8 = some (.int .i64 (ofW k))
def spanP (M0 : Hp) (r : Nat) (k low high : Int) (z : V) (l : List Int) (F : Fz) (M : Hp) (_ : Value) (F' : Fz) (M' : Hp) : Prop :=
  F' = F ∧ ∃ z' u' l', Held F M0 M' r z' u' l' ∧ Rest M M' r ∧ SpanR k low high z l z' l'
theorem k87 (M0 : Hp) (r : Nat) (k low high : Int) (z : V) (u : Value) (l : List Int) (h : Held F M0 M r z u l) (hk : isK k = true) (hz : z.ok = true) (hzw : z.w = ofW k) (hl : l.length ≤ 1000) (hd : high - low ≤ 9223372036854775807) :
    CallsA Tryz.prog 87 [.pointer (some ⟨r, 0, none⟩), .int .i64 k, .int .i64 low, .int .i64 high] F M (spanP M0 r k low high z l F M) := by
  refine callsA_of hm Tryz.func87 e87 (Nat.le_of_ble_eq_true rfl) ?_
  have hW := ofW_isW k
  have lw := isW_le hW
  have kd := kinds hk
  have ml := mx_le low (leastK k)
  have mh := mn2_le high (mostK k)
  simp only [c87]
  rw [Go.Ax.seq_assoc, Go.Ax.seq_assoc]
  refine cut (SpC k low high F M0 M r z l) ?_ ?_
  · simp only [go_sem, reduceCtorEq, reduceIte, Nat.reduceEqDiff, Nat.reduceAdd, Nat.reduceLeDiff, Nat.reduceMul, Int.reduceLT, Int.reduceLE, Int.reduceAdd, Int.reduceSub, Int.reduceMul, Int.reduceNeg, Int.reduceToNat, Int.reduceEq]
    refine callK_same (k59 F _ k hk) ?_
    simp only [go_sem, reduceCtorEq, reduceIte, Nat.reduceEqDiff, Nat.reduceAdd, Nat.reduceLeDiff, Nat.reduceMul, Int.reduceLT, Int.reduceLE, Int.reduceAdd, Int.reduceSub, Int.reduceMul, Int.reduceNeg, Int.reduceToNat, Int.reduceEq]
    refine callK_same (k104 F _ k hk) ?_
    simp only [go_sem, reduceCtorEq, reduceIte, Nat.reduceEqDiff, Nat.reduceAdd, Nat.reduceLeDiff, Nat.reduceMul, Int.reduceLT, Int.reduceLE, Int.reduceAdd, Int.reduceSub, Int.reduceMul, Int.reduceNeg, Int.reduceToNat, Int.reduceEq]
    refine callK_same (k83 F _ k) ?_
    by_cases hc : sgn k = true ∧ (low < leastK k ∨ mostK k < high)
    · have key : ∀ {Q : Prop}, (low < leastK k → Q) → (¬ low < leastK k → mostK k < high → Q) → Q := fun h1 h2 => by
        by_cases h : low < leastK k
        · exact h1 h
        · exact h2 h (by rcases hc.2 with h' | h'; exact absurd h' h; exact h')
      have e1 : lowS k low = mx low (leastK k) := by
        unfold lowS mx
        by_cases h : low < leastK k
        · rw [if_pos ⟨hc.1, h⟩, if_pos (by omega)]
        · rw [if_neg (fun h' => h h'.2), if_neg (by omega)]
      have e2 : highS k high = mn2 high (mostK k) := by
        unfold highS mn2
        by_cases h : mostK k < high
        · rw [if_pos ⟨hc.1, h⟩, if_pos (by omega)]
        · rw [if_neg (fun h' => h h'.2), if_neg (by omega)]
      have fin : ∀ {σ : Env} {u' : Value} {l' : List Int} {M' : Hp} {z' : V}, Held F M0 M' r z' u' l' → Rest M M' r → ((4 : Int) = 0 ∧ l' = l ∧ BothR z (V.just z.w 0) z' ∨ (4 : Int) ≠ 0 ∧ z' = z ∧ l' = addB l 4) → Ax.look σ 0 = some (.pointer (some ⟨r, 0, none⟩)) → Ax.look σ 1 = some (.int .i64 k) → Ax.look σ 2 = some (.int .i64 (mx low (leastK k))) → Ax.look σ 3 = some (.int .i64 (mn2 high (mostK k))) → Ax.look σ 8 = some (.int .i64 (ofW k)) → SpC k low high F M0 M r z l σ F M' := by
        intro σ u' l' M' z' hh hr hx q0 q1 q2 q3 q8
        rcases hx with ⟨h4, _⟩ | ⟨_, rfl, rfl⟩
        · cases h4
        · exact ⟨rfl, ⟨u', by rw [if_pos hc]; exact hh⟩, hr, q0, q1, by rw [e1]; exact q2, by rw [e2]; exact q3, q8⟩
      refine key (fun hlo => ?_) (fun hlo hhi => ?_)
      · simp only [go_sem, reduceCtorEq, reduceIte, Nat.reduceEqDiff, Nat.reduceAdd, Nat.reduceLeDiff, Nat.reduceMul, Int.reduceLT, Int.reduceLE, Int.reduceAdd, Int.reduceSub, Int.reduceMul, Int.reduceNeg, Int.reduceToNat, Int.reduceEq, hc.1, hlo]
        refine callK_of (k62 F M M0 r z u l 0 4 h hz (fun h => by cases h) hl) ?_
        rintro w G M2 ⟨hG, z', u', l', hh, hr, hx⟩
        rw [hG]
        refine ⟨(fun h => by cases h), ?_⟩
        simp only [go_sem, reduceCtorEq, reduceIte, Nat.reduceEqDiff, Nat.reduceAdd, Nat.reduceLeDiff, Nat.reduceMul, Int.reduceLT, Int.reduceLE, Int.reduceAdd, Int.reduceSub, Int.reduceMul, Int.reduceNeg, Int.reduceToNat, Int.reduceEq, maxV, minV]
        exact fin hh hr hx (by simp only [go_sem, reduceCtorEq, reduceIte, Nat.reduceEqDiff]) (by simp only [go_sem, reduceCtorEq, reduceIte, Nat.reduceEqDiff]) (by simp only [go_sem, reduceCtorEq, reduceIte, Nat.reduceEqDiff]; rfl) (by simp only [go_sem, reduceCtorEq, reduceIte, Nat.reduceEqDiff]; rfl) (by simp only [go_sem, reduceCtorEq, reduceIte, Nat.reduceEqDiff])
      · simp only [go_sem, reduceCtorEq, reduceIte, Nat.reduceEqDiff, Nat.reduceAdd, Nat.reduceLeDiff, Nat.reduceMul, Int.reduceLT, Int.reduceLE, Int.reduceAdd, Int.reduceSub, Int.reduceMul, Int.reduceNeg, Int.reduceToNat, Int.reduceEq, hc.1, hlo, hhi]
        refine callK_of (k62 F M M0 r z u l 0 4 h hz (fun h => by cases h) hl) ?_
        rintro w G M2 ⟨hG, z', u', l', hh, hr, hx⟩
        rw [hG]
        refine ⟨(fun h => by cases h), ?_⟩
        simp only [go_sem, reduceCtorEq, reduceIte, Nat.reduceEqDiff, Nat.reduceAdd, Nat.reduceLeDiff, Nat.reduceMul, Int.reduceLT, Int.reduceLE, Int.reduceAdd, Int.reduceSub, Int.reduceMul, Int.reduceNeg, Int.reduceToNat, Int.reduceEq, maxV, minV]
        exact fin hh hr hx (by simp only [go_sem, reduceCtorEq, reduceIte, Nat.reduceEqDiff]) (by simp only [go_sem, reduceCtorEq, reduceIte, Nat.reduceEqDiff]) (by simp only [go_sem, reduceCtorEq, reduceIte, Nat.reduceEqDiff]; rfl) (by simp only [go_sem, reduceCtorEq, reduceIte, Nat.reduceEqDiff]; rfl) (by simp only [go_sem, reduceCtorEq, reduceIte, Nat.reduceEqDiff])
    · have e1 : lowS k low = low := by unfold lowS; rw [if_neg (fun h' => hc ⟨h'.1, .inl h'.2⟩)]
      have e2 : highS k high = high := by unfold highS; rw [if_neg (fun h' => hc ⟨h'.1, .inr h'.2⟩)]
      have fin : ∀ {σ : Env}, Ax.look σ 0 = some (.pointer (some ⟨r, 0, none⟩)) → Ax.look σ 1 = some (.int .i64 k) → Ax.look σ 2 = some (.int .i64 low) → Ax.look σ 3 = some (.int .i64 high) → Ax.look σ 8 = some (.int .i64 (ofW k)) → SpC k low high F M0 M r z l σ F M := fun q0 q1 q2 q3 q8 =>
        ⟨rfl, ⟨u, by rw [if_neg hc]; exact h⟩, Rest.refl _ _, q0, q1, by rw [e1]; exact q2, by rw [e2]; exact q3, q8⟩
      cases hs : sgn k
      · simp only [go_sem, reduceCtorEq, reduceIte, Nat.reduceEqDiff, Nat.reduceAdd, Nat.reduceLeDiff, Nat.reduceMul, Int.reduceLT, Int.reduceLE, Int.reduceAdd, Int.reduceSub, Int.reduceMul, Int.reduceNeg, Int.reduceToNat, Int.reduceEq]
        exact fin (by simp only [go_sem, reduceCtorEq, reduceIte, Nat.reduceEqDiff]) (by simp only [go_sem, reduceCtorEq, reduceIte, Nat.reduceEqDiff]) (by simp only [go_sem, reduceCtorEq, reduceIte, Nat.reduceEqDiff]) (by simp only [go_sem, reduceCtorEq, reduceIte, Nat.reduceEqDiff]) (by simp only [go_sem, reduceCtorEq, reduceIte, Nat.reduceEqDiff])
      · have h1 : ¬ low < leastK k := fun h => hc ⟨hs, .inl h⟩
        have h2 : ¬ mostK k < high := fun h => hc ⟨hs, .inr h⟩
        simp only [go_sem, reduceCtorEq, reduceIte, Nat.reduceEqDiff, Nat.reduceAdd, Nat.reduceLeDiff, Nat.reduceMul, Int.reduceLT, Int.reduceLE, Int.reduceAdd, Int.reduceSub, Int.reduceMul, Int.reduceNeg, Int.reduceToNat, Int.reduceEq, h1, h2]
        exact fin (by simp only [go_sem, reduceCtorEq, reduceIte, Nat.reduceEqDiff]) (by simp only [go_sem, reduceCtorEq, reduceIte, Nat.reduceEqDiff]) (by simp only [go_sem, reduceCtorEq, reduceIte, Nat.reduceEqDiff]) (by simp only [go_sem, reduceCtorEq, reduceIte, Nat.reduceEqDiff]) (by simp only [go_sem, reduceCtorEq, reduceIte, Nat.reduceEqDiff])
  rintro σ F' M' s
  obtain rfl := s.ff
  obtain ⟨u, hh⟩ := s.held
  have bk := blk_M (F := F') hh.blk
  have hb := hh.blk
  generalize hll : (if sgn k = true ∧ (low < leastK k ∨ mostK k < high) then addB l 4 else l) = ll at *
  by_cases h1 : highS k high < lowS k low
  · simp only [go_sem, reduceCtorEq, reduceIte, Nat.reduceEqDiff, Nat.reduceAdd, Nat.reduceLeDiff, Nat.reduceMul, Int.reduceLT, Int.reduceLE, Int.reduceAdd, Int.reduceSub, Int.reduceMul, Int.reduceNeg, Int.reduceToNat, Int.reduceEq, s.h0, s.h1, s.h2, s.h3, s.h8, h1]
    exact endK_same ⟨rfl, z, u, ll, hh, s.rest, span_cases hk hz hzw hll.symm (.inl ⟨h1, rfl⟩)⟩
  have hle : low ≤ lowS k low ∧ highS k high ≤ high := by
    unfold lowS highS
    constructor
    · split
      · rename_i h; omega
      · omega
    · split
      · rename_i h; omega
      · omega
  have esub : IntKind.i64.wrap (highS k high - lowS k low) = highS k high - lowS k low := w64 (by omega) (by omega)
  simp only [go_sem, reduceCtorEq, reduceIte, Nat.reduceEqDiff, Nat.reduceAdd, Nat.reduceLeDiff, Nat.reduceMul, Int.reduceLT, Int.reduceLE, Int.reduceAdd, Int.reduceSub, Int.reduceMul, Int.reduceNeg, Int.reduceToNat, Int.reduceEq, s.h0, s.h1, s.h2, s.h3, s.h8, h1, esub]
  refine callK_same (k65 F' _ _ lw.1 lw.2) ?_
  by_cases h2 : mostV (ofW k) ≤ highS k high - lowS k low
  · simp only [go_sem, reduceCtorEq, reduceIte, Nat.reduceEqDiff, Nat.reduceAdd, Nat.reduceLeDiff, Nat.reduceMul, Int.reduceLT, Int.reduceLE, Int.reduceAdd, Int.reduceSub, Int.reduceMul, Int.reduceNeg, Int.reduceToNat, Int.reduceEq, s.h0, s.h1, s.h2, s.h3, s.h8, h2]
    refine callK_same (k66 F' _ _ lw.1 lw.2) ?_
    simp only [go_sem, reduceCtorEq, reduceIte, Nat.reduceEqDiff, Nat.reduceAdd, Nat.reduceLeDiff, Nat.reduceMul, Int.reduceLT, Int.reduceLE, Int.reduceAdd, Int.reduceSub, Int.reduceMul, Int.reduceNeg, Int.reduceToNat, Int.reduceEq, hb, s.h0]
    simp only [setH, go_sem, reduceCtorEq, reduceIte, Nat.reduceEqDiff, Nat.reduceAdd, Nat.reduceLeDiff, Nat.reduceMul, Int.reduceLT, Int.reduceLE, Int.reduceAdd, Int.reduceSub, Int.reduceMul, Int.reduceNeg, Int.reduceToNat, Int.reduceEq]
    obtain ⟨g1, g2⟩ := hh.set (V.whole (ofW k))
    exact endK_same ⟨rfl, _, u, ll, g1, s.rest.trans g2, span_cases hk hz hzw hll.symm (.inr (.inl ⟨h2, rfl⟩))⟩
  · simp only [go_sem, reduceCtorEq, reduceIte, Nat.reduceEqDiff, Nat.reduceAdd, Nat.reduceLeDiff, Nat.reduceMul, Int.reduceLT, Int.reduceLE, Int.reduceAdd, Int.reduceSub, Int.reduceMul, Int.reduceNeg, Int.reduceToNat, Int.reduceEq, s.h0, s.h1, s.h2, s.h3, s.h8, h2, bk]
    refine callK_same (k68 F' _ _ _ lw.1 lw.2) ?_
    simp only [go_sem, reduceCtorEq, reduceIte, Nat.reduceEqDiff, Nat.reduceAdd, Nat.reduceLeDiff, Nat.reduceMul, Int.reduceLT, Int.reduceLE, Int.reduceAdd, Int.reduceSub, Int.reduceMul, Int.reduceNeg, Int.reduceToNat, Int.reduceEq, s.h0, s.h1, s.h2, s.h3, s.h8]
    refine callK_same (k68 F' _ _ _ lw.1 lw.2) ?_
    simp only [go_sem, reduceCtorEq, reduceIte, Nat.reduceEqDiff, Nat.reduceAdd, Nat.reduceLeDiff, Nat.reduceMul, Int.reduceLT, Int.reduceLE, Int.reduceAdd, Int.reduceSub, Int.reduceMul, Int.reduceNeg, Int.reduceToNat, Int.reduceEq, s.h0, s.h1, s.h2, s.h3, s.h8]
    refine callK_same (k67 F' _ _ _ _ lw.1 lw.2) ?_
    simp only [go_sem, reduceCtorEq, reduceIte, Nat.reduceEqDiff, Nat.reduceAdd, Nat.reduceLeDiff, Nat.reduceMul, Int.reduceLT, Int.reduceLE, Int.reduceAdd, Int.reduceSub, Int.reduceMul, Int.reduceNeg, Int.reduceToNat, Int.reduceEq, s.h0, s.h1, s.h2, s.h3, s.h8]
    obtain ⟨so, sw⟩ := span_ok (l := lowS k low % 2 ^ (ofW k).toNat) (h := highS k high % 2 ^ (ofW k).toNat) hW (mod_isN hW) (mod_isN hW)
    refine callK_of (k80 F' _ z _ hz so (sw.trans hzw.symm)) ?_
    rintro w G M2 ⟨hG, rfl, z', rfl, hbo⟩
    rw [hG]
    refine ⟨fun _ => Le.refl _ _, ?_⟩
    simp only [go_sem, reduceCtorEq, reduceIte, Nat.reduceEqDiff, Nat.reduceAdd, Nat.reduceLeDiff, Nat.reduceMul, Int.reduceLT, Int.reduceLE, Int.reduceAdd, Int.reduceSub, Int.reduceMul, Int.reduceNeg, Int.reduceToNat, Int.reduceEq, hb, s.h0]
    simp only [setH, go_sem, reduceCtorEq, reduceIte, Nat.reduceEqDiff, Nat.reduceAdd, Nat.reduceLeDiff, Nat.reduceMul, Int.reduceLT, Int.reduceLE, Int.reduceAdd, Int.reduceSub, Int.reduceMul, Int.reduceNeg, Int.reduceToNat, Int.reduceEq]
    obtain ⟨g1, g2⟩ := hh.set z'
    exact endK_same ⟨rfl, _, u, ll, g1, s.rest.trans g2, span_cases hk hz hzw hll.symm (.inr (.inr ⟨by omega, hbo⟩))⟩
end Go.Proofs.Tryz.K

/- Contracts: products, quotients, bits moved, bits known, and what comparing tells, of sets with many members. -/
namespace Go.Proofs.Tryz.K
open Go Go.Ax Go.Proofs.Tryz.S
set_option maxRecDepth 100000
set_option linter.unusedSimpArgs false
set_option linter.unusedVariables false
set_option maxHeartbeats 2000000
variable (F : Fz) (M : Hp)

theorem k106 (x y : Int) (h : in64 (x * y)) : CallsA Tryz.prog 106 [.int .i64 x, .int .i64 y] F M (Same F M (.int .i64 (x * y))) := by
  refine callsA_of hm Tryz.func106 e106 (Nat.le_of_ble_eq_true rfl) ?_
  have e : IntKind.i64.wrap (x * y) = x * y := w64 h.1 h.2
  simp only [c106, go_sem, reduceCtorEq, reduceIte, Nat.reduceEqDiff, Nat.reduceAdd, Nat.reduceLeDiff, Nat.reduceMul, Int.reduceLT, Int.reduceLE, Int.reduceAdd, Int.reduceSub, Int.reduceMul, Int.reduceNeg, Int.reduceToNat, Int.reduceEq, e]
  exact endK_same ⟨rfl, rfl, rfl⟩
/-- What a kind sees in two sets is within bounds. -/
structure FourR (k pa pb pc pd : Int) : Prop where
  a0 : leastK k ≤ pa
  ab : pa ≤ pb
  b1 : pb ≤ mostK k
  c0 : leastK k ≤ pc
  cd : pc ≤ pd
  d1 : pd ≤ mostK k
def foundP (M0 : Hp) (r : Nat) (R : V → List Int → Prop) (F : Fz) (M : Hp) (_ : Value) (F' : Fz) (M' : Hp) : Prop :=
  F' = F ∧ ∃ z' u' l', Held F M0 M' r z' u' l' ∧ Rest M M' r ∧ R z' l'
def timesR (k pa pb pc pd : Int) (z : V) (l : List Int) (z' : V) (l' : List Int) : Prop := (2147483648 < pb ∧ z' = V.whole (ofW k) ∧ l' = l) ∨ ∃ lo hi, (lo ≤ pa * pc ∧ lo ≤ pa * pd ∧ lo ≤ pb * pc ∧ lo ≤ pb * pd) ∧ (pa * pc ≤ hi ∧ pa * pd ≤ hi ∧ pb * pc ≤ hi ∧ pb * pd ≤ hi) ∧ SpanR k lo hi z l z' l'
theorem k88 (M0 : Hp) (r : Nat) (k pa pb pc pd : Int) (z : V) (u : Value) (l : List Int) (h : Held F M0 M r z u l) (hk : isK k = true) (hz : z.ok = true) (hzw : z.w = ofW k) (hl : l.length ≤ 1000) (hp : FourR k pa pb pc pd) :
    CallsA Tryz.prog 88 [.pointer (some ⟨r, 0, none⟩), .int .i64 k, fourV pa pb pc pd] F M
      (foundP M0 r (timesR k pa pb pc pd z l) F M) := by
  refine callsA_of hm Tryz.func88 e88 (Nat.le_of_ble_eq_true rfl) ?_
  have lw := isW_le (ofW_isW k)
  simp only [fourV, fourC, c88, go_sem, reduceCtorEq, reduceIte, Nat.reduceEqDiff, Nat.reduceAdd, Nat.reduceLeDiff, Nat.reduceMul, Int.reduceLT, Int.reduceLE, Int.reduceAdd, Int.reduceSub, Int.reduceMul, Int.reduceNeg, Int.reduceToNat, Int.reduceEq]
  intro r5 hF5 hM5
  have g5 := ne_of_none hM5 h.blk
  have h1 := h.fresh (e := ⟨[.int .i64 pa, .int .i64 pb, .int .i64 pc, .int .i64 pd], 87, 4⟩) hF5 hM5
  have hb := h1.blk
  have rest : ∀ {M'}, Rest (M.upd r5 ⟨[.int .i64 pa, .int .i64 pb, .int .i64 pc, .int .i64 pd], 87, 4⟩) M' r → Rest M M' r := fun h => Rest.fresh hM5 h
  by_cases hc : 2147483648 < pb ∧ 2147483648 < pd
  · simp only [go_sem, reduceCtorEq, reduceIte, Nat.reduceEqDiff, Nat.reduceAdd, Nat.reduceLeDiff, Nat.reduceMul, Int.reduceLT, Int.reduceLE, Int.reduceAdd, Int.reduceSub, Int.reduceMul, Int.reduceNeg, Int.reduceToNat, Int.reduceEq, hc.1, hc.2]
    generalize M.upd r5 ⟨[.int .i64 pa, .int .i64 pb, .int .i64 pc, .int .i64 pd], 87, 4⟩ = M1 at *
    refine callK_same (k59 F _ k hk) ?_
    simp only [go_sem, reduceCtorEq, reduceIte, Nat.reduceEqDiff, Nat.reduceAdd, Nat.reduceLeDiff, Nat.reduceMul, Int.reduceLT, Int.reduceLE, Int.reduceAdd, Int.reduceSub, Int.reduceMul, Int.reduceNeg, Int.reduceToNat, Int.reduceEq]
    refine callK_same (k66 F _ _ lw.1 lw.2) ?_
    simp only [go_sem, reduceCtorEq, reduceIte, Nat.reduceEqDiff, Nat.reduceAdd, Nat.reduceLeDiff, Nat.reduceMul, Int.reduceLT, Int.reduceLE, Int.reduceAdd, Int.reduceSub, Int.reduceMul, Int.reduceNeg, Int.reduceToNat, Int.reduceEq, hb]
    simp only [setH, go_sem, reduceCtorEq, reduceIte, Nat.reduceEqDiff, Nat.reduceAdd, Nat.reduceLeDiff, Nat.reduceMul, Int.reduceLT, Int.reduceLE, Int.reduceAdd, Int.reduceSub, Int.reduceMul, Int.reduceNeg, Int.reduceToNat, Int.reduceEq]
    obtain ⟨g1, g2⟩ := h1.set (V.whole (ofW k))
    exact endK_same ⟨rfl, _, u, l, g1, rest g2, .inl ⟨hc.1, rfl, rfl⟩⟩
  · obtain ⟨lo, hi, hd, hl0, hh0, hin⟩ := prod_ok hk hp.a0 hp.ab hp.b1 hp.c0 hp.cd hp.d1 hc
    have hab := hp.ab
    have hcd := hp.cd
    have hcase : (¬ 2147483648 < pb) ∨ (2147483648 < pb ∧ ¬ 2147483648 < pd) := by omega
    have body : ∀ M1, Held F M0 M1 r z u l → (∀ {M'}, Rest M1 M' r → Rest M M' r) → CallsA Tryz.prog 105 [fourV pa pb pc pd, .func (.func 106) #[] #[]] F M1 fun w F' M' => F' = F ∧ M' = M1 ∧ ∃ x y : Int, w = .tuple #[.int .i64 x, .int .i64 y] ∧ y - x ≤ 9223372036854775807 ∧ (x ≤ pa * pc ∧ x ≤ pa * pd ∧ x ≤ pb * pc ∧ x ≤ pb * pd) ∧ (pa * pc ≤ y ∧ pa * pd ≤ y ∧ pb * pc ≤ y ∧ pb * pd ≤ y) := by
      intro M1 _ _
      have b1 := hin pa pc (by omega) (by omega) (by omega) (by omega)
      have b2 := hin pa pd (by omega) (by omega) (by omega) (by omega)
      have b3 := hin pb pc (by omega) (by omega) (by omega) (by omega)
      have b4 := hin pb pd (by omega) (by omega) (by omega) (by omega)
      refine (k105 F M1 pa pb pc pd 106 (fun x y => x * y) fun M x y hx hy => k106 F M x y ?_).mono ?_
      · have := hin x y (by omega) (by omega) (by omega) (by omega)
        exact ⟨by omega, by omega⟩
      · rintro w F' M' ⟨h1, h2, x, y, h3, h4, h5, h6, h7⟩
        exact ⟨h1, h2, x, y, h3, by omega, h4, h5⟩
    rcases hcase with h1' | ⟨h1', h2'⟩
    · simp only [go_sem, reduceCtorEq, reduceIte, Nat.reduceEqDiff, Nat.reduceAdd, Nat.reduceLeDiff, Nat.reduceMul, Int.reduceLT, Int.reduceLE, Int.reduceAdd, Int.reduceSub, Int.reduceMul, Int.reduceNeg, Int.reduceToNat, Int.reduceEq, h1']
      generalize M.upd r5 ⟨[.int .i64 pa, .int .i64 pb, .int .i64 pc, .int .i64 pd], 87, 4⟩ = M1 at *
      refine callK_of (body M1 h1 rest) ?_
      rintro w G M2 ⟨hG, rfl, x, y, rfl, hxy, hx, hy⟩
      rw [hG]
      refine ⟨(fun h => by cases h), ?_⟩
      simp only [go_sem, reduceCtorEq, reduceIte, Nat.reduceEqDiff, Nat.reduceAdd, Nat.reduceLeDiff, Nat.reduceMul, Int.reduceLT, Int.reduceLE, Int.reduceAdd, Int.reduceSub, Int.reduceMul, Int.reduceNeg, Int.reduceToNat, Int.reduceEq]
      refine callK_of (k87 F M2 M0 r k x y z u l h1 hk hz hzw hl hxy) ?_
      rintro w G M3 ⟨hG, z', u', l', hh, hr, hs⟩
      rw [hG]
      refine ⟨(fun h => by cases h), ?_⟩
      simp only [go_sem, reduceCtorEq, reduceIte, Nat.reduceEqDiff, Nat.reduceAdd, Nat.reduceLeDiff, Nat.reduceMul, Int.reduceLT, Int.reduceLE, Int.reduceAdd, Int.reduceSub, Int.reduceMul, Int.reduceNeg, Int.reduceToNat, Int.reduceEq]
      exact endK_same ⟨rfl, z', u', l', hh, rest hr, .inr ⟨x, y, hx, hy, hs⟩⟩
    · simp only [go_sem, reduceCtorEq, reduceIte, Nat.reduceEqDiff, Nat.reduceAdd, Nat.reduceLeDiff, Nat.reduceMul, Int.reduceLT, Int.reduceLE, Int.reduceAdd, Int.reduceSub, Int.reduceMul, Int.reduceNeg, Int.reduceToNat, Int.reduceEq, h1', h2']
      generalize M.upd r5 ⟨[.int .i64 pa, .int .i64 pb, .int .i64 pc, .int .i64 pd], 87, 4⟩ = M1 at *
      refine callK_of (body M1 h1 rest) ?_
      rintro w G M2 ⟨hG, rfl, x, y, rfl, hxy, hx, hy⟩
      rw [hG]
      refine ⟨(fun h => by cases h), ?_⟩
      simp only [go_sem, reduceCtorEq, reduceIte, Nat.reduceEqDiff, Nat.reduceAdd, Nat.reduceLeDiff, Nat.reduceMul, Int.reduceLT, Int.reduceLE, Int.reduceAdd, Int.reduceSub, Int.reduceMul, Int.reduceNeg, Int.reduceToNat, Int.reduceEq]
      refine callK_of (k87 F M2 M0 r k x y z u l h1 hk hz hzw hl hxy) ?_
      rintro w G M3 ⟨hG, z', u', l', hh, hr, hs⟩
      rw [hG]
      refine ⟨(fun h => by cases h), ?_⟩
      simp only [go_sem, reduceCtorEq, reduceIte, Nat.reduceEqDiff, Nat.reduceAdd, Nat.reduceLeDiff, Nat.reduceMul, Int.reduceLT, Int.reduceLE, Int.reduceAdd, Int.reduceSub, Int.reduceMul, Int.reduceNeg, Int.reduceToNat, Int.reduceEq]
      exact endK_same ⟨rfl, z', u', l', hh, rest hr, .inr ⟨x, y, hx, hy, hs⟩⟩
/-- On the way through a division. -/
structure Dv (op k pa pb pc pd : Int) (r : Nat) (M0 : Hp) (z : V) (l : List Int) (F0 : Fz) (M1 : Hp) (σ : Env) (F : Fz) (M : Hp) : Prop where
  ff : F = F0
  held : ∃ u, Held F0 M0 M r z u l
  rest : Rest M1 M r
  h0 : Ax.look σ 0 = some (.pointer (some ⟨r, 0, none⟩))
  h1 : Ax.look σ 1 = some (.int .i64 op)
  h2 : Ax.look σ 2 = some (.int .i64 k)
  h7 : ∃ r7, Ax.look σ 7 = some (.pointer (some ⟨r7, 0, none⟩)) ∧ M r7 = some ⟨[.int .i64 pa, .int .i64 pb, .int .i64 pc, .int .i64 pd], 87, 4⟩
  h8 : Ax.look σ 8 = some (.int .i64 (leastK k))
  h9 : Ax.look σ 9 = some (.int .i64 (mostK k))
theorem Dv.ext {op k pa pb pc pd : Int} {r : Nat} {M0 : Hp} {z : V} {l : List Int} {F0 : Fz} {M1 : Hp} {σ σ' : Env} {F : Fz} {M : Hp} (s : Dv op k pa pb pc pd r M0 z l F0 M1 σ F M) (e0 : Ax.look σ' 0 = Ax.look σ 0) (e1 : Ax.look σ' 1 = Ax.look σ 1) (e2 : Ax.look σ' 2 = Ax.look σ 2) (e7 : Ax.look σ' 7 = Ax.look σ 7) (e8 : Ax.look σ' 8 = Ax.look σ 8) (e9 : Ax.look σ' 9 = Ax.look σ 9) : Dv op k pa pb pc pd r M0 z l F0 M1 σ' F M := by
  obtain ⟨r7, h, f⟩ := s.h7
  exact ⟨s.ff, s.held, s.rest, e0.trans s.h0, e1.trans s.h1, e2.trans s.h2, ⟨r7, e7.trans h, f⟩, e8.trans s.h8, e9.trans s.h9⟩
theorem Dv.add {op k pa pb pc pd : Int} {r : Nat} {M0 : Hp} {z : V} {l : List Int} {F0 : Fz} {M1 : Hp} {σ : Env} {F : Fz} {M M' : Hp} {bad : Int} {v : Value} {G : Fz} (s : Dv op k pa pb pc pd r M0 z l F0 M1 σ F M) (h : addP M0 r z l 0 bad F M v G M') (hb : bad ≠ 0) : G = F ∧ Dv op k pa pb pc pd r M0 z (addB l bad) F0 M1 σ F M' := by
  obtain ⟨hG, z', u', l', hh, hr, hx⟩ := h
  refine ⟨hG, ?_⟩
  obtain ⟨r7, h7, f7⟩ := s.h7
  obtain ⟨u, hu⟩ := s.held
  have hff := s.ff
  subst hff
  rcases hx with ⟨h0, _⟩ | ⟨_, rfl, rfl⟩
  · exact absurd h0 hb
  · refine ⟨rfl, ⟨u', hh⟩, s.rest.trans hr, s.h0, s.h1, s.h2, ⟨r7, h7, hr _ _ f7 ?_ (fun h => by cases h)⟩, s.h8, s.h9⟩
    rintro rfl
    have := hu.blk
    rw [f7] at this
    cases this
def DvF (far : Int) (op k pa pb pc pd : Int) (r : Nat) (M0 : Hp) (z : V) (l : List Int) (F0 : Fz) (M1 : Hp) (σ : Env) (F : Fz) (M : Hp) : Prop := Dv op k pa pb pc pd r M0 z l F0 M1 σ F M ∧ Ax.look σ 10 = some (.int .i64 far)
def DvL (low high : Int) (op k pa pb pc pd : Int) (r : Nat) (M0 : Hp) (z : V) (l : List Int) (F0 : Fz) (M1 : Hp) (σ : Env) (F : Fz) (M : Hp) : Prop := Dv op k pa pb pc pd r M0 z l F0 M1 σ F M ∧ Ax.look σ 11 = some (.int .i64 low) ∧ Ax.look σ 12 = some (.int .i64 high)
def DvM (low high : Int) (op k pa pb pc pd : Int) (r : Nat) (M0 : Hp) (z : V) (l : List Int) (F0 : Fz) (M1 : Hp) (σ : Env) (F : Fz) (M : Hp) : Prop := DvL low high op k pa pb pc pd r M0 z l F0 M1 σ F M
def divR (op k pa pb pc pd : Int) (z : V) (z' : V) (l' : List Int) : Prop :=
  (farV op pa pb pc pd < 0 ∧ z' = z ∧ l' = badD k pa pc pd) ∨ (0 ≤ farV op pa pb pc pd ∧ SpanR k (lowD op k pa pc (farV op pa pb pc pd)) (highD op k pb (farV op pa pb pc pd)) z (badD k pa pc pd) z' l')
theorem k89 (M0 : Hp) (r : Nat) (op k pa pb pc pd : Int) (z : V) (u : Value) (h : Held F M0 M r z u []) (hk : isK k = true) (hop : op = 11 ∨ op = 12) (hz : z.ok = true) (hzw : z.w = ofW k) (hp : FourR k pa pb pc pd) :
    CallsA Tryz.prog 89 [.pointer (some ⟨r, 0, none⟩), .int .i64 op, .int .i64 k, fourV pa pb pc pd] F M (foundP M0 r (divR op k pa pb pc pd z) F M) := by
  refine callsA_of hm Tryz.func89 e89 (Nat.le_of_ble_eq_true rfl) ?_
  have kd := kinds hk
  have ⟨q1, q2, q3, q4, q5, q6⟩ := hp
  simp only [fourV, fourC, c89]
  rw [Go.Ax.seq_assoc]
  refine cut (Dv op k pa pb pc pd r M0 z [] F M) ?_ ?_
  · simp only [go_sem, reduceCtorEq, reduceIte, Nat.reduceEqDiff, Nat.reduceAdd, Nat.reduceLeDiff, Nat.reduceMul, Int.reduceLT, Int.reduceLE, Int.reduceAdd, Int.reduceSub, Int.reduceMul, Int.reduceNeg, Int.reduceToNat, Int.reduceEq]
    intro r7 hF7 hM7
    have h1 := h.fresh (e := ⟨[.int .i64 pa, .int .i64 pb, .int .i64 pc, .int .i64 pd], 87, 4⟩) hF7 hM7
    have rest : ∀ {M'}, Rest (M.upd r7 ⟨[.int .i64 pa, .int .i64 pb, .int .i64 pc, .int .i64 pd], 87, 4⟩) M' r → Rest M M' r := fun h => Rest.fresh hM7 h
    simp only [go_sem, reduceCtorEq, reduceIte, Nat.reduceEqDiff, Nat.reduceAdd, Nat.reduceLeDiff, Nat.reduceMul, Int.reduceLT, Int.reduceLE, Int.reduceAdd, Int.reduceSub, Int.reduceMul, Int.reduceNeg, Int.reduceToNat, Int.reduceEq]
    refine callK_same (k104 F _ k hk) ?_
    simp only [go_sem, reduceCtorEq, reduceIte, Nat.reduceEqDiff, Nat.reduceAdd, Nat.reduceLeDiff, Nat.reduceMul, Int.reduceLT, Int.reduceLE, Int.reduceAdd, Int.reduceSub, Int.reduceMul, Int.reduceNeg, Int.reduceToNat, Int.reduceEq]
    exact ⟨rfl, ⟨u, h1⟩, rest (Rest.refl _ _), by simp only [go_sem, reduceCtorEq, reduceIte, Nat.reduceEqDiff], by simp only [go_sem, reduceCtorEq, reduceIte, Nat.reduceEqDiff], by simp only [go_sem, reduceCtorEq, reduceIte, Nat.reduceEqDiff], ⟨r7, by simp only [go_sem, reduceCtorEq, reduceIte, Nat.reduceEqDiff], Hp.upd_same _ _ _⟩, by simp only [go_sem, reduceCtorEq, reduceIte, Nat.reduceEqDiff], by simp only [go_sem, reduceCtorEq, reduceIte, Nat.reduceEqDiff]⟩
  rintro σ F' M' s
  obtain rfl := s.ff
  refine cut (Dv op k pa pb pc pd r M0 z (if pc ≤ 0 ∧ 0 ≤ pd then addB [] 6 else []) F' M) ?_ ?_
  · obtain ⟨r7, h7, f7⟩ := s.h7
    obtain ⟨u, hu⟩ := s.held
    have b7 := blk_M (F := F') f7
    by_cases hc : pc ≤ 0 ∧ 0 ≤ pd
    · rw [if_pos hc]
      simp only [go_sem, reduceCtorEq, reduceIte, Nat.reduceEqDiff, Nat.reduceAdd, Nat.reduceLeDiff, Nat.reduceMul, Int.reduceLT, Int.reduceLE, Int.reduceAdd, Int.reduceSub, Int.reduceMul, Int.reduceNeg, Int.reduceToNat, Int.reduceEq, s.h0, s.h1, s.h2, h7, s.h8, s.h9, b7, hc.1, hc.2]
      refine callK_of (k62 F' M' M0 r z u [] 0 6 hu hz (fun h => by cases h) (by simp)) ?_
      rintro w G M2 hh
      obtain ⟨hG, hs⟩ := s.add hh (by decide)
      rw [hG]
      refine ⟨(fun h => by cases h), ?_⟩
      simp only [go_sem, reduceCtorEq, reduceIte, Nat.reduceEqDiff, Nat.reduceAdd, Nat.reduceLeDiff, Nat.reduceMul, Int.reduceLT, Int.reduceLE, Int.reduceAdd, Int.reduceSub, Int.reduceMul, Int.reduceNeg, Int.reduceToNat, Int.reduceEq, s.h0, s.h1, s.h2, h7, s.h8, s.h9]
      exact hs.ext (by simp only [go_sem, reduceCtorEq, reduceIte, Nat.reduceEqDiff, s.h0]) (by simp only [go_sem, reduceCtorEq, reduceIte, Nat.reduceEqDiff]) (by simp only [go_sem, reduceCtorEq, reduceIte, Nat.reduceEqDiff]) (by simp only [go_sem, reduceCtorEq, reduceIte, Nat.reduceEqDiff, h7]) (by simp only [go_sem, reduceCtorEq, reduceIte, Nat.reduceEqDiff]) (by simp only [go_sem, reduceCtorEq, reduceIte, Nat.reduceEqDiff])
    · rw [if_neg hc]
      by_cases h1 : pc ≤ 0
      · have h2 : ¬ 0 ≤ pd := fun h => hc ⟨h1, h⟩
        simp only [go_sem, reduceCtorEq, reduceIte, Nat.reduceEqDiff, Nat.reduceAdd, Nat.reduceLeDiff, Nat.reduceMul, Int.reduceLT, Int.reduceLE, Int.reduceAdd, Int.reduceSub, Int.reduceMul, Int.reduceNeg, Int.reduceToNat, Int.reduceEq, s.h0, s.h1, s.h2, h7, s.h8, s.h9, b7, h1, h2]
        exact s.ext (by simp only [go_sem, reduceCtorEq, reduceIte, Nat.reduceEqDiff, s.h0]) (by simp only [go_sem, reduceCtorEq, reduceIte, Nat.reduceEqDiff]) (by simp only [go_sem, reduceCtorEq, reduceIte, Nat.reduceEqDiff]) (by simp only [go_sem, reduceCtorEq, reduceIte, Nat.reduceEqDiff, h7]) (by simp only [go_sem, reduceCtorEq, reduceIte, Nat.reduceEqDiff]) (by simp only [go_sem, reduceCtorEq, reduceIte, Nat.reduceEqDiff])
      · simp only [go_sem, reduceCtorEq, reduceIte, Nat.reduceEqDiff, Nat.reduceAdd, Nat.reduceLeDiff, Nat.reduceMul, Int.reduceLT, Int.reduceLE, Int.reduceAdd, Int.reduceSub, Int.reduceMul, Int.reduceNeg, Int.reduceToNat, Int.reduceEq, s.h0, s.h1, s.h2, h7, s.h8, s.h9, b7, h1]
        exact s.ext (by simp only [go_sem, reduceCtorEq, reduceIte, Nat.reduceEqDiff, s.h0]) (by simp only [go_sem, reduceCtorEq, reduceIte, Nat.reduceEqDiff]) (by simp only [go_sem, reduceCtorEq, reduceIte, Nat.reduceEqDiff]) (by simp only [go_sem, reduceCtorEq, reduceIte, Nat.reduceEqDiff, h7]) (by simp only [go_sem, reduceCtorEq, reduceIte, Nat.reduceEqDiff]) (by simp only [go_sem, reduceCtorEq, reduceIte, Nat.reduceEqDiff])
  clear s
  rintro σ F' M' s
  obtain rfl := s.ff
  refine cut (Dv op k pa pb pc pd r M0 z (badD k pa pc pd) F' M) ?_ ?_
  · obtain ⟨r7, h7, f7⟩ := s.h7
    obtain ⟨u, hu⟩ := s.held
    have b7 := blk_M (F := F') f7
    have hlen : (if pc ≤ 0 ∧ 0 ≤ pd then addB [] 6 else []).length ≤ 1000 := by
      split
      · simp [addB_nil]
      · simp
    unfold badD
    generalize (if pc ≤ 0 ∧ 0 ≤ pd then addB [] 6 else []) = l1 at *
    simp only [go_sem, reduceCtorEq, reduceIte, Nat.reduceEqDiff, Nat.reduceAdd, Nat.reduceLeDiff, Nat.reduceMul, Int.reduceLT, Int.reduceLE, Int.reduceAdd, Int.reduceSub, Int.reduceMul, Int.reduceNeg, Int.reduceToNat, Int.reduceEq, s.h0, s.h1, s.h2, h7, s.h8, s.h9, b7]
    refine callK_same (k83 F' _ k) ?_
    by_cases hc : sgn k = true ∧ pa = leastK k ∧ pc ≤ -1 ∧ -1 ≤ pd
    · rw [if_pos hc]
      obtain ⟨c1, c2, c3, c4⟩ := hc
      rw [c2] at b7
      simp only [go_sem, reduceCtorEq, reduceIte, Nat.reduceEqDiff, Nat.reduceAdd, Nat.reduceLeDiff, Nat.reduceMul, Int.reduceLT, Int.reduceLE, Int.reduceAdd, Int.reduceSub, Int.reduceMul, Int.reduceNeg, Int.reduceToNat, Int.reduceEq, s.h0, s.h1, s.h2, h7, s.h8, s.h9, b7, c1, c3, c4]
      refine callK_of (k62 F' M' M0 r z u l1 0 4 hu hz (fun h => by cases h) hlen) ?_
      rintro w G M2 hh
      obtain ⟨hG, hs⟩ := s.add hh (by decide)
      rw [hG]
      refine ⟨(fun h => by cases h), ?_⟩
      simp only [go_sem, reduceCtorEq, reduceIte, Nat.reduceEqDiff, Nat.reduceAdd, Nat.reduceLeDiff, Nat.reduceMul, Int.reduceLT, Int.reduceLE, Int.reduceAdd, Int.reduceSub, Int.reduceMul, Int.reduceNeg, Int.reduceToNat, Int.reduceEq, s.h0, s.h1, s.h2, h7, s.h8, s.h9]
      exact hs.ext (by simp only [go_sem, reduceCtorEq, reduceIte, Nat.reduceEqDiff, s.h0]) (by simp only [go_sem, reduceCtorEq, reduceIte, Nat.reduceEqDiff]) (by simp only [go_sem, reduceCtorEq, reduceIte, Nat.reduceEqDiff]) (by simp only [go_sem, reduceCtorEq, reduceIte, Nat.reduceEqDiff, h7]) (by simp only [go_sem, reduceCtorEq, reduceIte, Nat.reduceEqDiff]) (by simp only [go_sem, reduceCtorEq, reduceIte, Nat.reduceEqDiff])
    · rw [if_neg hc]
      cases hs : sgn k
      · simp only [go_sem, reduceCtorEq, reduceIte, Nat.reduceEqDiff, Nat.reduceAdd, Nat.reduceLeDiff, Nat.reduceMul, Int.reduceLT, Int.reduceLE, Int.reduceAdd, Int.reduceSub, Int.reduceMul, Int.reduceNeg, Int.reduceToNat, Int.reduceEq, s.h0, s.h1, s.h2, h7, s.h8, s.h9, b7]
        exact s.ext (by simp only [go_sem, reduceCtorEq, reduceIte, Nat.reduceEqDiff, s.h0]) (by simp only [go_sem, reduceCtorEq, reduceIte, Nat.reduceEqDiff]) (by simp only [go_sem, reduceCtorEq, reduceIte, Nat.reduceEqDiff]) (by simp only [go_sem, reduceCtorEq, reduceIte, Nat.reduceEqDiff, h7]) (by simp only [go_sem, reduceCtorEq, reduceIte, Nat.reduceEqDiff]) (by simp only [go_sem, reduceCtorEq, reduceIte, Nat.reduceEqDiff])
      by_cases h1 : pa = leastK k
      · by_cases h2 : pc ≤ -1
        · have h3 : ¬ -1 ≤ pd := fun h => hc ⟨hs, h1, h2, h⟩
          rw [h1] at b7
          simp only [go_sem, reduceCtorEq, reduceIte, Nat.reduceEqDiff, Nat.reduceAdd, Nat.reduceLeDiff, Nat.reduceMul, Int.reduceLT, Int.reduceLE, Int.reduceAdd, Int.reduceSub, Int.reduceMul, Int.reduceNeg, Int.reduceToNat, Int.reduceEq, s.h0, s.h1, s.h2, h7, s.h8, s.h9, b7, h2, h3]
          exact s.ext (by simp only [go_sem, reduceCtorEq, reduceIte, Nat.reduceEqDiff, s.h0]) (by simp only [go_sem, reduceCtorEq, reduceIte, Nat.reduceEqDiff]) (by simp only [go_sem, reduceCtorEq, reduceIte, Nat.reduceEqDiff]) (by simp only [go_sem, reduceCtorEq, reduceIte, Nat.reduceEqDiff, h7]) (by simp only [go_sem, reduceCtorEq, reduceIte, Nat.reduceEqDiff]) (by simp only [go_sem, reduceCtorEq, reduceIte, Nat.reduceEqDiff])
        · rw [h1] at b7
          simp only [go_sem, reduceCtorEq, reduceIte, Nat.reduceEqDiff, Nat.reduceAdd, Nat.reduceLeDiff, Nat.reduceMul, Int.reduceLT, Int.reduceLE, Int.reduceAdd, Int.reduceSub, Int.reduceMul, Int.reduceNeg, Int.reduceToNat, Int.reduceEq, s.h0, s.h1, s.h2, h7, s.h8, s.h9, b7, h2]
          exact s.ext (by simp only [go_sem, reduceCtorEq, reduceIte, Nat.reduceEqDiff, s.h0]) (by simp only [go_sem, reduceCtorEq, reduceIte, Nat.reduceEqDiff]) (by simp only [go_sem, reduceCtorEq, reduceIte, Nat.reduceEqDiff]) (by simp only [go_sem, reduceCtorEq, reduceIte, Nat.reduceEqDiff, h7]) (by simp only [go_sem, reduceCtorEq, reduceIte, Nat.reduceEqDiff]) (by simp only [go_sem, reduceCtorEq, reduceIte, Nat.reduceEqDiff])
      · simp only [go_sem, reduceCtorEq, reduceIte, Nat.reduceEqDiff, Nat.reduceAdd, Nat.reduceLeDiff, Nat.reduceMul, Int.reduceLT, Int.reduceLE, Int.reduceAdd, Int.reduceSub, Int.reduceMul, Int.reduceNeg, Int.reduceToNat, Int.reduceEq, s.h0, s.h1, s.h2, h7, s.h8, s.h9, b7, h1]
        exact s.ext (by simp only [go_sem, reduceCtorEq, reduceIte, Nat.reduceEqDiff, s.h0]) (by simp only [go_sem, reduceCtorEq, reduceIte, Nat.reduceEqDiff]) (by simp only [go_sem, reduceCtorEq, reduceIte, Nat.reduceEqDiff]) (by simp only [go_sem, reduceCtorEq, reduceIte, Nat.reduceEqDiff, h7]) (by simp only [go_sem, reduceCtorEq, reduceIte, Nat.reduceEqDiff]) (by simp only [go_sem, reduceCtorEq, reduceIte, Nat.reduceEqDiff])
  clear s
  rintro σ F' M' s
  obtain rfl := s.ff
  generalize hbl : badD k pa pc pd = bl at *
  rw [Go.Ax.seq_assoc]
  refine cut (DvF (farV op pa pb pc pd) op k pa pb pc pd r M0 z bl F' M) ?_ ?_
  · obtain ⟨r7, h7, f7⟩ := s.h7
    have b7 := blk_M (F := F') f7
    have n1 : IntKind.i64.wrap (0 - pa) = -pa := by rw [w64 (by omega) (by omega)]; omega
    have n2 : IntKind.i64.wrap (0 - pb) = -pb := by rw [w64 (by omega) (by omega)]; omega
    have n3 : IntKind.i64.wrap (0 - pc) = -pc := by rw [w64 (by omega) (by omega)]; omega
    have n4 : IntKind.i64.wrap (0 - pd) = -pd := by rw [w64 (by omega) (by omega)]; omega
    have m1 := mx_le pc (-pc)
    have m2 := mx_le (mx pc (-pc)) pd
    have m3 := mx_le (mx (mx pc (-pc)) pd) (-pd)
    have n5 : IntKind.i64.wrap (mx (mx (mx pc (-pc)) pd) (-pd) - 1) = mx (mx (mx pc (-pc)) pd) (-pd) - 1 := w64 (by omega) (by omega)
    have e1 : maxV pa [.int .i64 (-pa), .int .i64 pb, .int .i64 (-pb)] = some (mx (mx (mx pa (-pa)) pb) (-pb)) := rfl
    have e2 : maxV pc [.int .i64 (-pc), .int .i64 pd, .int .i64 (-pd)] = some (mx (mx (mx pc (-pc)) pd) (-pd)) := rfl
    have e3 : ∀ a b : Int, minV a [.int .i64 b] = some (mn2 a b) := fun _ _ => rfl
    rcases hop with rfl | rfl
    · simp only [go_sem, reduceCtorEq, reduceIte, Nat.reduceEqDiff, Nat.reduceAdd, Nat.reduceLeDiff, Nat.reduceMul, Int.reduceLT, Int.reduceLE, Int.reduceAdd, Int.reduceSub, Int.reduceMul, Int.reduceNeg, Int.reduceToNat, Int.reduceEq, s.h0, s.h1, s.h2, h7, s.h8, s.h9, b7, n1, n2, e1]
      exact ⟨s.ext (by simp only [go_sem, reduceCtorEq, reduceIte, Nat.reduceEqDiff, s.h0]) (by simp only [go_sem, reduceCtorEq, reduceIte, Nat.reduceEqDiff, s.h1]) (by simp only [go_sem, reduceCtorEq, reduceIte, Nat.reduceEqDiff]) (by simp only [go_sem, reduceCtorEq, reduceIte, Nat.reduceEqDiff, h7]) (by simp only [go_sem, reduceCtorEq, reduceIte, Nat.reduceEqDiff]) (by simp only [go_sem, reduceCtorEq, reduceIte, Nat.reduceEqDiff]), by simp only [go_sem, reduceCtorEq, reduceIte, Nat.reduceEqDiff]; rfl⟩
    · simp only [go_sem, reduceCtorEq, reduceIte, Nat.reduceEqDiff, Nat.reduceAdd, Nat.reduceLeDiff, Nat.reduceMul, Int.reduceLT, Int.reduceLE, Int.reduceAdd, Int.reduceSub, Int.reduceMul, Int.reduceNeg, Int.reduceToNat, Int.reduceEq, s.h0, s.h1, s.h2, h7, s.h8, s.h9, b7, n1, n2, n3, n4, n5, e1, e2, e3]
      exact ⟨s.ext (by simp only [go_sem, reduceCtorEq, reduceIte, Nat.reduceEqDiff, s.h0]) (by simp only [go_sem, reduceCtorEq, reduceIte, Nat.reduceEqDiff, s.h1]) (by simp only [go_sem, reduceCtorEq, reduceIte, Nat.reduceEqDiff]) (by simp only [go_sem, reduceCtorEq, reduceIte, Nat.reduceEqDiff, h7]) (by simp only [go_sem, reduceCtorEq, reduceIte, Nat.reduceEqDiff]) (by simp only [go_sem, reduceCtorEq, reduceIte, Nat.reduceEqDiff]), by simp only [go_sem, reduceCtorEq, reduceIte, Nat.reduceEqDiff]; rfl⟩
  clear s
  rintro σ F' M' ⟨s, h10⟩
  obtain rfl := s.ff
  by_cases hf : farV op pa pb pc pd < 0
  · simp only [go_sem, reduceCtorEq, reduceIte, Nat.reduceEqDiff, Nat.reduceAdd, Nat.reduceLeDiff, Nat.reduceMul, Int.reduceLT, Int.reduceLE, Int.reduceAdd, Int.reduceSub, Int.reduceMul, Int.reduceNeg, Int.reduceToNat, Int.reduceEq, h10, hf]
    obtain ⟨u, hu⟩ := s.held
    exact endK_same ⟨rfl, z, u, bl, hu, s.rest, .inl ⟨hf, rfl, hbl.symm⟩⟩
  have hfr : farV op pa pb pc pd ≤ 4294967296 := by
    have m1 := mx_le pa (-pa)
    have m2 := mx_le (mx pa (-pa)) pb
    have m3 := mx_le (mx (mx pa (-pa)) pb) (-pb)
    unfold farV
    split
    · have := mn2_le (mx (mx (mx pa (-pa)) pb) (-pb)) (mx (mx (mx pc (-pc)) pd) (-pd) - 1)
      omega
    · omega
  have hlh := low_high (op := op) (pa := pa) (pb := pb) (pc := pc) hk (show 0 ≤ farV op pa pb pc pd by omega)
  have hR : ∀ z' l', SpanR k (lowD op k pa pc (farV op pa pb pc pd)) (highD op k pb (farV op pa pb pc pd)) z bl z' l' → divR op k pa pb pc pd z z' l' := fun z' l' h => .inr ⟨by omega, by rw [hbl]; exact h⟩
  generalize hfv : farV op pa pb pc pd = far at *
  rw [Go.Ax.seq_assoc]
  refine cut (DvL (mx (leastK k) (-far)) (mn2 (mostK k) far) op k pa pb pc pd r M0 z bl F' M) ?_ ?_
  · have n1 : IntKind.i64.wrap (0 - far) = -far := by rw [w64 (by omega) (by omega)]; omega
    have e3 : ∀ a b : Int, minV a [.int .i64 b] = some (mn2 a b) := fun _ _ => rfl
    have e4 : ∀ a b : Int, maxV a [.int .i64 b] = some (mx a b) := fun _ _ => rfl
    simp only [go_sem, reduceCtorEq, reduceIte, Nat.reduceEqDiff, Nat.reduceAdd, Nat.reduceLeDiff, Nat.reduceMul, Int.reduceLT, Int.reduceLE, Int.reduceAdd, Int.reduceSub, Int.reduceMul, Int.reduceNeg, Int.reduceToNat, Int.reduceEq, h10, hf, s.h8, s.h9, n1, e3, e4]
    exact ⟨s.ext (by simp only [go_sem, reduceCtorEq, reduceIte, Nat.reduceEqDiff]) (by simp only [go_sem, reduceCtorEq, reduceIte, Nat.reduceEqDiff]) (by simp only [go_sem, reduceCtorEq, reduceIte, Nat.reduceEqDiff]) (by simp only [go_sem, reduceCtorEq, reduceIte, Nat.reduceEqDiff]) (by simp only [go_sem, reduceCtorEq, reduceIte, Nat.reduceEqDiff, s.h8]) (by simp only [go_sem, reduceCtorEq, reduceIte, Nat.reduceEqDiff, s.h9]), by simp only [go_sem, reduceCtorEq, reduceIte, Nat.reduceEqDiff], by simp only [go_sem, reduceCtorEq, reduceIte, Nat.reduceEqDiff]⟩
  clear s h10
  rintro σ F' M' ⟨s, h11, h12⟩
  obtain rfl := s.ff
  refine cut (DvL (lowD op k pa pc far) (mn2 (mostK k) far) op k pa pb pc pd r M0 z bl F' M) ?_ ?_
  · obtain ⟨r7, h7, f7⟩ := s.h7
    have b7 := blk_M (F := F') f7
    unfold lowD
    by_cases h1 : 0 ≤ pa
    · rcases hop with rfl | rfl
      · by_cases h2 : 0 ≤ pc
        · rw [if_pos ⟨h1, .inr h2⟩]
          simp only [go_sem, reduceCtorEq, reduceIte, Nat.reduceEqDiff, Nat.reduceAdd, Nat.reduceLeDiff, Nat.reduceMul, Int.reduceLT, Int.reduceLE, Int.reduceAdd, Int.reduceSub, Int.reduceMul, Int.reduceNeg, Int.reduceToNat, Int.reduceEq, s.h0, s.h1, s.h2, h7, s.h8, s.h9, b7, h1, h2, h11, h12]
          exact ⟨s.ext (by simp only [go_sem, reduceCtorEq, reduceIte, Nat.reduceEqDiff]) (by simp only [go_sem, reduceCtorEq, reduceIte, Nat.reduceEqDiff, s.h1]) (by simp only [go_sem, reduceCtorEq, reduceIte, Nat.reduceEqDiff]) (by simp only [go_sem, reduceCtorEq, reduceIte, Nat.reduceEqDiff, h7]) (by simp only [go_sem, reduceCtorEq, reduceIte, Nat.reduceEqDiff]) (by simp only [go_sem, reduceCtorEq, reduceIte, Nat.reduceEqDiff]), by simp only [go_sem, reduceCtorEq, reduceIte, Nat.reduceEqDiff], by simp only [go_sem, reduceCtorEq, reduceIte, Nat.reduceEqDiff, h12]⟩
        · rw [if_neg (by omega)]
          simp only [go_sem, reduceCtorEq, reduceIte, Nat.reduceEqDiff, Nat.reduceAdd, Nat.reduceLeDiff, Nat.reduceMul, Int.reduceLT, Int.reduceLE, Int.reduceAdd, Int.reduceSub, Int.reduceMul, Int.reduceNeg, Int.reduceToNat, Int.reduceEq, s.h0, s.h1, s.h2, h7, s.h8, s.h9, b7, h1, h2, h11, h12]
          exact ⟨s.ext (by simp only [go_sem, reduceCtorEq, reduceIte, Nat.reduceEqDiff]) (by simp only [go_sem, reduceCtorEq, reduceIte, Nat.reduceEqDiff, s.h1]) (by simp only [go_sem, reduceCtorEq, reduceIte, Nat.reduceEqDiff]) (by simp only [go_sem, reduceCtorEq, reduceIte, Nat.reduceEqDiff, h7]) (by simp only [go_sem, reduceCtorEq, reduceIte, Nat.reduceEqDiff]) (by simp only [go_sem, reduceCtorEq, reduceIte, Nat.reduceEqDiff]), by simp only [go_sem, reduceCtorEq, reduceIte, Nat.reduceEqDiff, h11], by simp only [go_sem, reduceCtorEq, reduceIte, Nat.reduceEqDiff, h12]⟩
      · rw [if_pos ⟨h1, .inl rfl⟩]
        simp only [go_sem, reduceCtorEq, reduceIte, Nat.reduceEqDiff, Nat.reduceAdd, Nat.reduceLeDiff, Nat.reduceMul, Int.reduceLT, Int.reduceLE, Int.reduceAdd, Int.reduceSub, Int.reduceMul, Int.reduceNeg, Int.reduceToNat, Int.reduceEq, s.h0, s.h1, s.h2, h7, s.h8, s.h9, b7, h1, h11, h12]
        exact ⟨s.ext (by simp only [go_sem, reduceCtorEq, reduceIte, Nat.reduceEqDiff]) (by simp only [go_sem, reduceCtorEq, reduceIte, Nat.reduceEqDiff, s.h1]) (by simp only [go_sem, reduceCtorEq, reduceIte, Nat.reduceEqDiff]) (by simp only [go_sem, reduceCtorEq, reduceIte, Nat.reduceEqDiff, h7]) (by simp only [go_sem, reduceCtorEq, reduceIte, Nat.reduceEqDiff]) (by simp only [go_sem, reduceCtorEq, reduceIte, Nat.reduceEqDiff]), by simp only [go_sem, reduceCtorEq, reduceIte, Nat.reduceEqDiff], by simp only [go_sem, reduceCtorEq, reduceIte, Nat.reduceEqDiff, h12]⟩
    · rw [if_neg (by omega)]
      simp only [go_sem, reduceCtorEq, reduceIte, Nat.reduceEqDiff, Nat.reduceAdd, Nat.reduceLeDiff, Nat.reduceMul, Int.reduceLT, Int.reduceLE, Int.reduceAdd, Int.reduceSub, Int.reduceMul, Int.reduceNeg, Int.reduceToNat, Int.reduceEq, s.h0, s.h1, s.h2, h7, s.h8, s.h9, b7, h1, h11, h12]
      exact ⟨s.ext (by simp only [go_sem, reduceCtorEq, reduceIte, Nat.reduceEqDiff]) (by simp only [go_sem, reduceCtorEq, reduceIte, Nat.reduceEqDiff]) (by simp only [go_sem, reduceCtorEq, reduceIte, Nat.reduceEqDiff]) (by simp only [go_sem, reduceCtorEq, reduceIte, Nat.reduceEqDiff, h7]) (by simp only [go_sem, reduceCtorEq, reduceIte, Nat.reduceEqDiff]) (by simp only [go_sem, reduceCtorEq, reduceIte, Nat.reduceEqDiff]), by simp only [go_sem, reduceCtorEq, reduceIte, Nat.reduceEqDiff, h11], by simp only [go_sem, reduceCtorEq, reduceIte, Nat.reduceEqDiff, h12]⟩
  clear s h11 h12
  rintro σ F' M' ⟨s, h11, h12⟩
  obtain rfl := s.ff
  refine cut (DvL (lowD op k pa pc far) (highD op k pb far) op k pa pb pc pd r M0 z bl F' M) ?_ ?_
  · obtain ⟨r7, h7, f7⟩ := s.h7
    have b7 := blk_M (F := F') f7
    unfold highD
    by_cases h1 : pb ≤ 0
    · rcases hop with rfl | rfl
      · rw [if_neg (by omega)]
        simp only [go_sem, reduceCtorEq, reduceIte, Nat.reduceEqDiff, Nat.reduceAdd, Nat.reduceLeDiff, Nat.reduceMul, Int.reduceLT, Int.reduceLE, Int.reduceAdd, Int.reduceSub, Int.reduceMul, Int.reduceNeg, Int.reduceToNat, Int.reduceEq, s.h0, s.h1, s.h2, h7, s.h8, s.h9, b7, h1, h11, h12]
        exact ⟨s.ext (by simp only [go_sem, reduceCtorEq, reduceIte, Nat.reduceEqDiff]) (by simp only [go_sem, reduceCtorEq, reduceIte, Nat.reduceEqDiff, s.h1]) (by simp only [go_sem, reduceCtorEq, reduceIte, Nat.reduceEqDiff]) (by simp only [go_sem, reduceCtorEq, reduceIte, Nat.reduceEqDiff, h7]) (by simp only [go_sem, reduceCtorEq, reduceIte, Nat.reduceEqDiff]) (by simp only [go_sem, reduceCtorEq, reduceIte, Nat.reduceEqDiff]), by simp only [go_sem, reduceCtorEq, reduceIte, Nat.reduceEqDiff, h11], by simp only [go_sem, reduceCtorEq, reduceIte, Nat.reduceEqDiff, h12]⟩
      · rw [if_pos ⟨h1, rfl⟩]
        simp only [go_sem, reduceCtorEq, reduceIte, Nat.reduceEqDiff, Nat.reduceAdd, Nat.reduceLeDiff, Nat.reduceMul, Int.reduceLT, Int.reduceLE, Int.reduceAdd, Int.reduceSub, Int.reduceMul, Int.reduceNeg, Int.reduceToNat, Int.reduceEq, s.h0, s.h1, s.h2, h7, s.h8, s.h9, b7, h1, h11, h12]
        exact ⟨s.ext (by simp only [go_sem, reduceCtorEq, reduceIte, Nat.reduceEqDiff]) (by simp only [go_sem, reduceCtorEq, reduceIte, Nat.reduceEqDiff, s.h1]) (by simp only [go_sem, reduceCtorEq, reduceIte, Nat.reduceEqDiff]) (by simp only [go_sem, reduceCtorEq, reduceIte, Nat.reduceEqDiff, h7]) (by simp only [go_sem, reduceCtorEq, reduceIte, Nat.reduceEqDiff]) (by simp only [go_sem, reduceCtorEq, reduceIte, Nat.reduceEqDiff]), by simp only [go_sem, reduceCtorEq, reduceIte, Nat.reduceEqDiff, h11], by simp only [go_sem, reduceCtorEq, reduceIte, Nat.reduceEqDiff]⟩
    · rw [if_neg (by omega)]
      simp only [go_sem, reduceCtorEq, reduceIte, Nat.reduceEqDiff, Nat.reduceAdd, Nat.reduceLeDiff, Nat.reduceMul, Int.reduceLT, Int.reduceLE, Int.reduceAdd, Int.reduceSub, Int.reduceMul, Int.reduceNeg, Int.reduceToNat, Int.reduceEq, s.h0, s.h1, s.h2, h7, s.h8, s.h9, b7, h1, h11, h12]
      exact ⟨s.ext (by simp only [go_sem, reduceCtorEq, reduceIte, Nat.reduceEqDiff]) (by simp only [go_sem, reduceCtorEq, reduceIte, Nat.reduceEqDiff]) (by simp only [go_sem, reduceCtorEq, reduceIte, Nat.reduceEqDiff]) (by simp only [go_sem, reduceCtorEq, reduceIte, Nat.reduceEqDiff, h7]) (by simp only [go_sem, reduceCtorEq, reduceIte, Nat.reduceEqDiff]) (by simp only [go_sem, reduceCtorEq, reduceIte, Nat.reduceEqDiff]), by simp only [go_sem, reduceCtorEq, reduceIte, Nat.reduceEqDiff, h11], by simp only [go_sem, reduceCtorEq, reduceIte, Nat.reduceEqDiff, h12]⟩
  clear s h11 h12
  rintro σ F' M' ⟨s, h11, h12⟩
  obtain rfl := s.ff
  obtain ⟨u, hu⟩ := s.held
  have hlen : bl.length ≤ 1000 := by
    rw [← hbl]
    unfold badD addB
    split
    · split <;> split <;> simp
    · split <;> simp
  simp only [go_sem, reduceCtorEq, reduceIte, Nat.reduceEqDiff, Nat.reduceAdd, Nat.reduceLeDiff, Nat.reduceMul, Int.reduceLT, Int.reduceLE, Int.reduceAdd, Int.reduceSub, Int.reduceMul, Int.reduceNeg, Int.reduceToNat, Int.reduceEq, s.h0, s.h2, h11, h12]
  refine callK_of (k87 F' M' M0 r k _ _ z u bl hu hk hz hzw hlen (by omega)) ?_
  rintro w G M3 ⟨hG, z', u', l', hh, hr, hs⟩
  rw [hG]
  refine ⟨(fun h => by cases h), ?_⟩
  simp only [go_sem, reduceCtorEq, reduceIte, Nat.reduceEqDiff, Nat.reduceAdd, Nat.reduceLeDiff, Nat.reduceMul, Int.reduceLT, Int.reduceLE, Int.reduceAdd, Int.reduceSub, Int.reduceMul, Int.reduceNeg, Int.reduceToNat, Int.reduceEq]
  exact endK_same ⟨rfl, z', u', l', hh, s.rest.trans hr, hR z' l' hs⟩
end Go.Proofs.Tryz.K

/- Contracts: bits moved, bits known, and what comparing tells, of sets with many members. -/
namespace Go.Proofs.Tryz.K
open Go Go.Ax Go.Proofs.Tryz.S
set_option maxRecDepth 100000
set_option linter.unusedSimpArgs false
set_option linter.unusedVariables false
set_option maxHeartbeats 2000000
variable (F : Fz) (M : Hp)

theorem k107 (x y : Int) (h0 : 0 ≤ y) (h1 : y < 64) : CallsA Tryz.prog 107 [.int .i64 x, .int .i64 y] F M (Same F M (.int .i64 (x / 2 ^ y.toNat))) := by
  refine callsA_of hm Tryz.func107 e107 (Nat.le_of_ble_eq_true rfl) ?_
  have e := shr_any (u := x) h0 h1
  have h2 : ¬ y < 0 := by omega
  simp only [c107, go_sem, reduceCtorEq, reduceIte, Nat.reduceEqDiff, Nat.reduceAdd, Nat.reduceLeDiff, Nat.reduceMul, Int.reduceLT, Int.reduceLE, Int.reduceAdd, Int.reduceSub, Int.reduceMul, Int.reduceNeg, Int.reduceToNat, Int.reduceEq, e, h2, not_false_eq_true]
  exact endK_same ⟨rfl, rfl, rfl⟩
/-- On the way through a move of bits. -/
structure Sh (op k pa pb pc pd : Int) (b : V) (r : Nat) (M0 : Hp) (z : V) (l : List Int) (F0 : Fz) (M1 : Hp) (σ : Env) (F : Fz) (M : Hp) : Prop where
  ff : F = F0
  held : ∃ u, Held F0 M0 M r z u l
  rest : Rest M1 M r
  h0 : Ax.look σ 0 = some (.pointer (some ⟨r, 0, none⟩))
  h1 : Ax.look σ 1 = some (.int .i64 op)
  h2 : Ax.look σ 2 = some (.int .i64 k)
  h8 : ∃ r8, Ax.look σ 8 = some (.pointer (some ⟨r8, 0, none⟩)) ∧ M r8 = some ⟨b.cs, 30, 6⟩
  h9 : ∃ r9, Ax.look σ 9 = some (.pointer (some ⟨r9, 0, none⟩)) ∧ M r9 = some ⟨[.int .i64 pa, .int .i64 pb, .int .i64 pc, .int .i64 pd], 87, 4⟩ ∧ M1 r9 = none
  h10 : Ax.look σ 10 = some (.int .i64 (ofW k))
def shiftR (op k pa pb : Int) (b z z' : V) (l' : List Int) : Prop :=
  ∃ d : Int, LastR b (ofW k - 1) d ∧ ((d < 0 ∧ z' = z ∧ l' = (if 0 ≤ b.nextR (ofW k) then [5] else [])) ∨
    (0 ≤ d ∧ op = 17 ∧ ∃ lo hi : Int, (lo ≤ pa / 2 ^ (b.nextR 0).toNat ∧ lo ≤ pa / 2 ^ d.toNat) ∧ (pb / 2 ^ (b.nextR 0).toNat ≤ hi ∧ pb / 2 ^ d.toNat ≤ hi) ∧ leastK k ≤ lo ∧ hi ≤ mostK k ∧ SpanR k lo hi z (if 0 ≤ b.nextR (ofW k) then [5] else []) z' l') ∨
    (0 ≤ d ∧ op = 16 ∧ b.nextR 0 ≤ d ∧ l' = (if 0 ≤ b.nextR (ofW k) then [5] else []) ∧ (z' = V.whole (ofW k) ∨ (0 ≤ pa ∧ pb * 2 ^ d.toNat ≤ mostV (ofW k) ∧ z' = V.span (ofW k) (pa * 2 ^ (b.nextR 0).toNat) (pb * 2 ^ d.toNat)))))
theorem k91 (M0 : Hp) (r : Nat) (op k pa pb pc pd : Int) (b z : V) (u : Value) (h : Held F M0 M r z u []) (hk : isK k = true) (hop : op = 16 ∨ op = 17) (hz : z.ok = true) (hzw : z.w = ofW k) (hb : b.ok = true) (hbw : b.w = ofW k) (nb : ¬ b.nextR 0 < 0) (hp : FourR k pa pb pc pd) :
    CallsA Tryz.prog 91 [.pointer (some ⟨r, 0, none⟩), .int .i64 op, .int .i64 k, b.val, fourV pa pb pc pd] F M (foundP M0 r (shiftR op k pa pb b z) F M) := by
  refine callsA_of hm Tryz.func91 e91 (Nat.le_of_ble_eq_true rfl) ?_
  have kd := kinds hk
  have ow := ofW_most k
  have lw := isW_le (ofW_isW k)
  have ⟨q1, q2, q3, q4, q5, q6⟩ := hp
  simp only [fourV, fourC, c91]
  rw [Go.Ax.seq_assoc]
  refine cut (Sh op k pa pb pc pd b r M0 z [] F M) ?_ ?_
  · simp only [go_sem, reduceCtorEq, reduceIte, Nat.reduceEqDiff, Nat.reduceAdd, Nat.reduceLeDiff, Nat.reduceMul, Int.reduceLT, Int.reduceLE, Int.reduceAdd, Int.reduceSub, Int.reduceMul, Int.reduceNeg, Int.reduceToNat, Int.reduceEq]
    intro r8 hF8 hM8
    have h1 := h.fresh (e := ⟨b.cs, 30, 6⟩) hF8 hM8
    simp only [go_sem, reduceCtorEq, reduceIte, Nat.reduceEqDiff, Nat.reduceAdd, Nat.reduceLeDiff, Nat.reduceMul, Int.reduceLT, Int.reduceLE, Int.reduceAdd, Int.reduceSub, Int.reduceMul, Int.reduceNeg, Int.reduceToNat, Int.reduceEq]
    intro r9 hF9 hM9
    have g9 := fresh_of hM9
    have h2 := h1.fresh (e := ⟨[.int .i64 pa, .int .i64 pb, .int .i64 pc, .int .i64 pd], 87, 4⟩) hF9 hM9
    have rest : ∀ {M'}, Rest ((M.upd r8 ⟨b.cs, 30, 6⟩).upd r9 ⟨[.int .i64 pa, .int .i64 pb, .int .i64 pc, .int .i64 pd], 87, 4⟩) M' r → Rest M M' r := fun h => Rest.fresh hM8 (Rest.fresh hM9 h)
    simp only [go_sem, reduceCtorEq, reduceIte, Nat.reduceEqDiff, Nat.reduceAdd, Nat.reduceLeDiff, Nat.reduceMul, Int.reduceLT, Int.reduceLE, Int.reduceAdd, Int.reduceSub, Int.reduceMul, Int.reduceNeg, Int.reduceToNat, Int.reduceEq]
    refine callK_same (k59 F _ k hk) ?_
    simp only [go_sem, reduceCtorEq, reduceIte, Nat.reduceEqDiff, Nat.reduceAdd, Nat.reduceLeDiff, Nat.reduceMul, Int.reduceLT, Int.reduceLE, Int.reduceAdd, Int.reduceSub, Int.reduceMul, Int.reduceNeg, Int.reduceToNat, Int.reduceEq]
    exact ⟨rfl, ⟨u, h2⟩, rest (Rest.refl _ _), by simp only [go_sem, reduceCtorEq, reduceIte, Nat.reduceEqDiff], by simp only [go_sem, reduceCtorEq, reduceIte, Nat.reduceEqDiff], by simp only [go_sem, reduceCtorEq, reduceIte, Nat.reduceEqDiff], ⟨r8, by simp only [go_sem, reduceCtorEq, reduceIte, Nat.reduceEqDiff], by rw [Hp.upd_ne' g9.2.1]; exact Hp.upd_same _ _ _⟩, ⟨r9, by simp only [go_sem, reduceCtorEq, reduceIte, Nat.reduceEqDiff], Hp.upd_same _ _ _, g9.2.2⟩, by simp only [go_sem, reduceCtorEq, reduceIte, Nat.reduceEqDiff]⟩
  rintro σ F' M' s
  obtain rfl := s.ff
  refine cut (Sh op k pa pb pc pd b r M0 z (if 0 ≤ b.nextR (ofW k) then [5] else []) F' M) ?_ ?_
  · obtain ⟨r8, h8, f8⟩ := s.h8
    obtain ⟨r9, h9, f9, n9⟩ := s.h9
    obtain ⟨u, hu⟩ := s.held
    have b8 := blk_M (F := F') f8
    simp only [go_sem, reduceCtorEq, reduceIte, Nat.reduceEqDiff, Nat.reduceAdd, Nat.reduceLeDiff, Nat.reduceMul, Int.reduceLT, Int.reduceLE, Int.reduceAdd, Int.reduceSub, Int.reduceMul, Int.reduceNeg, Int.reduceToNat, Int.reduceEq, s.h0, s.h1, s.h2, h8, h9, s.h10, b8]
    refine callK_same (k79 F' _ b (ofW k) hb) ?_
    by_cases hc : 0 ≤ b.nextR (ofW k)
    · rw [if_pos hc]
      simp only [go_sem, reduceCtorEq, reduceIte, Nat.reduceEqDiff, Nat.reduceAdd, Nat.reduceLeDiff, Nat.reduceMul, Int.reduceLT, Int.reduceLE, Int.reduceAdd, Int.reduceSub, Int.reduceMul, Int.reduceNeg, Int.reduceToNat, Int.reduceEq, s.h0, s.h1, s.h2, h8, h9, s.h10, b8, hc]
      refine callK_of (k62 F' M' M0 r z u [] 0 5 hu hz (fun h => by cases h) (by simp)) ?_
      rintro w G M2 ⟨hG, z', u', l', hh, hr, hx⟩
      rw [hG]
      refine ⟨(fun h => by cases h), ?_⟩
      rcases hx with ⟨h5, _⟩ | ⟨_, rfl, rfl⟩
      · cases h5
      have ne8 : ¬ r8 = r := by
        rintro rfl
        have := hu.blk
        rw [f8] at this
        have := congrArg (Option.map Ent.size) this
        simp at this
      have ne9 : ¬ r9 = r := by
        rintro rfl
        have := hu.blk
        rw [f9] at this
        cases this
      simp only [go_sem, reduceCtorEq, reduceIte, Nat.reduceEqDiff, Nat.reduceAdd, Nat.reduceLeDiff, Nat.reduceMul, Int.reduceLT, Int.reduceLE, Int.reduceAdd, Int.reduceSub, Int.reduceMul, Int.reduceNeg, Int.reduceToNat, Int.reduceEq, s.h0, s.h1, s.h2, h8, h9, s.h10]
      exact ⟨rfl, ⟨u', hh⟩, s.rest.trans hr, by simp only [go_sem, reduceCtorEq, reduceIte, Nat.reduceEqDiff, s.h0], by simp only [go_sem, reduceCtorEq, reduceIte, Nat.reduceEqDiff, s.h1], by simp only [go_sem, reduceCtorEq, reduceIte, Nat.reduceEqDiff, s.h2], ⟨r8, by simp only [go_sem, reduceCtorEq, reduceIte, Nat.reduceEqDiff, h8], hr _ _ f8 ne8 (fun h => by cases h)⟩, ⟨r9, by simp only [go_sem, reduceCtorEq, reduceIte, Nat.reduceEqDiff, h9], hr _ _ f9 ne9 (fun h => by cases h), n9⟩, by simp only [go_sem, reduceCtorEq, reduceIte, Nat.reduceEqDiff, s.h10]⟩
    · rw [if_neg hc]
      simp only [go_sem, reduceCtorEq, reduceIte, Nat.reduceEqDiff, Nat.reduceAdd, Nat.reduceLeDiff, Nat.reduceMul, Int.reduceLT, Int.reduceLE, Int.reduceAdd, Int.reduceSub, Int.reduceMul, Int.reduceNeg, Int.reduceToNat, Int.reduceEq, s.h0, s.h1, s.h2, h8, h9, s.h10, b8, hc]
      exact ⟨rfl, ⟨u, hu⟩, s.rest, by simp only [go_sem, reduceCtorEq, reduceIte, Nat.reduceEqDiff, s.h0], by simp only [go_sem, reduceCtorEq, reduceIte, Nat.reduceEqDiff, s.h1], by simp only [go_sem, reduceCtorEq, reduceIte, Nat.reduceEqDiff, s.h2], ⟨r8, by simp only [go_sem, reduceCtorEq, reduceIte, Nat.reduceEqDiff, h8], f8⟩, ⟨r9, by simp only [go_sem, reduceCtorEq, reduceIte, Nat.reduceEqDiff, h9], f9, n9⟩, by simp only [go_sem, reduceCtorEq, reduceIte, Nat.reduceEqDiff, s.h10]⟩
  clear s
  rintro σ F' M' s
  obtain rfl := s.ff
  obtain ⟨r8, h8, f8⟩ := s.h8
  obtain ⟨r9, h9, f9, n9⟩ := s.h9
  obtain ⟨u, hu⟩ := s.held
  have b8 := blk_M (F := F') f8
  have b9 := blk_M (F := F') f9
  have w1 : IntKind.i64.wrap (ofW k - 1) = ofW k - 1 := w64 (by omega) (by omega)
  simp only [go_sem, reduceCtorEq, reduceIte, Nat.reduceEqDiff, Nat.reduceAdd, Nat.reduceLeDiff, Nat.reduceMul, Int.reduceLT, Int.reduceLE, Int.reduceAdd, Int.reduceSub, Int.reduceMul, Int.reduceNeg, Int.reduceToNat, Int.reduceEq, s.h0, s.h1, s.h2, h8, h9, s.h10, b8, w1]
  refine callK_same (k79 F' _ b 0 hb) ?_
  simp only [go_sem, reduceCtorEq, reduceIte, Nat.reduceEqDiff, Nat.reduceAdd, Nat.reduceLeDiff, Nat.reduceMul, Int.reduceLT, Int.reduceLE, Int.reduceAdd, Int.reduceSub, Int.reduceMul, Int.reduceNeg, Int.reduceToNat, Int.reduceEq, s.h0, s.h1, s.h2, h8, h9, s.h10, b8, w1]
  refine callK_of (k84 F' _ b (ofW k - 1) hb (by omega) (by rw [hbw]; omega)) ?_
  rintro w G M2 ⟨hG, rfl, d, rfl, hd⟩
  rw [hG]
  refine ⟨fun _ => Le.refl _ _, ?_⟩
  by_cases hdn : d < 0
  · simp only [go_sem, reduceCtorEq, reduceIte, Nat.reduceEqDiff, Nat.reduceAdd, Nat.reduceLeDiff, Nat.reduceMul, Int.reduceLT, Int.reduceLE, Int.reduceAdd, Int.reduceSub, Int.reduceMul, Int.reduceNeg, Int.reduceToNat, Int.reduceEq, s.h0, s.h1, s.h2, h8, h9, s.h10, hdn]
    exact endK_same ⟨rfl, z, u, _, hu, s.rest, d, hd, .inl ⟨hdn, rfl, rfl⟩⟩
  have hcd : 0 ≤ b.nextR 0 ∧ b.nextR 0 ≤ d ∧ d ≤ ofW k - 1 := by
    rcases hd with ⟨h, _⟩ | ⟨d0, d1, d2, _⟩
    · omega
    · rcases nextR_spec hb (n := 0) (by omega) with ⟨k1, k2, k3, k4, k5⟩ | ⟨_, k2⟩
      · refine ⟨by omega, ?_, d1⟩
        by_cases hlt : d < b.nextR 0
        · rw [k5 d d0 hlt] at d2; cases d2
        · omega
      · omega
  have r9r : ¬ r9 = r := by
    rintro rfl
    have := hu.blk
    rw [f9] at this
    cases this
  have hc0 : ¬ b.nextR 0 < 0 := nb
  generalize hcv : b.nextR 0 = c at *
  generalize hbl : (if 0 ≤ b.nextR (ofW k) then [(5 : Int)] else []) = bl at *
  have hlen : bl.length ≤ 1000 := by rw [← hbl]; split <;> simp
  have q0 : M0 r9 = none := by
    have := hu.kp
    cases hm : M0 r9 with
    | none => rfl
    | some e => have h1 := h.kp r9 e hm; rw [n9] at h1; cases h1
  have hu2 := hu.other (e := ⟨[.int .i64 pa, .int .i64 pb, .int .i64 c, .int .i64 d], 87, 4⟩) f9 (fun h => by cases h) r9r q0
  have rest2 : Rest M (M2.upd r9 ⟨[.int .i64 pa, .int .i64 pb, .int .i64 c, .int .i64 d], 87, 4⟩) r := fun bb x hx h3 h4 => by
    rw [Hp.upd_ne' (ne_of_none n9 hx).1]; exact s.rest _ _ hx h3 h4
  have f92 : (M2.upd r9 ⟨[.int .i64 pa, .int .i64 pb, .int .i64 c, .int .i64 d], 87, 4⟩) r9 = some ⟨[.int .i64 pa, .int .i64 pb, .int .i64 c, .int .i64 d], 87, 4⟩ := Hp.upd_same _ _ _
  rcases hop with rfl | rfl
  rotate_left
  · simp only [go_sem, reduceCtorEq, reduceIte, Nat.reduceEqDiff, Nat.reduceAdd, Nat.reduceLeDiff, Nat.reduceMul, Int.reduceLT, Int.reduceLE, Int.reduceAdd, Int.reduceSub, Int.reduceMul, Int.reduceNeg, Int.reduceToNat, Int.reduceEq, s.h0, s.h1, s.h2, h8, h9, s.h10, hdn, f9]
    simp only [setH, Hp.upd_upd, go_sem, reduceCtorEq, reduceIte, Nat.reduceEqDiff, Nat.reduceAdd, Nat.reduceLeDiff, Nat.reduceMul, Int.reduceLT, Int.reduceLE, Int.reduceAdd, Int.reduceSub, Int.reduceMul, Int.reduceNeg, Int.reduceToNat, Int.reduceEq, s.h0, s.h1, s.h2, h8, h9, s.h10]
    generalize M2.upd r9 ⟨[.int .i64 pa, .int .i64 pb, .int .i64 c, .int .i64 d], 87, 4⟩ = M3 at *
    have rab := shr_range (e := c.toNat) hk (u := pa) q1 (by omega)
    have rad := shr_range (e := d.toNat) hk (u := pa) q1 (by omega)
    have rbb := shr_range (e := c.toNat) hk (u := pb) (by omega) q3
    have rbd := shr_range (e := d.toNat) hk (u := pb) (by omega) q3
    refine callK_of (k105 F' M3 pa pb c d 107 (fun x y => x / 2 ^ y.toNat) fun M x y hx hy => k107 F' M x y (by omega) (by omega)) ?_
    rintro w G M4 ⟨hG, rfl, lo, hi, rfl, l1, l2, l3, l4⟩
    rw [hG]
    refine ⟨(fun h => by cases h), ?_⟩
    have hlo : leastK k ≤ lo := by rcases l3 with h | h | h | h <;> omega
    have hhi : hi ≤ mostK k := by rcases l4 with h | h | h | h <;> omega
    simp only [go_sem, reduceCtorEq, reduceIte, Nat.reduceEqDiff, Nat.reduceAdd, Nat.reduceLeDiff, Nat.reduceMul, Int.reduceLT, Int.reduceLE, Int.reduceAdd, Int.reduceSub, Int.reduceMul, Int.reduceNeg, Int.reduceToNat, Int.reduceEq, s.h0, s.h1, s.h2, h8, h9, s.h10]
    refine callK_of (k87 F' M4 M0 r k lo hi z u bl hu2 hk hz hzw hlen (by omega)) ?_
    rintro w G M5 ⟨hG, z', u', l', hh, hr, hs⟩
    rw [hG]
    refine ⟨(fun h => by cases h), ?_⟩
    simp only [go_sem, reduceCtorEq, reduceIte, Nat.reduceEqDiff, Nat.reduceAdd, Nat.reduceLeDiff, Nat.reduceMul, Int.reduceLT, Int.reduceLE, Int.reduceAdd, Int.reduceSub, Int.reduceMul, Int.reduceNeg, Int.reduceToNat, Int.reduceEq]
    refine endK_same ⟨rfl, z', u', l', hh, rest2.trans hr, d, hd, .inr (.inl ⟨by omega, rfl, lo, hi, ?_, ?_, hlo, hhi, by rw [hbl]; exact hs⟩)⟩
    · rw [hcv]; exact ⟨l1.1, l1.2.1⟩
    · rw [hcv]; exact ⟨l2.2.2.1, l2.2.2.2⟩
  · simp only [go_sem, reduceCtorEq, reduceIte, Nat.reduceEqDiff, Nat.reduceAdd, Nat.reduceLeDiff, Nat.reduceMul, Int.reduceLT, Int.reduceLE, Int.reduceAdd, Int.reduceSub, Int.reduceMul, Int.reduceNeg, Int.reduceToNat, Int.reduceEq, s.h0, s.h1, s.h2, h8, h9, s.h10, hdn, f9]
    simp only [setH, Hp.upd_upd, go_sem, reduceCtorEq, reduceIte, Nat.reduceEqDiff, Nat.reduceAdd, Nat.reduceLeDiff, Nat.reduceMul, Int.reduceLT, Int.reduceLE, Int.reduceAdd, Int.reduceSub, Int.reduceMul, Int.reduceNeg, Int.reduceToNat, Int.reduceEq, s.h0, s.h1, s.h2, h8, h9, s.h10]
    generalize M2.upd r9 ⟨[.int .i64 pa, .int .i64 pb, .int .i64 c, .int .i64 d], 87, 4⟩ = M3 at *
    have b92 := blk_M (F := F') f92
    have hb2 := hu2.blk
    refine callK_same (k66 F' _ _ lw.1 lw.2) ?_
    simp only [go_sem, reduceCtorEq, reduceIte, Nat.reduceEqDiff, Nat.reduceAdd, Nat.reduceLeDiff, Nat.reduceMul, Int.reduceLT, Int.reduceLE, Int.reduceAdd, Int.reduceSub, Int.reduceMul, Int.reduceNeg, Int.reduceToNat, Int.reduceEq, s.h0, s.h1, s.h2, h8, h9, s.h10, hb2]
    simp only [setH, go_sem, reduceCtorEq, reduceIte, Nat.reduceEqDiff, Nat.reduceAdd, Nat.reduceLeDiff, Nat.reduceMul, Int.reduceLT, Int.reduceLE, Int.reduceAdd, Int.reduceSub, Int.reduceMul, Int.reduceNeg, Int.reduceToNat, Int.reduceEq, s.h0, s.h1, s.h2, h8, h9, s.h10]
    obtain ⟨hu3, rs3⟩ := hu2.set (V.whole (ofW k))
    have f93 := rs3 _ _ f92 r9r (fun h => by cases h)
    have rest3 := rest2.trans rs3
    have b93 := blk_M (F := F') f93
    have hb3 := hu3.blk
    have eab : (V.whole (ofW k)).cs ++ List.drop 6 (abCs z u) = abCs (V.whole (ofW k)) u := rfl
    rw [eab]
    generalize M3.upd r ⟨abCs (V.whole (ofW k)) u, 77, 7⟩ = M4 at *
    have none : shiftR 16 k pa pb b z (V.whole (ofW k)) bl := ⟨d, hd, .inr (.inr ⟨by omega, rfl, by rw [hcv]; omega, hbl.symm, .inl rfl⟩)⟩
    by_cases hpa : 0 ≤ pa
    · have es := shl_in (a := pb) (v := d) (by omega) (by omega) (by omega) (by omega)
      have es2 := shl_in (a := pa) (v := c) (by omega) (by omega) (by omega) (by omega)
      simp only [go_sem, reduceCtorEq, reduceIte, Nat.reduceEqDiff, Nat.reduceAdd, Nat.reduceLeDiff, Nat.reduceMul, Int.reduceLT, Int.reduceLE, Int.reduceAdd, Int.reduceSub, Int.reduceMul, Int.reduceNeg, Int.reduceToNat, Int.reduceEq, s.h0, s.h1, s.h2, h8, h9, s.h10, b93, hpa, hdn, es, not_false_eq_true]
      refine callK_same (k65 F' _ _ lw.1 lw.2) ?_
      by_cases hle : pb * 2 ^ d.toNat ≤ mostV (ofW k)
      · simp only [go_sem, reduceCtorEq, reduceIte, Nat.reduceEqDiff, Nat.reduceAdd, Nat.reduceLeDiff, Nat.reduceMul, Int.reduceLT, Int.reduceLE, Int.reduceAdd, Int.reduceSub, Int.reduceMul, Int.reduceNeg, Int.reduceToNat, Int.reduceEq, s.h0, s.h1, s.h2, h8, h9, s.h10, b93, hle, hdn, hc0, es, es2, not_false_eq_true]
        refine callK_same (k67 F' _ _ _ _ lw.1 lw.2) ?_
        simp only [go_sem, reduceCtorEq, reduceIte, Nat.reduceEqDiff, Nat.reduceAdd, Nat.reduceLeDiff, Nat.reduceMul, Int.reduceLT, Int.reduceLE, Int.reduceAdd, Int.reduceSub, Int.reduceMul, Int.reduceNeg, Int.reduceToNat, Int.reduceEq, s.h0, s.h1, s.h2, h8, h9, s.h10, hb3]
        simp only [setH, go_sem, reduceCtorEq, reduceIte, Nat.reduceEqDiff, Nat.reduceAdd, Nat.reduceLeDiff, Nat.reduceMul, Int.reduceLT, Int.reduceLE, Int.reduceAdd, Int.reduceSub, Int.reduceMul, Int.reduceNeg, Int.reduceToNat, Int.reduceEq]
        obtain ⟨hu4, rs4⟩ := hu3.set (V.span (ofW k) (pa * 2 ^ c.toNat) (pb * 2 ^ d.toNat))
        exact endK_same ⟨rfl, _, u, bl, hu4, rest3.trans rs4, d, hd, .inr (.inr ⟨by omega, rfl, by rw [hcv]; omega, hbl.symm, .inr ⟨hpa, hle, by rw [hcv]⟩⟩)⟩
      · simp only [go_sem, reduceCtorEq, reduceIte, Nat.reduceEqDiff, Nat.reduceAdd, Nat.reduceLeDiff, Nat.reduceMul, Int.reduceLT, Int.reduceLE, Int.reduceAdd, Int.reduceSub, Int.reduceMul, Int.reduceNeg, Int.reduceToNat, Int.reduceEq, s.h0, s.h1, s.h2, h8, h9, s.h10, b93, hle]
        exact endK_same ⟨rfl, _, u, bl, hu3, rest3, none⟩
    · simp only [go_sem, reduceCtorEq, reduceIte, Nat.reduceEqDiff, Nat.reduceAdd, Nat.reduceLeDiff, Nat.reduceMul, Int.reduceLT, Int.reduceLE, Int.reduceAdd, Int.reduceSub, Int.reduceMul, Int.reduceNeg, Int.reduceToNat, Int.reduceEq, s.h0, s.h1, s.h2, h8, h9, s.h10, b93, hpa]
      exact endK_same ⟨rfl, _, u, bl, hu3, rest3, none⟩
end Go.Proofs.Tryz.K

/- Contracts: bits known, and what comparing tells, of sets with many members. -/
namespace Go.Proofs.Tryz.K
open Go Go.Ax Go.Proofs.Tryz.S
set_option maxRecDepth 100000
set_option linter.unusedSimpArgs false
set_option linter.unusedVariables false
set_option maxHeartbeats 2000000
variable (F : Fz) (M : Hp)

def cmpL (yes no : Bool) : List (Int × Int) := (if yes then [(1, 0)] else []) ++ (if no then [(0, 0)] else [])
def cmpR (op k : Int) (a b : V) (pa pb pc pd : Int) (z' : V) (l' : List Int) : Prop :=
  ∃ yes no : Bool, AddI 32 ((if yes then [(1, 0)] else []) ++ (if no then [(0, 0)] else [])) z' [] ∧ l' = [] ∧ (op = 18 → no = true ∧ ∃ x, MeetR a b x ∧ yes = !decide (x.nextR 0 < 0)) ∧ (op = 19 → yes = decide (pa < pd) ∧ no = decide (pc ≤ pb))
/-- On the way through a comparing. -/
structure Cm (R : List (Int × Int)) (yes no : Bool) (r : Nat) (M0 : Hp) (F0 : Fz) (M1 : Hp) (σ : Env) (F : Fz) (M : Hp) : Prop where
  ff : F = F0
  held : ∃ z u, Held F0 M0 M r z u [] ∧ AddI 32 R z []
  rest : Rest M1 M r
  h0 : Ax.look σ 0 = some (.pointer (some ⟨r, 0, none⟩))
  h10 : Ax.look σ 10 = some (.bool yes)
  h11 : Ax.look σ 11 = some (.bool no)
def CmE (op k : Int) (a b : V) (pa pb pc pd : Int) (r : Nat) (M0 : Hp) (F0 : Fz) (M1 : Hp) (σ : Env) (F : Fz) (M : Hp) : Prop :=
  ∃ yes no : Bool, Cm [] yes no r M0 F0 M1 σ F M ∧ (op = 18 → no = true ∧ ∃ x, MeetR a b x ∧ yes = !decide (x.nextR 0 < 0)) ∧ (op = 19 → yes = decide (pa < pd) ∧ no = decide (pc ≤ pb))
theorem k92 (M0 : Hp) (r : Nat) (op k pa pb pc pd : Int) (a b : V) (u : Value) (h : Held F M0 M r (V.nothing 32) u []) (hop : op = 18 ∨ op = 19) (ha : a.ok = true) (hb : b.ok = true) (hw : b.w = a.w) :
    CallsA Tryz.prog 92 [.pointer (some ⟨r, 0, none⟩), .int .i64 op, a.val, b.val, fourV pa pb pc pd] F M (foundP M0 r (cmpR op k a b pa pb pc pd) F M) := by
  refine callsA_of hm Tryz.func92 e92 (Nat.le_of_ble_eq_true rfl) ?_
  simp only [fourV, fourC, c92]
  rw [Go.Ax.seq_assoc, Go.Ax.seq_assoc]
  refine cut (CmE op k a b pa pb pc pd r M0 F M) ?_ ?_
  · simp only [go_sem, reduceCtorEq, reduceIte, Nat.reduceEqDiff, Nat.reduceAdd, Nat.reduceLeDiff, Nat.reduceMul, Int.reduceLT, Int.reduceLE, Int.reduceAdd, Int.reduceSub, Int.reduceMul, Int.reduceNeg, Int.reduceToNat, Int.reduceEq]
    intro r7 hF7 hM7
    have h1 := h.fresh (e := ⟨a.cs, 30, 6⟩) hF7 hM7
    simp only [go_sem, reduceCtorEq, reduceIte, Nat.reduceEqDiff, Nat.reduceAdd, Nat.reduceLeDiff, Nat.reduceMul, Int.reduceLT, Int.reduceLE, Int.reduceAdd, Int.reduceSub, Int.reduceMul, Int.reduceNeg, Int.reduceToNat, Int.reduceEq]
    intro r8 hF8 hM8
    have g8 := fresh_of hM8
    have h2 := h1.fresh (e := ⟨b.cs, 30, 6⟩) hF8 hM8
    simp only [go_sem, reduceCtorEq, reduceIte, Nat.reduceEqDiff, Nat.reduceAdd, Nat.reduceLeDiff, Nat.reduceMul, Int.reduceLT, Int.reduceLE, Int.reduceAdd, Int.reduceSub, Int.reduceMul, Int.reduceNeg, Int.reduceToNat, Int.reduceEq]
    intro r9 hF9 hM9
    have g9 := fresh_of hM9
    have g98 := fresh_of g9.2.2
    have h3 := h2.fresh (e := ⟨[.int .i64 pa, .int .i64 pb, .int .i64 pc, .int .i64 pd], 87, 4⟩) hF9 hM9
    have rest : Rest M (((M.upd r7 ⟨a.cs, 30, 6⟩).upd r8 ⟨b.cs, 30, 6⟩).upd r9 ⟨[.int .i64 pa, .int .i64 pb, .int .i64 pc, .int .i64 pd], 87, 4⟩) r := Rest.fresh hM7 (Rest.fresh hM8 (Rest.fresh hM9 (Rest.refl _ _)))
    have i0 : AddI 32 [] (V.nothing 32) [] := AddI.nil (by decide)
    rcases hop with rfl | rfl
    · simp only [go_sem, reduceCtorEq, reduceIte, Nat.reduceEqDiff, Nat.reduceAdd, Nat.reduceLeDiff, Nat.reduceMul, Int.reduceLT, Int.reduceLE, Int.reduceAdd, Int.reduceSub, Int.reduceMul, Int.reduceNeg, Int.reduceToNat, Int.reduceEq, g8, g9, g98]
      refine callK_of (k108 F _ a b ha hb hw) ?_
      rintro w G M2 ⟨hG, rfl, x, rfl, hx⟩
      rw [hG]
      refine ⟨(fun h => by cases h), ?_⟩
      simp only [go_sem, reduceCtorEq, reduceIte, Nat.reduceEqDiff, Nat.reduceAdd, Nat.reduceLeDiff, Nat.reduceMul, Int.reduceLT, Int.reduceLE, Int.reduceAdd, Int.reduceSub, Int.reduceMul, Int.reduceNeg, Int.reduceToNat, Int.reduceEq]
      refine callK_same (k72 F _ x hx.ok) ?_
      simp only [go_sem, reduceCtorEq, reduceIte, Nat.reduceEqDiff, Nat.reduceAdd, Nat.reduceLeDiff, Nat.reduceMul, Int.reduceLT, Int.reduceLE, Int.reduceAdd, Int.reduceSub, Int.reduceMul, Int.reduceNeg, Int.reduceToNat, Int.reduceEq]
      exact ⟨!decide (x.nextR 0 < 0), true, ⟨rfl, ⟨_, u, h3, i0⟩, rest, by simp only [go_sem, reduceCtorEq, reduceIte, Nat.reduceEqDiff], by simp only [go_sem, reduceCtorEq, reduceIte, Nat.reduceEqDiff], by simp only [go_sem, reduceCtorEq, reduceIte, Nat.reduceEqDiff]⟩, fun _ => ⟨rfl, x, hx, rfl⟩, (fun h => by cases h)⟩
    · simp only [go_sem, reduceCtorEq, reduceIte, Nat.reduceEqDiff, Nat.reduceAdd, Nat.reduceLeDiff, Nat.reduceMul, Int.reduceLT, Int.reduceLE, Int.reduceAdd, Int.reduceSub, Int.reduceMul, Int.reduceNeg, Int.reduceToNat, Int.reduceEq, g8, g9, g98]
      exact ⟨decide (pa < pd), decide (pc ≤ pb), ⟨rfl, ⟨_, u, h3, i0⟩, rest, by simp only [go_sem, reduceCtorEq, reduceIte, Nat.reduceEqDiff], by simp only [go_sem, reduceCtorEq, reduceIte, Nat.reduceEqDiff], by simp only [go_sem, reduceCtorEq, reduceIte, Nat.reduceEqDiff]⟩, (fun h => by cases h), fun _ => ⟨rfl, rfl⟩⟩
  rintro σ F' M' ⟨yes, no, s, hy18, hy19⟩
  obtain rfl := s.ff
  refine cut (Cm (if yes then [(1, 0)] else []) yes no r M0 F' M) ?_ ?_
  · obtain ⟨z, u, hu, ai⟩ := s.held
    cases yes
    · simp only [go_sem, reduceCtorEq, reduceIte, Nat.reduceEqDiff, Nat.reduceAdd, Nat.reduceLeDiff, Nat.reduceMul, Int.reduceLT, Int.reduceLE, Int.reduceAdd, Int.reduceSub, Int.reduceMul, Int.reduceNeg, Int.reduceToNat, Int.reduceEq, s.h0, s.h10, s.h11]
      exact ⟨rfl, ⟨z, u, hu, ai⟩, s.rest, by simp only [go_sem, reduceCtorEq, reduceIte, Nat.reduceEqDiff, s.h0], by simp only [go_sem, reduceCtorEq, reduceIte, Nat.reduceEqDiff, s.h10], by simp only [go_sem, reduceCtorEq, reduceIte, Nat.reduceEqDiff, s.h11]⟩
    · simp only [go_sem, reduceCtorEq, reduceIte, Nat.reduceEqDiff, Nat.reduceAdd, Nat.reduceLeDiff, Nat.reduceMul, Int.reduceLT, Int.reduceLE, Int.reduceAdd, Int.reduceSub, Int.reduceMul, Int.reduceNeg, Int.reduceToNat, Int.reduceEq, s.h0, s.h10, s.h11]
      refine callK_of (k62 F' M' M0 r z u [] 1 0 hu ai.ok (fun _ => by rw [ai.w]; decide) (by simp)) ?_
      rintro w G M2 ⟨hG, z', u', l', hh, hr, hx⟩
      rw [hG]
      refine ⟨(fun h => by cases h), ?_⟩
      rcases hx with ⟨_, rfl, hbo⟩ | ⟨h0, _⟩
      rotate_left
      · exact absurd rfl h0
      simp only [go_sem, reduceCtorEq, reduceIte, Nat.reduceEqDiff, Nat.reduceAdd, Nat.reduceLeDiff, Nat.reduceMul, Int.reduceLT, Int.reduceLE, Int.reduceAdd, Int.reduceSub, Int.reduceMul, Int.reduceNeg, Int.reduceToNat, Int.reduceEq, s.h0, s.h10, s.h11]
      rw [ai.w] at hbo
      exact ⟨rfl, ⟨z', u', hh, ai.addNum (by decide) hbo⟩, s.rest.trans hr, by simp only [go_sem, reduceCtorEq, reduceIte, Nat.reduceEqDiff, s.h0], by simp only [go_sem, reduceCtorEq, reduceIte, Nat.reduceEqDiff, s.h10], by simp only [go_sem, reduceCtorEq, reduceIte, Nat.reduceEqDiff, s.h11]⟩
  clear s
  rintro σ F' M' s
  obtain rfl := s.ff
  obtain ⟨z, u, hu, ai⟩ := s.held
  cases no
  · simp only [go_sem, reduceCtorEq, reduceIte, Nat.reduceEqDiff, Nat.reduceAdd, Nat.reduceLeDiff, Nat.reduceMul, Int.reduceLT, Int.reduceLE, Int.reduceAdd, Int.reduceSub, Int.reduceMul, Int.reduceNeg, Int.reduceToNat, Int.reduceEq, s.h0, s.h10, s.h11]
    exact endK_same ⟨rfl, z, u, [], hu, s.rest, yes, false, by simpa using ai, rfl, hy18, hy19⟩
  · simp only [go_sem, reduceCtorEq, reduceIte, Nat.reduceEqDiff, Nat.reduceAdd, Nat.reduceLeDiff, Nat.reduceMul, Int.reduceLT, Int.reduceLE, Int.reduceAdd, Int.reduceSub, Int.reduceMul, Int.reduceNeg, Int.reduceToNat, Int.reduceEq, s.h0, s.h10, s.h11]
    refine callK_of (k62 F' M' M0 r z u [] 0 0 hu ai.ok (fun _ => by rw [ai.w]; decide) (by simp)) ?_
    rintro w G M2 ⟨hG, z', u', l', hh, hr, hx⟩
    rw [hG]
    refine ⟨(fun h => by cases h), ?_⟩
    rcases hx with ⟨_, rfl, hbo⟩ | ⟨h0, _⟩
    rotate_left
    · exact absurd rfl h0
    simp only [go_sem, reduceCtorEq, reduceIte, Nat.reduceEqDiff, Nat.reduceAdd, Nat.reduceLeDiff, Nat.reduceMul, Int.reduceLT, Int.reduceLE, Int.reduceAdd, Int.reduceSub, Int.reduceMul, Int.reduceNeg, Int.reduceToNat, Int.reduceEq, s.h0, s.h10, s.h11]
    rw [ai.w] at hbo
    exact endK_same ⟨rfl, z', u', [], hh, s.rest.trans hr, yes, true, ai.addNum (by decide) hbo, rfl, hy18, hy19⟩
theorem k90 (op : Int) (a b : V) (hop : op = 13 ∨ op = 14 ∨ op = 15) (ha : a.ok = true) {aB aF bB bF : Nat} (ea : a.bits = aB) (fa : a.free = aF) (eb : b.bits = bB) (fb : b.free = bF) (h1 : aB < 2 ^ 62) (h2 : aF < 2 ^ 62) (h3 : bB < 2 ^ 62) (h4 : bF < 2 ^ 62) :
    CallsA Tryz.prog 90 [.int .i64 op, a.val, b.val] F M (Same F M (bitV a.w (bitO op aB aF bB bF) (bitM op aB aF bB bF)).val) := by
  refine callsA_of hm Tryz.func90 e90 (Nat.le_of_ble_eq_true rfl) ?_
  simp only [c90, go_sem, reduceCtorEq, reduceIte, Nat.reduceEqDiff, Nat.reduceAdd, Nat.reduceLeDiff, Nat.reduceMul, Int.reduceLT, Int.reduceLE, Int.reduceAdd, Int.reduceSub, Int.reduceMul, Int.reduceNeg, Int.reduceToNat, Int.reduceEq]
  intro r4 hF4 hM4
  simp only [go_sem, reduceCtorEq, reduceIte, Nat.reduceEqDiff, Nat.reduceAdd, Nat.reduceLeDiff, Nat.reduceMul, Int.reduceLT, Int.reduceLE, Int.reduceAdd, Int.reduceSub, Int.reduceMul, Int.reduceNeg, Int.reduceToNat, Int.reduceEq]
  intro r5 hF5 hM5
  have g5 := fresh_of hM5
  simp only [go_sem, reduceCtorEq, reduceIte, Nat.reduceEqDiff, Nat.reduceAdd, Nat.reduceLeDiff, Nat.reduceMul, Int.reduceLT, Int.reduceLE, Int.reduceAdd, Int.reduceSub, Int.reduceMul, Int.reduceNeg, Int.reduceToNat, Int.reduceEq]
  intro r6 hF6 hM6
  have g6 := fresh_of hM6
  have g64 := fresh_of g6.2.2
  have hi := ok_in ha
  have lw := isW_le hi.w
  have p62 : (2 : Nat) ^ 62 < 2 ^ 63 := by decide
  have z1 : aB < 2 ^ 63 := by omega
  have z2 : aF < 2 ^ 63 := by omega
  have z3 : bB < 2 ^ 63 := by omega
  have z4 : bF < 2 ^ 63 := by omega
  have esg : (if IntKind.i64.signed = true then (-1 : Int) else IntKind.i64.max) = -1 := rfl
  have e1 := band_nat z1 z3
  have e2 := bor_nat z1 z2
  have e3 := not_p (or63 z1 z2)
  have e4 := bor_nat z3 z4
  have e5 := not_p (or63 z3 z4)
  have e6 := bor_nn (or63 z1 z2) (or63 z3 z4)
  have e7 := bor_nat z1 z3
  have e8 := bclr_np (or63 z1 z2) (or63 z3 z4)
  have e9 := bor_nat z2 z4
  have e10 := not_p (or63 z2 z4)
  have e11 := bxor_nat z1 z3
  have e12 := band_pn (xor63 z1 z3) (or63 z2 z4)
  have e13 := not_p (xor63 z1 z3)
  have e14 := band_nn (xor63 z1 z3) (or63 z2 z4)
  have bm : ∀ n : Nat, band .i64 (n : Int) (mostV a.w) = ((n % 2 ^ a.w.toNat : Nat) : Int) := fun n => by
    rw [band_mostV _ lw.2]; simp
  have fin : ∀ (o m : Nat), o < 2 ^ 63 → m < 2 ^ 63 → bxor .i64 (-1) (negN m) = m ∧ bor .i64 (o : Int) (negN m) = negN (clr m o) ∧ bxor .i64 (-1) (negN (clr m o)) = (clr m o : Nat) := fun o m ho hm => ⟨not_n hm, bor_pn ho hm, not_n (clr63 hm)⟩
  rcases hop with rfl | rfl | rfl
  · obtain ⟨f1, f2, f3⟩ := fin (aB &&& bB) ((aB ||| aF) &&& (bB ||| bF)) (and63 z1) (and63 (or63 z1 z2))
    simp only [go_sem, reduceCtorEq, reduceIte, Nat.reduceEqDiff, Nat.reduceAdd, Nat.reduceLeDiff, Nat.reduceMul, Int.reduceLT, Int.reduceLE, Int.reduceAdd, Int.reduceSub, Int.reduceMul, Int.reduceNeg, Int.reduceToNat, Int.reduceEq, g5, g6, g64, ea, fa, eb, fb, esg, e1, e2, e3, e4, e5, e6]
    refine callK_same (k65 F _ _ lw.1 lw.2) ?_
    simp only [go_sem, reduceCtorEq, reduceIte, Nat.reduceEqDiff, Nat.reduceAdd, Nat.reduceLeDiff, Nat.reduceMul, Int.reduceLT, Int.reduceLE, Int.reduceAdd, Int.reduceSub, Int.reduceMul, Int.reduceNeg, Int.reduceToNat, Int.reduceEq, g5, g6, g64, esg, bm, f1, f2, f3]
    exact endK_drop hM6 (endK_drop hM5 (endK_drop hM4 (endK_same ⟨rfl, rfl, rfl⟩)))
  · obtain ⟨f1, f2, f3⟩ := fin (aB ||| bB) ((aB ||| aF) ||| (bB ||| bF)) (or63 z1 z3) (or63 (or63 z1 z2) (or63 z3 z4))
    simp only [go_sem, reduceCtorEq, reduceIte, Nat.reduceEqDiff, Nat.reduceAdd, Nat.reduceLeDiff, Nat.reduceMul, Int.reduceLT, Int.reduceLE, Int.reduceAdd, Int.reduceSub, Int.reduceMul, Int.reduceNeg, Int.reduceToNat, Int.reduceEq, g5, g6, g64, ea, fa, eb, fb, esg, e1, e2, e3, e4, e5, e6, e7, e8]
    refine callK_same (k65 F _ _ lw.1 lw.2) ?_
    simp only [go_sem, reduceCtorEq, reduceIte, Nat.reduceEqDiff, Nat.reduceAdd, Nat.reduceLeDiff, Nat.reduceMul, Int.reduceLT, Int.reduceLE, Int.reduceAdd, Int.reduceSub, Int.reduceMul, Int.reduceNeg, Int.reduceToNat, Int.reduceEq, g5, g6, g64, esg, bm, f1, f2, f3]
    exact endK_drop hM6 (endK_drop hM5 (endK_drop hM4 (endK_same ⟨rfl, rfl, rfl⟩)))
  · obtain ⟨f1, f2, f3⟩ := fin (clr (aB ^^^ bB) (aF ||| bF)) ((aB ^^^ bB) ||| (aF ||| bF)) (clr63 (xor63 z1 z3)) (or63 (xor63 z1 z3) (or63 z2 z4))
    simp only [go_sem, reduceCtorEq, reduceIte, Nat.reduceEqDiff, Nat.reduceAdd, Nat.reduceLeDiff, Nat.reduceMul, Int.reduceLT, Int.reduceLE, Int.reduceAdd, Int.reduceSub, Int.reduceMul, Int.reduceNeg, Int.reduceToNat, Int.reduceEq, g5, g6, g64, ea, fa, eb, fb, esg, e1, e2, e3, e4, e5, e6, e9, e10, e11, e12, e13, e14]
    refine callK_same (k65 F _ _ lw.1 lw.2) ?_
    simp only [go_sem, reduceCtorEq, reduceIte, Nat.reduceEqDiff, Nat.reduceAdd, Nat.reduceLeDiff, Nat.reduceMul, Int.reduceLT, Int.reduceLE, Int.reduceAdd, Int.reduceSub, Int.reduceMul, Int.reduceNeg, Int.reduceToNat, Int.reduceEq, g5, g6, g64, esg, bm, f1, f2, f3]
    exact endK_drop hM6 (endK_drop hM5 (endK_drop hM4 (endK_same ⟨rfl, rfl, rfl⟩)))
end Go.Proofs.Tryz.K

/- Contracts: an operator of two sets, of which one has many members. -/
namespace Go.Proofs.Tryz.K
open Go Go.Ax Go.Proofs.Tryz.S
set_option maxRecDepth 100000
set_option linter.unusedSimpArgs false
set_option linter.unusedVariables false
set_option maxHeartbeats 4000000
variable (F : Fz) (M : Hp)

/-- Behind the question what a kind sees in both sets. -/
structure Mn (op k : Int) (a b z : V) (r : Nat) (M0 : Hp) (F0 : Fz) (M1 : Hp) (pa pb pc pd : Int) (σ : Env) (F : Fz) (M : Hp) : Prop where
  ff : F = F0
  held : ∃ u, Held F0 M0 M r z u []
  rest : Rest M1 M r
  h0 : Ax.look σ 0 = some (.pointer (some ⟨r, 0, none⟩))
  h1 : Ax.look σ 1 = some (.int .i64 op)
  h2 : Ax.look σ 2 = some (.int .i64 k)
  h8 : ∃ r8, Ax.look σ 8 = some (.pointer (some ⟨r8, 0, none⟩)) ∧ M r8 = some ⟨a.cs, 30, 6⟩
  h9 : ∃ r9, Ax.look σ 9 = some (.pointer (some ⟨r9, 0, none⟩)) ∧ M r9 = some ⟨b.cs, 30, 6⟩
  h10 : ∃ r10, Ax.look σ 10 = some (.pointer (some ⟨r10, 0, none⟩)) ∧ M r10 = some ⟨[.int .i64 pa, .int .i64 pb, .int .i64 pc, .int .i64 pd], 87, 4⟩
def MnE (op k : Int) (a b z : V) (r : Nat) (M0 : Hp) (F0 : Fz) (M1 : Hp) (σ : Env) (F : Fz) (M : Hp) : Prop := ∃ pa pb pc pd, Mn op k a b z r M0 F0 M1 pa pb pc pd σ F M ∧ SeenR k a pa pb ∧ SeenR k b pc pd
theorem four_of {k : Int} {a b : V} {pa pb pc pd : Int} (wa : a.w = ofW k) (wb : b.w = ofW k) (sa : SeenR k a pa pb) (sb : SeenR k b pc pd) : FourR k pa pb pc pd := by
  have h1 := seen_least wa sa
  have h2 := seen_least wb sb
  exact ⟨h1.1, h1.2.2.2.2, h1.2.2.2.1, h2.1, h2.2.2.2.2, h2.2.2.2.1⟩
theorem k74 (M0 : Hp) (r : Nat) (op k : Int) (a b : V) (u : Value) (h : Held F M0 M r (V.nothing (ansW op k)) u []) (hop : isTwo op = true) (hk : isK k = true) (ha : a.ok = true) (hb : b.ok = true) (wa : a.w = ofW k) (wb : b.w = ofW k) (na : ¬ a.nextR 0 < 0) (nb : ¬ b.nextR 0 < 0) :
    CallsA Tryz.prog 74 [.pointer (some ⟨r, 0, none⟩), .int .i64 op, .int .i64 k, a.val, b.val] F M (foundP M0 r (FoundR op k a b) F M) := by
  refine callsA_of hm Tryz.func74 e74 (Nat.le_of_ble_eq_true rfl) ?_
  have kd := kinds hk
  have hW := ofW_isW k
  have hz0 := nothing_ok (ansW_isW op k)
  simp only [c74]
  rw [Go.Ax.seq_assoc, Go.Ax.seq_assoc, Go.Ax.seq_assoc]
  refine cut (MnE op k a b (V.nothing (ansW op k)) r M0 F M) ?_ ?_
  · simp only [go_sem, reduceCtorEq, reduceIte, Nat.reduceEqDiff, Nat.reduceAdd, Nat.reduceLeDiff, Nat.reduceMul, Int.reduceLT, Int.reduceLE, Int.reduceAdd, Int.reduceSub, Int.reduceMul, Int.reduceNeg, Int.reduceToNat, Int.reduceEq]
    intro r8 hF8 hM8
    have h1 := h.fresh (e := ⟨a.cs, 30, 6⟩) hF8 hM8
    simp only [go_sem, reduceCtorEq, reduceIte, Nat.reduceEqDiff, Nat.reduceAdd, Nat.reduceLeDiff, Nat.reduceMul, Int.reduceLT, Int.reduceLE, Int.reduceAdd, Int.reduceSub, Int.reduceMul, Int.reduceNeg, Int.reduceToNat, Int.reduceEq]
    intro r9 hF9 hM9
    have g9 := fresh_of hM9
    have h2 := h1.fresh (e := ⟨b.cs, 30, 6⟩) hF9 hM9
    simp only [go_sem, reduceCtorEq, reduceIte, Nat.reduceEqDiff, Nat.reduceAdd, Nat.reduceLeDiff, Nat.reduceMul, Int.reduceLT, Int.reduceLE, Int.reduceAdd, Int.reduceSub, Int.reduceMul, Int.reduceNeg, Int.reduceToNat, Int.reduceEq]
    intro r10 hF10 hM10
    have g10 := fresh_of hM10
    have g108 := fresh_of g10.2.2
    simp only [go_sem, reduceCtorEq, reduceIte, Nat.reduceEqDiff, Nat.reduceAdd, Nat.reduceLeDiff, Nat.reduceMul, Int.reduceLT, Int.reduceLE, Int.reduceAdd, Int.reduceSub, Int.reduceMul, Int.reduceNeg, Int.reduceToNat, Int.reduceEq, g9, g10, g108]
    refine callK_of (k64 F _ k a hk ha wa na) ?_
    rintro w G M2 ⟨hG, rfl, pa, pb, rfl, sa⟩
    rw [hG]
    refine ⟨(fun h => by cases h), ?_⟩
    simp only [go_sem, reduceCtorEq, reduceIte, Nat.reduceEqDiff, Nat.reduceAdd, Nat.reduceLeDiff, Nat.reduceMul, Int.reduceLT, Int.reduceLE, Int.reduceAdd, Int.reduceSub, Int.reduceMul, Int.reduceNeg, Int.reduceToNat, Int.reduceEq, g9, g10, g108]
    refine callK_of (k64 F _ k b hk hb wb nb) ?_
    rintro w G M2 ⟨hG, rfl, pc, pd, rfl, sb⟩
    rw [hG]
    refine ⟨(fun h => by cases h), ?_⟩
    simp only [go_sem, reduceCtorEq, reduceIte, Nat.reduceEqDiff, Nat.reduceAdd, Nat.reduceLeDiff, Nat.reduceMul, Int.reduceLT, Int.reduceLE, Int.reduceAdd, Int.reduceSub, Int.reduceMul, Int.reduceNeg, Int.reduceToNat, Int.reduceEq, g9, g10, g108]
    have h3 := h2.fresh (e := ⟨[.int .i64 pa, .int .i64 pb, .int .i64 pc, .int .i64 pd], 87, 4⟩) hF10 hM10
    have rest : Rest M (((M.upd r8 ⟨a.cs, 30, 6⟩).upd r9 ⟨b.cs, 30, 6⟩).upd r10 ⟨[.int .i64 pa, .int .i64 pb, .int .i64 pc, .int .i64 pd], 87, 4⟩) r := Rest.fresh hM8 (Rest.fresh hM9 (Rest.fresh hM10 (Rest.refl _ _)))
    exact ⟨pa, pb, pc, pd, ⟨rfl, ⟨u, h3⟩, rest, by simp only [go_sem, reduceCtorEq, reduceIte, Nat.reduceEqDiff], by simp only [go_sem, reduceCtorEq, reduceIte, Nat.reduceEqDiff], by simp only [go_sem, reduceCtorEq, reduceIte, Nat.reduceEqDiff], ⟨r8, by simp only [go_sem, reduceCtorEq, reduceIte, Nat.reduceEqDiff], by rw [Hp.upd_ne' g108.2.1, Hp.upd_ne' g9.2.1]; exact Hp.upd_same _ _ _⟩, ⟨r9, by simp only [go_sem, reduceCtorEq, reduceIte, Nat.reduceEqDiff], by rw [Hp.upd_ne' g10.2.1]; exact Hp.upd_same _ _ _⟩, ⟨r10, by simp only [go_sem, reduceCtorEq, reduceIte, Nat.reduceEqDiff], Hp.upd_same _ _ _⟩⟩, sa, sb⟩
  rintro σ F' M' ⟨pa, pb, pc, pd, s, sa, sb⟩
  obtain rfl := s.ff
  obtain ⟨r8, h8, f8⟩ := s.h8
  obtain ⟨r9, h9, f9⟩ := s.h9
  obtain ⟨r10, h10, f10⟩ := s.h10
  obtain ⟨u, hu⟩ := s.held
  have b8 := blk_M (F := F') f8
  have b9 := blk_M (F := F') f9
  have b10 := blk_M (F := F') f10
  have hp := four_of wa wb sa sb
  have ⟨q1, q2, q3, q4, q5, q6⟩ := hp
  have s0 := s.h0
  have s1 := s.h1
  have s2 := s.h2
  have rest := s.rest
  clear s
  have eac : IntKind.i64.wrap (pa + pc) = pa + pc := w64 (by omega) (by omega)
  have ebd : IntKind.i64.wrap (pb + pd) = pb + pd := w64 (by omega) (by omega)
  have ead : IntKind.i64.wrap (pa - pd) = pa - pd := w64 (by omega) (by omega)
  have ebc : IntKind.i64.wrap (pb - pc) = pb - pc := w64 (by omega) (by omega)
  rcases two_cases hop with rfl | rfl | rfl | h' | h' | h' | h' | h' | h' | h'
  · have ea : ansW 8 k = ofW k := rfl
    simp only [go_sem, reduceCtorEq, reduceIte, Nat.reduceEqDiff, Nat.reduceAdd, Nat.reduceLeDiff, Nat.reduceMul, Int.reduceLT, Int.reduceLE, Int.reduceAdd, Int.reduceSub, Int.reduceMul, Int.reduceNeg, Int.reduceToNat, Int.reduceEq, s0, s1, s2, h8, h9, h10, b10, eac, ebd]
    refine callK_of (k87 F' M' M0 r k _ _ _ u [] hu hk hz0 rfl (by simp) (by omega)) ?_
    rintro w G M5 ⟨hG, z', u', l', hh, hr, hs⟩
    rw [hG]
    refine ⟨(fun h => by cases h), ?_⟩
    simp only [go_sem, reduceCtorEq, reduceIte, Nat.reduceEqDiff, Nat.reduceAdd, Nat.reduceLeDiff, Nat.reduceMul, Int.reduceLT, Int.reduceLE, Int.reduceAdd, Int.reduceSub, Int.reduceMul, Int.reduceNeg, Int.reduceToNat, Int.reduceEq]
    exact endK_same ⟨rfl, z', u', l', hh, rest.trans hr, found_add hk sa sb hs⟩
  · simp only [go_sem, reduceCtorEq, reduceIte, Nat.reduceEqDiff, Nat.reduceAdd, Nat.reduceLeDiff, Nat.reduceMul, Int.reduceLT, Int.reduceLE, Int.reduceAdd, Int.reduceSub, Int.reduceMul, Int.reduceNeg, Int.reduceToNat, Int.reduceEq, s0, s1, s2, h8, h9, h10, b10, ead, ebc]
    refine callK_of (k87 F' M' M0 r k _ _ _ u [] hu hk hz0 rfl (by simp) (by omega)) ?_
    rintro w G M5 ⟨hG, z', u', l', hh, hr, hs⟩
    rw [hG]
    refine ⟨(fun h => by cases h), ?_⟩
    simp only [go_sem, reduceCtorEq, reduceIte, Nat.reduceEqDiff, Nat.reduceAdd, Nat.reduceLeDiff, Nat.reduceMul, Int.reduceLT, Int.reduceLE, Int.reduceAdd, Int.reduceSub, Int.reduceMul, Int.reduceNeg, Int.reduceToNat, Int.reduceEq]
    exact endK_same ⟨rfl, z', u', l', hh, rest.trans hr, found_sub hk sa sb hs⟩
  · simp only [go_sem, reduceCtorEq, reduceIte, Nat.reduceEqDiff, Nat.reduceAdd, Nat.reduceLeDiff, Nat.reduceMul, Int.reduceLT, Int.reduceLE, Int.reduceAdd, Int.reduceSub, Int.reduceMul, Int.reduceNeg, Int.reduceToNat, Int.reduceEq, s0, s1, s2, h8, h9, h10, b10]
    refine callK_of (k88 F' M' M0 r k pa pb pc pd _ u [] hu hk hz0 rfl (by simp) hp) ?_
    rintro w G M5 ⟨hG, z', u', l', hh, hr, hs⟩
    rw [hG]
    refine ⟨(fun h => by cases h), ?_⟩
    simp only [go_sem, reduceCtorEq, reduceIte, Nat.reduceEqDiff, Nat.reduceAdd, Nat.reduceLeDiff, Nat.reduceMul, Int.reduceLT, Int.reduceLE, Int.reduceAdd, Int.reduceSub, Int.reduceMul, Int.reduceNeg, Int.reduceToNat, Int.reduceEq]
    refine endK_same ⟨rfl, z', u', l', hh, rest.trans hr, ?_⟩
    rcases hs with ⟨c1, rfl, rfl⟩ | ⟨lo, hi, c1, c2, hs⟩
    · exact found_mul_whole hk wa wb sa c1
    · exact found_mul hk sa sb c1.1 c1.2.1 c1.2.2.1 c1.2.2.2 c2.1 c2.2.1 c2.2.2.1 c2.2.2.2 hs
  · have ea : ansW op k = ofW k := by unfold ansW; rw [if_neg (by omega)]
    have fin : ∀ z' l', divR op k pa pb pc pd (V.nothing (ansW op k)) z' l' → FoundR op k a b z' l' := fun z' l' hs => found_div hk h' wa wb sa sb hz0 ea hs
    have call := k89 F' M' M0 r op k pa pb pc pd _ u hu hk h' hz0 ea hp
    rcases h' with rfl | rfl
    · simp only [go_sem, reduceCtorEq, reduceIte, Nat.reduceEqDiff, Nat.reduceAdd, Nat.reduceLeDiff, Nat.reduceMul, Int.reduceLT, Int.reduceLE, Int.reduceAdd, Int.reduceSub, Int.reduceMul, Int.reduceNeg, Int.reduceToNat, Int.reduceEq, s0, s1, s2, h8, h9, h10, b10]
      refine callK_of call ?_
      rintro w G M5 ⟨hG, z', u', l', hh, hr, hs⟩
      rw [hG]
      refine ⟨(fun h => by cases h), ?_⟩
      simp only [go_sem, reduceCtorEq, reduceIte, Nat.reduceEqDiff, Nat.reduceAdd, Nat.reduceLeDiff, Nat.reduceMul, Int.reduceLT, Int.reduceLE, Int.reduceAdd, Int.reduceSub, Int.reduceMul, Int.reduceNeg, Int.reduceToNat, Int.reduceEq]
      exact endK_same ⟨rfl, z', u', l', hh, rest.trans hr, fin z' l' hs⟩
    · simp only [go_sem, reduceCtorEq, reduceIte, Nat.reduceEqDiff, Nat.reduceAdd, Nat.reduceLeDiff, Nat.reduceMul, Int.reduceLT, Int.reduceLE, Int.reduceAdd, Int.reduceSub, Int.reduceMul, Int.reduceNeg, Int.reduceToNat, Int.reduceEq, s0, s1, s2, h8, h9, h10, b10]
      refine callK_of call ?_
      rintro w G M5 ⟨hG, z', u', l', hh, hr, hs⟩
      rw [hG]
      refine ⟨(fun h => by cases h), ?_⟩
      simp only [go_sem, reduceCtorEq, reduceIte, Nat.reduceEqDiff, Nat.reduceAdd, Nat.reduceLeDiff, Nat.reduceMul, Int.reduceLT, Int.reduceLE, Int.reduceAdd, Int.reduceSub, Int.reduceMul, Int.reduceNeg, Int.reduceToNat, Int.reduceEq]
      exact endK_same ⟨rfl, z', u', l', hh, rest.trans hr, fin z' l' hs⟩
  · have h3 : op = 13 ∨ op = 14 ∨ op = 15 := .inl h'
    have ea : ansW op k = ofW k := by unfold ansW; rw [if_neg (by omega)]
    obtain ⟨aF, aB, e1, e2, l1, l2⟩ := (ok_in ha).nat
    obtain ⟨bF, bB, e3, e4, l3, l4⟩ := (ok_in hb).nat
    have fin := found_bits hk h3 ha hb wa wb e2 e1 e4 e3
    have call := k90 F' M' op a b h3 ha e2 e1 e4 e3 l2 l1 l4 l3
    rw [wa] at call
    have hub := hu.blk
    obtain ⟨g1, g2⟩ := hu.set (bitV (ofW k) (bitO op aB aF bB bF) (bitM op aB aF bB bF))
    subst h'
    simp only [go_sem, reduceCtorEq, reduceIte, Nat.reduceEqDiff, Nat.reduceAdd, Nat.reduceLeDiff, Nat.reduceMul, Int.reduceLT, Int.reduceLE, Int.reduceAdd, Int.reduceSub, Int.reduceMul, Int.reduceNeg, Int.reduceToNat, Int.reduceEq, s0, s1, s2, h8, h9, h10, b8, b9]
    refine callK_same call ?_
    simp only [go_sem, reduceCtorEq, reduceIte, Nat.reduceEqDiff, Nat.reduceAdd, Nat.reduceLeDiff, Nat.reduceMul, Int.reduceLT, Int.reduceLE, Int.reduceAdd, Int.reduceSub, Int.reduceMul, Int.reduceNeg, Int.reduceToNat, Int.reduceEq, s0, s1, s2, h8, h9, h10, hub]
    simp only [setH, go_sem, reduceCtorEq, reduceIte, Nat.reduceEqDiff, Nat.reduceAdd, Nat.reduceLeDiff, Nat.reduceMul, Int.reduceLT, Int.reduceLE, Int.reduceAdd, Int.reduceSub, Int.reduceMul, Int.reduceNeg, Int.reduceToNat, Int.reduceEq]
    exact endK_same ⟨rfl, _, u, [], g1, rest.trans g2, fin⟩
  · have h3 : op = 13 ∨ op = 14 ∨ op = 15 := .inr (.inl h')
    have ea : ansW op k = ofW k := by unfold ansW; rw [if_neg (by omega)]
    obtain ⟨aF, aB, e1, e2, l1, l2⟩ := (ok_in ha).nat
    obtain ⟨bF, bB, e3, e4, l3, l4⟩ := (ok_in hb).nat
    have fin := found_bits hk h3 ha hb wa wb e2 e1 e4 e3
    have call := k90 F' M' op a b h3 ha e2 e1 e4 e3 l2 l1 l4 l3
    rw [wa] at call
    have hub := hu.blk
    obtain ⟨g1, g2⟩ := hu.set (bitV (ofW k) (bitO op aB aF bB bF) (bitM op aB aF bB bF))
    subst h'
    simp only [go_sem, reduceCtorEq, reduceIte, Nat.reduceEqDiff, Nat.reduceAdd, Nat.reduceLeDiff, Nat.reduceMul, Int.reduceLT, Int.reduceLE, Int.reduceAdd, Int.reduceSub, Int.reduceMul, Int.reduceNeg, Int.reduceToNat, Int.reduceEq, s0, s1, s2, h8, h9, h10, b8, b9]
    refine callK_same call ?_
    simp only [go_sem, reduceCtorEq, reduceIte, Nat.reduceEqDiff, Nat.reduceAdd, Nat.reduceLeDiff, Nat.reduceMul, Int.reduceLT, Int.reduceLE, Int.reduceAdd, Int.reduceSub, Int.reduceMul, Int.reduceNeg, Int.reduceToNat, Int.reduceEq, s0, s1, s2, h8, h9, h10, hub]
    simp only [setH, go_sem, reduceCtorEq, reduceIte, Nat.reduceEqDiff, Nat.reduceAdd, Nat.reduceLeDiff, Nat.reduceMul, Int.reduceLT, Int.reduceLE, Int.reduceAdd, Int.reduceSub, Int.reduceMul, Int.reduceNeg, Int.reduceToNat, Int.reduceEq]
    exact endK_same ⟨rfl, _, u, [], g1, rest.trans g2, fin⟩
  · have h3 : op = 13 ∨ op = 14 ∨ op = 15 := .inr (.inr h')
    have ea : ansW op k = ofW k := by unfold ansW; rw [if_neg (by omega)]
    obtain ⟨aF, aB, e1, e2, l1, l2⟩ := (ok_in ha).nat
    obtain ⟨bF, bB, e3, e4, l3, l4⟩ := (ok_in hb).nat
    have fin := found_bits hk h3 ha hb wa wb e2 e1 e4 e3
    have call := k90 F' M' op a b h3 ha e2 e1 e4 e3 l2 l1 l4 l3
    rw [wa] at call
    have hub := hu.blk
    obtain ⟨g1, g2⟩ := hu.set (bitV (ofW k) (bitO op aB aF bB bF) (bitM op aB aF bB bF))
    subst h'
    simp only [go_sem, reduceCtorEq, reduceIte, Nat.reduceEqDiff, Nat.reduceAdd, Nat.reduceLeDiff, Nat.reduceMul, Int.reduceLT, Int.reduceLE, Int.reduceAdd, Int.reduceSub, Int.reduceMul, Int.reduceNeg, Int.reduceToNat, Int.reduceEq, s0, s1, s2, h8, h9, h10, b8, b9]
    refine callK_same call ?_
    simp only [go_sem, reduceCtorEq, reduceIte, Nat.reduceEqDiff, Nat.reduceAdd, Nat.reduceLeDiff, Nat.reduceMul, Int.reduceLT, Int.reduceLE, Int.reduceAdd, Int.reduceSub, Int.reduceMul, Int.reduceNeg, Int.reduceToNat, Int.reduceEq, s0, s1, s2, h8, h9, h10, hub]
    simp only [setH, go_sem, reduceCtorEq, reduceIte, Nat.reduceEqDiff, Nat.reduceAdd, Nat.reduceLeDiff, Nat.reduceMul, Int.reduceLT, Int.reduceLE, Int.reduceAdd, Int.reduceSub, Int.reduceMul, Int.reduceNeg, Int.reduceToNat, Int.reduceEq]
    exact endK_same ⟨rfl, _, u, [], g1, rest.trans g2, fin⟩
  · have ea : ansW op k = ofW k := by unfold ansW; rw [if_neg (by omega)]
    have call := k91 F' M' M0 r op k pa pb pc pd b _ u hu hk h' hz0 ea hb wb nb hp
    have fin : ∀ z' l', shiftR op k pa pb b (V.nothing (ansW op k)) z' l' → FoundR op k a b z' l' := by
      rintro z' l' ⟨d, hd, hs⟩
      have mv := move_of hk hb wb hd
      have hc0 : 0 ≤ b.nextR 0 := by omega
      rcases hs with ⟨c1, rfl, rfl⟩ | ⟨c1, rfl, lo, hi, c2, c3, c4, c5, hs⟩ | ⟨c1, rfl, c2, rfl, c3⟩
      · exact found_shift_none hk h' wa wb mv c1 hz0 ea
      · exact found_shr hk wa wb sa mv hc0 c2.1 c2.2 c3.1 c3.2 c4 c5 hs
      · rcases c3 with rfl | ⟨c3, c4, rfl⟩
        · exact found_shl_whole hk wa wb mv
        · exact found_shl hk wa wb sa mv hc0 c2 c3 q2 c4
    rcases h' with rfl | rfl
    · simp only [go_sem, reduceCtorEq, reduceIte, Nat.reduceEqDiff, Nat.reduceAdd, Nat.reduceLeDiff, Nat.reduceMul, Int.reduceLT, Int.reduceLE, Int.reduceAdd, Int.reduceSub, Int.reduceMul, Int.reduceNeg, Int.reduceToNat, Int.reduceEq, s0, s1, s2, h8, h9, h10, b9, b10]
      refine callK_of call ?_
      rintro w G M5 ⟨hG, z', u', l', hh, hr, hs⟩
      rw [hG]
      refine ⟨(fun h => by cases h), ?_⟩
      simp only [go_sem, reduceCtorEq, reduceIte, Nat.reduceEqDiff, Nat.reduceAdd, Nat.reduceLeDiff, Nat.reduceMul, Int.reduceLT, Int.reduceLE, Int.reduceAdd, Int.reduceSub, Int.reduceMul, Int.reduceNeg, Int.reduceToNat, Int.reduceEq]
      exact endK_same ⟨rfl, z', u', l', hh, rest.trans hr, fin z' l' hs⟩
    · simp only [go_sem, reduceCtorEq, reduceIte, Nat.reduceEqDiff, Nat.reduceAdd, Nat.reduceLeDiff, Nat.reduceMul, Int.reduceLT, Int.reduceLE, Int.reduceAdd, Int.reduceSub, Int.reduceMul, Int.reduceNeg, Int.reduceToNat, Int.reduceEq, s0, s1, s2, h8, h9, h10, b9, b10]
      refine callK_of call ?_
      rintro w G M5 ⟨hG, z', u', l', hh, hr, hs⟩
      rw [hG]
      refine ⟨(fun h => by cases h), ?_⟩
      simp only [go_sem, reduceCtorEq, reduceIte, Nat.reduceEqDiff, Nat.reduceAdd, Nat.reduceLeDiff, Nat.reduceMul, Int.reduceLT, Int.reduceLE, Int.reduceAdd, Int.reduceSub, Int.reduceMul, Int.reduceNeg, Int.reduceToNat, Int.reduceEq]
      exact endK_same ⟨rfl, z', u', l', hh, rest.trans hr, fin z' l' hs⟩
  · have h3 : op = 18 ∨ op = 19 := .inl h'
    have ea : ansW op k = 32 := by unfold ansW; rw [if_pos (by omega)]
    rw [ea] at hu
    have call := k92 F' M' M0 r op k pa pb pc pd a b u hu h3 ha hb (wb.trans wa.symm)
    have fin : ∀ z' l', cmpR op k a b pa pb pc pd z' l' → FoundR op k a b z' l' := by
      rintro z' l' ⟨yes, no, ai, rfl, c1, c2⟩
      refine found_cmp h3 ai (fun x y x0 x1 hx y0 y1 hy hc => ?_) (fun x y x0 x1 hx y0 y1 hy hc => ?_)
      · rcases h3 with h3 | h3
        · obtain ⟨_, m, hm, rfl⟩ := c1 h3
          rw [if_pos h3] at hc
          subst hc
          have := hm.both x x0 x1 hx hy
          have hv : ¬ m.nextR 0 < 0 := fun hv => by
            rw [void_has hm.ok hv x x0 (by rw [hm.w]; exact x1)] at this; cases this
          simp [hv]
        · obtain ⟨rfl, _⟩ := c2 h3
          rw [if_neg (by omega)] at hc
          have g1 := sa.all x x0 x1 hx
          have g2 := sb.all y y0 y1 hy
          simp; omega
      · rcases h3 with h3 | h3
        · exact (c1 h3).1
        · obtain ⟨_, rfl⟩ := c2 h3
          rw [if_neg (by omega)] at hc
          have g1 := sa.all x x0 x1 hx
          have g2 := sb.all y y0 y1 hy
          simp; omega
    subst h'
    simp only [go_sem, reduceCtorEq, reduceIte, Nat.reduceEqDiff, Nat.reduceAdd, Nat.reduceLeDiff, Nat.reduceMul, Int.reduceLT, Int.reduceLE, Int.reduceAdd, Int.reduceSub, Int.reduceMul, Int.reduceNeg, Int.reduceToNat, Int.reduceEq, s0, s1, s2, h8, h9, h10, b8, b9, b10]
    refine callK_of call ?_
    rintro w G M5 ⟨hG, z', u', l', hh, hr, hs⟩
    rw [hG]
    refine ⟨(fun h => by cases h), ?_⟩
    simp only [go_sem, reduceCtorEq, reduceIte, Nat.reduceEqDiff, Nat.reduceAdd, Nat.reduceLeDiff, Nat.reduceMul, Int.reduceLT, Int.reduceLE, Int.reduceAdd, Int.reduceSub, Int.reduceMul, Int.reduceNeg, Int.reduceToNat, Int.reduceEq]
    exact endK_same ⟨rfl, z', u', l', hh, rest.trans hr, fin z' l' hs⟩
  · have h3 : op = 18 ∨ op = 19 := .inr h'
    have ea : ansW op k = 32 := by unfold ansW; rw [if_pos (by omega)]
    rw [ea] at hu
    have call := k92 F' M' M0 r op k pa pb pc pd a b u hu h3 ha hb (wb.trans wa.symm)
    have fin : ∀ z' l', cmpR op k a b pa pb pc pd z' l' → FoundR op k a b z' l' := by
      rintro z' l' ⟨yes, no, ai, rfl, c1, c2⟩
      refine found_cmp h3 ai (fun x y x0 x1 hx y0 y1 hy hc => ?_) (fun x y x0 x1 hx y0 y1 hy hc => ?_)
      · rcases h3 with h3 | h3
        · obtain ⟨_, m, hm, rfl⟩ := c1 h3
          rw [if_pos h3] at hc
          subst hc
          have := hm.both x x0 x1 hx hy
          have hv : ¬ m.nextR 0 < 0 := fun hv => by
            rw [void_has hm.ok hv x x0 (by rw [hm.w]; exact x1)] at this; cases this
          simp [hv]
        · obtain ⟨rfl, _⟩ := c2 h3
          rw [if_neg (by omega)] at hc
          have g1 := sa.all x x0 x1 hx
          have g2 := sb.all y y0 y1 hy
          simp; omega
      · rcases h3 with h3 | h3
        · exact (c1 h3).1
        · obtain ⟨_, rfl⟩ := c2 h3
          rw [if_neg (by omega)] at hc
          have g1 := sa.all x x0 x1 hx
          have g2 := sb.all y y0 y1 hy
          simp; omega
    subst h'
    simp only [go_sem, reduceCtorEq, reduceIte, Nat.reduceEqDiff, Nat.reduceAdd, Nat.reduceLeDiff, Nat.reduceMul, Int.reduceLT, Int.reduceLE, Int.reduceAdd, Int.reduceSub, Int.reduceMul, Int.reduceNeg, Int.reduceToNat, Int.reduceEq, s0, s1, s2, h8, h9, h10, b8, b9, b10]
    refine callK_of call ?_
    rintro w G M5 ⟨hG, z', u', l', hh, hr, hs⟩
    rw [hG]
    refine ⟨(fun h => by cases h), ?_⟩
    simp only [go_sem, reduceCtorEq, reduceIte, Nat.reduceEqDiff, Nat.reduceAdd, Nat.reduceLeDiff, Nat.reduceMul, Int.reduceLT, Int.reduceLE, Int.reduceAdd, Int.reduceSub, Int.reduceMul, Int.reduceNeg, Int.reduceToNat, Int.reduceEq]
    exact endK_same ⟨rfl, z', u', l', hh, rest.trans hr, fin z' l' hs⟩
end Go.Proofs.Tryz.K
