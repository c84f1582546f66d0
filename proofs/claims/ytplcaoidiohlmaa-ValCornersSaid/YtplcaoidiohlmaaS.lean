/- The small codes of functions, by program (gen.py, by this workplace's session), each with the proof that it is the function's own. -/
import Derived.Test.YtplcaoidiohlmaaProg
import Derived.Test.YtplcaoidiohlmaaAx11
namespace Go.Proofs.Try.S
open Go Go.Ax Go.Ax.N
set_option maxRecDepth 100000

/-- cellar/cellarlaw3.ValCorners -/
def c4 : SF := ⟨133, [.t 2], (.seq (.ops [k 1 (.bx 25 (t 0)),
 o 2 (.mv (b false))])
 (.seq (.seq (.ops [o 3 (.mv (i 0))])
 (.block 0 (.loop (.seq (.seq (.ops [o 18 (.mv (t 3)),
 o 19 (.bin .lss (t 18) (i 60))])
 (.cond (t 19)
 .skip
 (.exit 0)))
 (.seq (.block 1 (.seq (.ops [o 22 (.mv (t 3)),
 o 23 (.bin .mul (t 22) (i 37)),
 o 24 (.fa 0 (t 1)),
 o 25 (.ld false 1 (t 24)),
 o 26 (.ln (t 25)),
 o 27 (.bin .mul (t 26) (i 11)),
 o 28 (.bin .add (t 23) (t 27)),
 o 29 (.bin .rem (t 28) (i 256)),
 o 4 (.mv (t 29))])
 (.seq (.ops [o 30 (.mv (t 4)),
 o 31 (.mv (t 4)),
 o 32 (.mv (t 3)),
 o 33 (.bin .add (t 31) (t 32)),
 o 34 (.bin .rem (t 33) (i 256)),
 o 35 (.bd [.int .i64 0, .bool false, .int .i64 0, .int .i64 0, .int .i64 0, .int .i64 0] [(0, 1, (i 8)), (2, 1, (t 30)), (3, 1, (t 34)), (4, 1, (i 255))]),
 k 5 (.al 28 [.int .i64 0, .bool false, .int .i64 0, .int .i64 0, .int .i64 0, .int .i64 0]),
 kn (.st [] 6 (t 5) (t 35))])
 (.seq (.seq (.ops [o 36 (.mv (t 3)),
 o 37 (.bin .rem (t 36) (i 3)),
 o 38 (.bin .gtr (t 37) (i 0))])
 (.cond (t 38)
 (.seq (.ops [o 39 (.mv (t 3)),
 o 40 (.bin .rem (t 39) (i 8)),
 o 41 (.bin .shl (i 1) (t 40)),
 o 42 (.bin .andNot (i 255) (t 41)),
 o 43 (.fa 4 (t 5)),
 kn (.st [] 1 (t 43) (t 42))])
 (.seq (.ops [o 44 (.mv (t 3)),
 o 45 (.bin .rem (t 44) (i 3)),
 o 46 (.bin .eql (t 45) (i 1))])
 (.cond (t 46)
 (.ops [o 47 (.mv (t 3)),
 o 48 (.bin .rem (t 47) (i 8)),
 o 49 (.bin .shl (i 1) (t 48)),
 o 50 (.fa 5 (t 5)),
 kn (.st [] 1 (t 50) (t 49))])
 .skip)))
 .skip))
 (.seq (.ops [o 6 (.mv (i 0))])
 (.seq (.seq (.ops [o 7 (.mv (i 0))])
 (.block 2 (.loop (.seq (.seq (.ops [o 51 (.mv (t 7)),
 o 52 (.bin .lss (t 51) (i 256))])
 (.cond (t 52)
 .skip
 (.exit 2)))
 (.seq (.block 3 (.seq (.ops [o 56 (.ld true 6 (t 5)),
 o 57 (.mv (t 7)),
 k 58 (.ca (.func 25) [(t 56), (t 57)]),
 o 55 (.mv (t 58)),
 o 59 (.ex (t 55) 0),
 o 60 (.ex (t 55) 1),
 o 8 (.mv (t 59)),
 o 9 (.mv (t 60))])
 (.seq (.ops [o 62 (.ld true 6 (t 5)),
 o 63 (.mv (t 7)),
 k 64 (.ca (.func 26) [(t 62), (t 63)]),
 o 61 (.mv (t 64)),
 o 65 (.ex (t 61) 0),
 o 66 (.ex (t 61) 1),
 o 10 (.mv (t 65)),
 o 11 (.mv (t 66))])
 (.seq (.ops [o 67 (.ld true 6 (t 5)),
 o 68 (.mv (t 7)),
 k 69 (.ca (.func 19) [(t 67), (t 68)]),
 o 12 (.mv (t 69))])
 (.seq (.seq (.ops [o 70 (.mv (t 9)),
 k 71 (.ca (.func 17) [(t 70)]),
 o 72 (.bin .neq (t 71) (i 0)),
 o 73 (.mv (t 72)),
 og 74 73 false (.mv (t 8)),
 og 75 73 false (.ld true 6 (t 5)),
 og 76 73 false (.mv (t 7)),
 ⟨some 77, some (73, false), .ca (.func 23) [(t 75), (t 76)]⟩,
 og 78 73 false (.eqb true (t 74) (t 77)),
 o 79 (.pick (t 73) (b true) (t 78)),
 o 80 (.mv (t 79)),
 og 81 80 false (.mv (t 11)),
 ⟨some 82, some (80, false), .ca (.func 17) [(t 81)]⟩,
 og 83 80 false (.bin .eql (t 82) (i 0)),
 og 84 80 false (.mv (t 12)),
 og 85 80 false (.bin .geq (t 84) (i 0)),
 og 86 80 false (.eqb true (t 83) (t 85)),
 o 87 (.pick (t 80) (b true) (t 86)),
 o 88 (.mv (t 87)),
 og 89 88 false (.mv (t 11)),
 ⟨some 90, some (88, false), .ca (.func 17) [(t 89)]⟩,
 og 91 88 false (.bin .eql (t 90) (i 0)),
 og 92 88 false (.mv (t 91)),
 og 93 92 true (.mv (t 10)),
 og 94 92 true (.mv (t 12)),
 og 95 92 true (.bin .neq (t 93) (t 94)),
 og 96 88 false (.pick (t 92) (t 95) (b false)),
 o 97 (.pick (t 88) (b true) (t 96))])
 (.cond (t 97)
 (.seq (.ops [o 2 (.mv (b false))])
 .ret)
 .skip))
 (.seq (.ops [o 98 (.mv (t 8))])
 (.cond (t 98)
 (.ops [o 99 (.mv (t 6)),
 o 100 (.bin .add (t 99) (i 1)),
 o 6 (.mv (t 100))])
 .skip)))))))
 (.ops [o 53 (.mv (t 7)),
 o 54 (.bin .add (t 53) (i 1)),
 o 7 (.mv (t 54))]))))))
 (.seq (.ops [o 102 (.ld true 6 (t 5)),
 k 103 (.ca (.func 27) [(t 102)]),
 o 101 (.mv (t 103)),
 o 104 (.ex (t 101) 0),
 o 105 (.ex (t 101) 1),
 o 13 (.mv (t 104)),
 o 14 (.mv (t 105))])
 (.seq (.ops [o 107 (.ld true 6 (t 5)),
 k 108 (.ca (.func 28) [(t 107)]),
 o 106 (.mv (t 108)),
 o 109 (.ex (t 106) 0),
 o 110 (.ex (t 106) 1),
 o 111 (.ex (t 106) 2),
 o 15 (.mv (t 109)),
 o 16 (.mv (t 110)),
 o 17 (.mv (t 111))])
 (.seq (.ops [o 112 (.mv (t 14)),
 k 113 (.ca (.func 17) [(t 112)]),
 o 114 (.bin .neq (t 113) (i 0)),
 o 115 (.mv (t 114)),
 og 116 115 false (.mv (t 17)),
 ⟨some 117, some (115, false), .ca (.func 17) [(t 116)]⟩,
 og 118 115 false (.bin .neq (t 117) (i 0)),
 o 119 (.pick (t 115) (b true) (t 118)),
 o 120 (.mv (t 119)),
 og 121 120 false (.mv (t 13)),
 og 122 120 false (.mv (t 6)),
 og 123 120 false (.bin .eql (t 122) (i 0)),
 og 124 120 false (.eqb true (t 121) (t 123)),
 o 125 (.pick (t 120) (b true) (t 124)),
 o 126 (.mv (t 125)),
 og 127 126 false (.mv (t 15)),
 og 128 126 false (.mv (t 6)),
 og 129 126 false (.bin .eql (t 128) (i 1)),
 og 130 126 false (.eqb true (t 127) (t 129)),
 o 131 (.pick (t 126) (b true) (t 130))])
 (.cond (t 131)
 (.seq (.ops [o 2 (.mv (b false))])
 .ret)
 .skip))))))))))
 (.ops [o 20 (.mv (t 3)),
 o 21 (.bin .add (t 20) (i 1)),
 o 3 (.mv (t 21))]))))))
 (.seq (.ops [k 132 (.ca (.func 24) []),
 o 2 (.mv (t 132))])
 .ret)))⟩
theorem e4 : slimF Try.prog Try.f4 [] = some c4 := by kernel_rfl
/-- cellar/cellarlaw3.Heavy -/
def c13 : SF := ⟨13, [.t 2], (.seq (.ops [k 1 (.bx 25 (t 0)),
 o 2 (.mv (b false))])
 (.seq (.ops [o 3 (.fa 0 (t 1)),
 o 4 (.ld false 1 (t 3)),
 o 5 (.ln (t 4)),
 o 6 (.bin .gtr (t 5) (i 100)),
 o 7 (.mv (t 6)),
 og 8 7 false (.fa 1 (t 1)),
 og 9 7 false (.ld false 1 (t 8)),
 og 10 7 false (.ln (t 9)),
 og 11 7 false (.bin .gtr (t 10) (i 100)),
 o 12 (.pick (t 7) (b true) (t 11)),
 o 2 (.mv (t 12))])
 .ret))⟩
theorem e13 : slimF Try.prog Try.f13 [] = some c13 := by kernel_rfl
/-- cellar/val.All -/
def c14 : SF := ⟨10, [.c true 6 2, .t 3], (.seq (.ops [k 2 (.al 28 [.int .i64 0, .bool false, .int .i64 0, .int .i64 0, .int .i64 0, .int .i64 0]),
 o 3 (.mv (i 0))])
 (.seq (.seq (.ops [o 4 (.mv (t 0)),
 k 5 (.ca (.func 44) [(t 4)]),
 o 6 (.un .not (t 5))])
 (.cond (t 6)
 (.seq (.ops [o 7 (.bd [.int .i64 0, .bool false, .int .i64 0, .int .i64 0, .int .i64 0, .int .i64 0] []),
 kn (.st [] 6 (t 2) (t 7)),
 o 3 (.mv (i 1))])
 .ret)
 .skip))
 (.seq (.ops [o 8 (.mv (t 0)),
 k 9 (.ca (.func 45) [(t 8)]),
 kn (.st [] 6 (t 2) (t 9)),
 o 3 (.mv (i 0))])
 .ret)))⟩
theorem e14 : slimF Try.prog Try.f14 [] = some c14 := by kernel_rfl
/-- cellar/val.No -/
def c15 : SF := ⟨10, [.c true 6 2, .t 3], (.seq (.ops [k 2 (.al 28 [.int .i64 0, .bool false, .int .i64 0, .int .i64 0, .int .i64 0, .int .i64 0]),
 o 3 (.mv (i 0))])
 (.seq (.seq (.ops [o 4 (.mv (t 0)),
 k 5 (.ca (.func 44) [(t 4)]),
 o 6 (.un .not (t 5))])
 (.cond (t 6)
 (.seq (.ops [o 7 (.bd [.int .i64 0, .bool false, .int .i64 0, .int .i64 0, .int .i64 0, .int .i64 0] []),
 kn (.st [] 6 (t 2) (t 7)),
 o 3 (.mv (i 1))])
 .ret)
 .skip))
 (.seq (.ops [o 8 (.mv (t 0)),
 k 9 (.ca (.func 46) [(t 8)]),
 kn (.st [] 6 (t 2) (t 9)),
 o 3 (.mv (i 0))])
 .ret)))⟩
theorem e15 : slimF Try.prog Try.f15 [] = some c15 := by kernel_rfl
/-- cellar/cellarref1.IsWidth -/
def c16 : SF := ⟨13, [.t 2], (.seq (.ops [o 2 (.mv (b false))])
 (.seq (.ops [o 3 (.mv (t 0)),
 o 4 (.bin .eql (t 3) (i 8)),
 o 5 (.mv (t 4)),
 og 6 5 false (.mv (t 0)),
 og 7 5 false (.bin .eql (t 6) (i 16)),
 o 8 (.pick (t 5) (b true) (t 7)),
 o 9 (.mv (t 8)),
 og 10 9 false (.mv (t 0)),
 og 11 9 false (.bin .eql (t 10) (i 32)),
 o 12 (.pick (t 9) (b true) (t 11)),
 o 2 (.mv (t 12))])
 .ret))⟩
theorem e16 : slimF Try.prog Try.f16 [] = some c16 := by kernel_rfl
/-- cellar/cellarlaw3.num -/
def c17 : SF := ⟨4, [.t 2], (.seq (.ops [o 2 (.mv (i 0))])
 (.seq (.ops [o 3 (.mv (t 0)),
 o 2 (.mv (t 3))])
 .ret))⟩
theorem e17 : slimF Try.prog Try.f17 [] = some c17 := by kernel_rfl
/-- cellar/cellarref1.Val -/
def c18 : SF := ⟨48, [.t 2], (.seq (.ops [k 1 (.bx 28 (t 0)),
 o 2 (.mv (b false))])
 (.seq (.seq (.ops [o 3 (.fa 0 (t 1)),
 o 4 (.ld false 1 (t 3)),
 k 5 (.ca (.func 16) [(t 4)]),
 o 6 (.un .not (t 5))])
 (.cond (t 6)
 (.seq (.ops [o 2 (.mv (b false))])
 .ret)
 .skip))
 (.seq (.seq (.ops [o 7 (.fa 1 (t 1)),
 o 8 (.ld false 1 (t 7))])
 (.cond (t 8)
 (.seq (.ops [o 9 (.ld true 6 (t 1)),
 o 10 (.fa 0 (t 1)),
 o 11 (.ld false 1 (t 10)),
 o 12 (.bd [.int .i64 0, .bool false, .int .i64 0, .int .i64 0, .int .i64 0, .int .i64 0] [(0, 1, (t 11)), (1, 1, (b true))]),
 o 13 (.eqs (.st [(false, 0, 1, .i), (false, 1, 1, .b), (false, 2, 1, .i), (false, 3, 1, .i), (false, 4, 1, .i), (false, 5, 1, .i)]) false (t 9) (t 12)),
 o 2 (.mv (t 13))])
 .ret)
 .skip))
 (.seq (.ops [o 14 (.fa 2 (t 1)),
 o 15 (.ld false 1 (t 14)),
 o 16 (.fa 0 (t 1)),
 o 17 (.ld false 1 (t 16)),
 k 18 (.ca (.func 21) [(t 15), (t 17)]),
 o 19 (.mv (t 18)),
 og 20 19 true (.fa 3 (t 1)),
 og 21 19 true (.ld false 1 (t 20)),
 og 22 19 true (.fa 0 (t 1)),
 og 23 19 true (.ld false 1 (t 22)),
 ⟨some 24, some (19, true), .ca (.func 21) [(t 21), (t 23)]⟩,
 o 25 (.pick (t 19) (t 24) (b false)),
 o 26 (.mv (t 25)),
 og 27 26 true (.fa 4 (t 1)),
 og 28 26 true (.ld false 1 (t 27)),
 og 29 26 true (.fa 0 (t 1)),
 og 30 26 true (.ld false 1 (t 29)),
 ⟨some 31, some (26, true), .ca (.func 21) [(t 28), (t 30)]⟩,
 o 32 (.pick (t 26) (t 31) (b false)),
 o 33 (.mv (t 32)),
 og 34 33 true (.fa 5 (t 1)),
 og 35 33 true (.ld false 1 (t 34)),
 og 36 33 true (.fa 0 (t 1)),
 og 37 33 true (.ld false 1 (t 36)),
 ⟨some 38, some (33, true), .ca (.func 21) [(t 35), (t 37)]⟩,
 o 39 (.pick (t 33) (t 38) (b false)),
 o 40 (.mv (t 39)),
 og 41 40 true (.fa 5 (t 1)),
 og 42 40 true (.ld false 1 (t 41)),
 og 43 40 true (.fa 4 (t 1)),
 og 44 40 true (.ld false 1 (t 43)),
 og 45 40 true (.bin .and (t 42) (t 44)),
 og 46 40 true (.bin .eql (t 45) (i 0)),
 o 47 (.pick (t 40) (t 46) (b false)),
 o 2 (.mv (t 47))])
 .ret))))⟩
theorem e18 : slimF Try.prog Try.f18 [] = some c18 := by kernel_rfl
/-- cellar/cellarref1.Next -/
def c19 : SF := ⟨73, [.t 4], (.seq (.ops [k 2 (.bx 28 (t 0)),
 o 4 (.mv (i 0))])
 (.seq (.seq (.ops [o 9 (.fa 1 (t 2)),
 o 10 (.ld false 1 (t 9)),
 o 11 (.mv (t 10)),
 og 12 11 false (.mv (t 1)),
 og 13 11 false (.fa 0 (t 2)),
 og 14 11 false (.ld false 1 (t 13)),
 og 15 11 false (.bin .shl (i 1) (t 14)),
 og 16 11 false (.bin .geq (t 12) (t 15)),
 o 17 (.pick (t 11) (b true) (t 16))])
 (.cond (t 17)
 (.seq (.ops [o 4 (.mv (i (-1)))])
 .ret)
 .skip))
 (.seq (.ops [o 18 (.fa 2 (t 2)),
 o 19 (.ld false 1 (t 18)),
 k 20 (.bs 3 2 [.int .i64 0, .int .i64 0] [(0, 1, (t 19)), (1, 1, (i 0))]),
 o 5 (.mv (t 20))])
 (.seq (.ops [o 21 (.fa 3 (t 2)),
 o 22 (.ld false 1 (t 21)),
 k 23 (.bs 3 2 [.int .i64 0, .int .i64 0] [(0, 1, (t 22)), (1, 1, (i (-1)))]),
 o 6 (.mv (t 23))])
 (.seq (.seq (.ops [o 24 (.fa 2 (t 2)),
 o 25 (.ld false 1 (t 24)),
 o 26 (.fa 3 (t 2)),
 o 27 (.ld false 1 (t 26)),
 o 28 (.bin .gtr (t 25) (t 27))])
 (.cond (t 28)
 (.opd [o 29 (.fa 2 (t 2)),
 o 30 (.ld false 1 (t 29)),
 o 32 (.fa 3 (t 2)),
 o 33 (.ld false 1 (t 32)),
 o 34 (.fa 0 (t 2)),
 o 35 (.ld false 1 (t 34)),
 o 36 (.bin .shl (i 1) (t 35)),
 o 37 (.bin .sub (t 36) (i 1)),
 k 31 (.bs 3 2 [.int .i64 0, .int .i64 0] [(0, 1, (i 0)), (1, 1, (t 30))]),
 o 5 (.mv (t 31)),
 k 38 (.bs 3 2 [.int .i64 0, .int .i64 0] [(0, 1, (t 33)), (1, 1, (t 37))]),
 o 6 (.mv (t 38))])
 .skip))
 (.seq (.seq (.ops [o 7 (.mv (i 0))])
 (.block 0 (.loop (.seq (.seq (.ops [o 39 (.mv (t 7)),
 o 40 (.bin .lss (t 39) (i 2))])
 (.cond (t 40)
 .skip
 (.exit 0)))
 (.seq (.block 1 (.seq (.seq (.opd [o 43 (.mv (t 1)),
 o 44 (.mv (t 5)),
 o 45 (.mv (t 7)),
 o 46 (.ia 1 (t 44) (t 45)),
 o 47 (.ld false 1 (t 46)),
 o 48 (.mx [(t 43), (t 47)]),
 o 49 (.mv (t 6)),
 o 50 (.mv (t 7)),
 o 51 (.ia 1 (t 49) (t 50)),
 o 52 (.ld false 1 (t 51)),
 o 53 (.bin .gtr (t 48) (t 52))])
 (.cond (t 53)
 (.exit 1)
 .skip))
 (.seq (.opd [o 54 (.ld true 6 (t 2)),
 o 55 (.mv (t 1)),
 o 56 (.mv (t 5)),
 o 57 (.mv (t 7)),
 o 58 (.ia 1 (t 56) (t 57)),
 o 59 (.ld false 1 (t 58)),
 o 60 (.mx [(t 55), (t 59)]),
 k 61 (.ca (.func 47) [(t 54), (t 60)]),
 o 8 (.mv (t 61))])
 (.seq (.ops [o 62 (.mv (t 8)),
 o 63 (.bin .geq (t 62) (i 0)),
 o 64 (.mv (t 63)),
 og 65 64 true (.mv (t 8)),
 og 66 64 true (.mv (t 6)),
 og 67 64 true (.mv (t 7)),
 og 68 64 true (.ia 1 (t 66) (t 67)),
 og 69 64 true (.ld false 1 (t 68)),
 og 70 64 true (.bin .leq (t 65) (t 69)),
 o 71 (.pick (t 64) (t 70) (b false))])
 (.cond (t 71)
 (.seq (.ops [o 72 (.mv (t 8)),
 o 4 (.mv (t 72))])
 .ret)
 .skip)))))
 (.ops [o 41 (.mv (t 7)),
 o 42 (.bin .add (t 41) (i 1)),
 o 7 (.mv (t 42))]))))))
 (.seq (.ops [o 4 (.mv (i (-1)))])
 .ret)))))))⟩
theorem e19 : slimF Try.prog Try.f19 [[(0, []), (1, []), (3, []), (4, []), (5, []), (6, []), (7, []), (8, []), (2, []), (10, []), (9, []), (11, [])], [(0, []), (1, []), (2, []), (3, []), (4, []), (5, []), (6, []), (7, []), (8, []), (9, []), (10, [])], [(0, []), (1, []), (2, []), (3, []), (4, []), (5, []), (6, []), (7, []), (8, [])]] = some c19 := by kernel_rfl
/-- cellar/val.One -/
def c20 : SF := ⟨19, [.c true 6 4, .t 5], (.seq (.ops [k 4 (.al 28 [.int .i64 0, .bool false, .int .i64 0, .int .i64 0, .int .i64 0, .int .i64 0]),
 o 5 (.mv (i 0))])
 (.seq (.seq (.ops [o 6 (.mv (t 0)),
 k 7 (.ca (.func 44) [(t 6)]),
 o 8 (.un .not (t 7)),
 o 9 (.mv (t 8)),
 og 10 9 false (.mv (t 1)),
 og 11 9 false (.mv (t 0)),
 ⟨some 12, some (9, false), .ca (.func 48) [(t 10), (t 11)]⟩,
 og 13 9 false (.un .not (t 12)),
 o 14 (.pick (t 9) (b true) (t 13))])
 (.cond (t 14)
 (.seq (.ops [o 15 (.bd [.int .i64 0, .bool false, .int .i64 0, .int .i64 0, .int .i64 0, .int .i64 0] []),
 kn (.st [] 6 (t 4) (t 15)),
 o 5 (.mv (i 1))])
 .ret)
 .skip))
 (.seq (.ops [o 16 (.mv (t 0)),
 o 17 (.mv (t 1)),
 k 18 (.ca (.func 49) [(t 16), (t 17)]),
 kn (.st [] 6 (t 4) (t 18)),
 o 5 (.mv (i 0))])
 .ret)))⟩
theorem e20 : slimF Try.prog Try.f20 [] = some c20 := by kernel_rfl
/-- cellar/cellarref1.Number -/
def c21 : SF := ⟨10, [.t 4], (.seq (.ops [o 4 (.mv (b false))])
 (.seq (.ops [o 5 (.mv (t 0)),
 o 6 (.mv (t 1)),
 o 7 (.bin .shl (i 1) (t 6)),
 o 8 (.bin .sub (t 7) (i 1)),
 k 9 (.ca (.func 50) [(t 5), (t 8)]),
 o 4 (.mv (t 9))])
 .ret))⟩
theorem e21 : slimF Try.prog Try.f21 [] = some c21 := by kernel_rfl
/-- cellar/cellarref1.Only -/
def c22 : SF := ⟨17, [.t 2, .t 3], (.seq (.ops [k 1 (.bx 28 (t 0)),
 o 2 (.mv (i 0)),
 o 3 (.mv (b false))])
 (.seq (.ops [o 5 (.ld true 6 (t 1)),
 k 6 (.ca (.func 19) [(t 5), (i 0)]),
 o 4 (.mv (t 6))])
 (.seq (.ops [o 7 (.mv (t 4)),
 o 8 (.mv (t 4)),
 o 9 (.bin .geq (t 8) (i 0)),
 o 10 (.mv (t 9)),
 og 11 10 true (.ld true 6 (t 1)),
 og 12 10 true (.mv (t 4)),
 og 13 10 true (.bin .add (t 12) (i 1)),
 ⟨some 14, some (10, true), .ca (.func 19) [(t 11), (t 13)]⟩,
 og 15 10 true (.bin .lss (t 14) (i 0)),
 o 16 (.pick (t 10) (t 15) (b false)),
 o 2 (.mv (t 7)),
 o 3 (.mv (t 16))])
 .ret)))⟩
theorem e22 : slimF Try.prog Try.f22 [] = some c22 := by kernel_rfl
/-- cellar/cellarref1.Has -/
def c23 : SF := ⟨37, [.t 4], (.seq (.ops [k 2 (.bx 28 (t 0)),
 o 4 (.mv (b false))])
 (.seq (.seq (.ops [o 5 (.fa 1 (t 2)),
 o 6 (.ld false 1 (t 5)),
 o 7 (.mv (t 6)),
 og 8 7 false (.mv (t 1)),
 og 9 7 false (.fa 4 (t 2)),
 og 10 7 false (.ld false 1 (t 9)),
 og 11 7 false (.bin .andNot (t 8) (t 10)),
 og 12 7 false (.fa 5 (t 2)),
 og 13 7 false (.ld false 1 (t 12)),
 og 14 7 false (.bin .neq (t 11) (t 13)),
 o 15 (.pick (t 7) (b true) (t 14))])
 (.cond (t 15)
 (.seq (.ops [o 4 (.mv (b false))])
 .ret)
 .skip))
 (.seq (.seq (.ops [o 16 (.fa 2 (t 2)),
 o 17 (.ld false 1 (t 16)),
 o 18 (.fa 3 (t 2)),
 o 19 (.ld false 1 (t 18)),
 o 20 (.bin .leq (t 17) (t 19))])
 (.cond (t 20)
 (.seq (.ops [o 21 (.mv (t 1)),
 o 22 (.fa 2 (t 2)),
 o 23 (.ld false 1 (t 22)),
 o 24 (.fa 3 (t 2)),
 o 25 (.ld false 1 (t 24)),
 k 26 (.ca (.func 51) [(t 21), (t 23), (t 25)]),
 o 4 (.mv (t 26))])
 .ret)
 .skip))
 (.seq (.ops [o 27 (.mv (t 1)),
 o 28 (.fa 2 (t 2)),
 o 29 (.ld false 1 (t 28)),
 o 30 (.bin .geq (t 27) (t 29)),
 o 31 (.mv (t 30)),
 og 32 31 false (.mv (t 1)),
 og 33 31 false (.fa 3 (t 2)),
 og 34 31 false (.ld false 1 (t 33)),
 og 35 31 false (.bin .leq (t 32) (t 34)),
 o 36 (.pick (t 31) (b true) (t 35)),
 o 4 (.mv (t 36))])
 .ret))))⟩
theorem e23 : slimF Try.prog Try.f23 [] = some c23 := by kernel_rfl
/-- cellar/cellarlaw3.wakes -/
def c24 : SF := ⟨45, [.t 0], (.seq (.ops [o 0 (.mv (b false))])
 (.seq (.ops [k 8 (.ca (.func 20) [(i 8), (i 3)]),
 o 7 (.mv (t 8)),
 o 9 (.ex (t 7) 0),
 o 10 (.ex (t 7) 1),
 k 1 (.al 28 [.int .i64 0, .bool false, .int .i64 0, .int .i64 0, .int .i64 0, .int .i64 0]),
 kn (.st [] 6 (t 1) (t 9)),
 o 2 (.mv (t 10))])
 (.seq (.ops [o 12 (.ld true 6 (t 1)),
 k 13 (.ca (.func 25) [(t 12), (i 3)]),
 o 11 (.mv (t 13)),
 o 14 (.ex (t 11) 0),
 o 15 (.ex (t 11) 1),
 o 3 (.mv (t 14)),
 o 4 (.mv (t 15))])
 (.seq (.ops [o 17 (.ld true 6 (t 1)),
 k 18 (.ca (.func 25) [(t 17), (i 4)]),
 o 16 (.mv (t 18)),
 o 19 (.ex (t 16) 0),
 o 20 (.ex (t 16) 1),
 o 5 (.mv (t 19)),
 o 6 (.mv (t 20))])
 (.seq (.ops [o 21 (.mv (t 2)),
 k 22 (.ca (.func 17) [(t 21)]),
 o 23 (.bin .eql (t 22) (i 0)),
 o 24 (.mv (t 23)),
 og 25 24 true (.mv (t 4)),
 ⟨some 26, some (24, true), .ca (.func 17) [(t 25)]⟩,
 og 27 24 true (.bin .eql (t 26) (i 0)),
 o 28 (.pick (t 24) (t 27) (b false)),
 o 29 (.mv (t 28)),
 og 30 29 true (.mv (t 6)),
 ⟨some 31, some (29, true), .ca (.func 17) [(t 30)]⟩,
 og 32 29 true (.bin .eql (t 31) (i 0)),
 o 33 (.pick (t 29) (t 32) (b false)),
 o 34 (.mv (t 33)),
 og 35 34 true (.mv (t 3)),
 o 36 (.pick (t 34) (t 35) (b false)),
 o 37 (.mv (t 36)),
 og 38 37 true (.mv (t 5)),
 og 39 37 true (.un .not (t 38)),
 o 40 (.pick (t 37) (t 39) (b false)),
 o 41 (.mv (t 40)),
 og 42 41 true (.ld true 6 (t 1)),
 ⟨some 43, some (41, true), .ca (.func 18) [(t 42)]⟩,
 o 44 (.pick (t 41) (t 43) (b false)),
 o 0 (.mv (t 44))])
 .ret)))))⟩
theorem e24 : slimF Try.prog Try.f24 [] = some c24 := by kernel_rfl
/-- cellar/val.Has -/
def c25 : SF := ⟨19, [.t 4, .t 5], (.seq (.ops [k 2 (.bx 28 (t 0)),
 o 4 (.mv (b false)),
 o 5 (.mv (i 0))])
 (.seq (.seq (.ops [o 6 (.ld true 6 (t 2)),
 k 7 (.ca (.func 52) [(t 6)]),
 o 8 (.un .not (t 7)),
 o 9 (.mv (t 8)),
 og 10 9 false (.mv (t 1)),
 og 11 9 false (.fa 0 (t 2)),
 og 12 9 false (.ld false 1 (t 11)),
 ⟨some 13, some (9, false), .ca (.func 48) [(t 10), (t 12)]⟩,
 og 14 9 false (.un .not (t 13)),
 o 15 (.pick (t 9) (b true) (t 14))])
 (.cond (t 15)
 (.seq (.ops [o 4 (.mv (b false)),
 o 5 (.mv (i 1))])
 .ret)
 .skip))
 (.seq (.ops [o 16 (.ld true 6 (t 2)),
 o 17 (.mv (t 1)),
 k 18 (.ca (.func 53) [(t 16), (t 17)]),
 o 4 (.mv (t 18)),
 o 5 (.mv (i 0))])
 .ret)))⟩
theorem e25 : slimF Try.prog Try.f25 [] = some c25 := by kernel_rfl
/-- cellar/val.Next -/
def c26 : SF := ⟨23, [.t 4, .t 5], (.seq (.ops [k 2 (.bx 28 (t 0)),
 o 4 (.mv (i 0)),
 o 5 (.mv (i 0))])
 (.seq (.seq (.ops [o 7 (.ld true 6 (t 2)),
 k 8 (.ca (.func 52) [(t 7)]),
 o 9 (.un .not (t 8)),
 o 10 (.mv (t 9)),
 og 11 10 false (.mv (t 1)),
 og 12 10 false (.fa 0 (t 2)),
 og 13 10 false (.ld false 1 (t 12)),
 ⟨some 14, some (10, false), .ca (.func 48) [(t 11), (t 13)]⟩,
 og 15 10 false (.un .not (t 14)),
 o 16 (.pick (t 10) (b true) (t 15))])
 (.cond (t 16)
 (.seq (.ops [o 4 (.mv (i 0)),
 o 5 (.mv (i 1))])
 .ret)
 .skip))
 (.seq (.ops [o 17 (.ld true 6 (t 2)),
 o 18 (.mv (t 1)),
 k 19 (.ca (.func 54) [(t 17), (t 18)]),
 o 6 (.mv (t 19))])
 (.seq (.seq (.ops [o 20 (.mv (t 6)),
 o 21 (.bin .lss (t 20) (i 0))])
 (.cond (t 21)
 (.seq (.ops [o 4 (.mv (i 0)),
 o 5 (.mv (i 3))])
 .ret)
 .skip))
 (.seq (.ops [o 22 (.mv (t 6)),
 o 4 (.mv (t 22)),
 o 5 (.mv (i 0))])
 .ret)))))⟩
theorem e26 : slimF Try.prog Try.f26 [] = some c26 := by kernel_rfl
/-- cellar/val.Empty -/
def c27 : SF := ⟨9, [.t 2, .t 3], (.seq (.ops [k 1 (.bx 28 (t 0)),
 o 2 (.mv (b false)),
 o 3 (.mv (i 0))])
 (.seq (.seq (.ops [o 4 (.ld true 6 (t 1)),
 k 5 (.ca (.func 52) [(t 4)]),
 o 6 (.un .not (t 5))])
 (.cond (t 6)
 (.seq (.ops [o 2 (.mv (b false)),
 o 3 (.mv (i 1))])
 .ret)
 .skip))
 (.seq (.ops [o 7 (.ld true 6 (t 1)),
 k 8 (.ca (.func 55) [(t 7)]),
 o 2 (.mv (t 8)),
 o 3 (.mv (i 0))])
 .ret)))⟩
theorem e27 : slimF Try.prog Try.f27 [] = some c27 := by kernel_rfl
/-- cellar/val.Single -/
def c28 : SF := ⟨15, [.t 2, .t 3, .t 4], (.seq (.ops [k 1 (.bx 28 (t 0)),
 o 2 (.mv (b false)),
 o 3 (.mv (i 0)),
 o 4 (.mv (i 0))])
 (.seq (.seq (.ops [o 5 (.ld true 6 (t 1)),
 k 6 (.ca (.func 52) [(t 5)]),
 o 7 (.un .not (t 6))])
 (.cond (t 7)
 (.seq (.ops [o 2 (.mv (b false)),
 o 3 (.mv (i 0)),
 o 4 (.mv (i 1))])
 .ret)
 .skip))
 (.seq (.ops [o 9 (.ld true 6 (t 1)),
 k 10 (.ca (.func 56) [(t 9)]),
 o 8 (.mv (t 10)),
 o 11 (.ex (t 8) 0),
 o 12 (.ex (t 8) 1),
 o 3 (.mv (t 11)),
 o 2 (.mv (t 12))])
 (.seq (.ops [o 13 (.mv (t 2)),
 o 14 (.mv (t 3)),
 o 2 (.mv (t 13)),
 o 3 (.mv (t 14)),
 o 4 (.mv (i 0))])
 .ret))))⟩
theorem e28 : slimF Try.prog Try.f28 [] = some c28 := by kernel_rfl
/-- cellar/val.Check -/
def c29 : SF := ⟨6, [.t 2], (.seq (.ops [k 1 (.bx 28 (t 0)),
 o 2 (.mv (i 0))])
 (.seq (.seq (.ops [o 3 (.ld true 6 (t 1)),
 k 4 (.ca (.func 52) [(t 3)]),
 o 5 (.un .not (t 4))])
 (.cond (t 5)
 (.seq (.ops [o 2 (.mv (i 1))])
 .ret)
 .skip))
 (.seq (.ops [o 2 (.mv (i 0))])
 .ret)))⟩
theorem e29 : slimF Try.prog Try.f29 [] = some c29 := by kernel_rfl
/-- cellar/word.IsWidth -/
def c44 : SF := ⟨13, [.t 2], (.seq (.ops [o 2 (.mv (b false))])
 (.seq (.ops [o 3 (.mv (t 0)),
 o 4 (.bin .eql (t 3) (i 8)),
 o 5 (.mv (t 4)),
 og 6 5 false (.mv (t 0)),
 og 7 5 false (.bin .eql (t 6) (i 16)),
 o 8 (.pick (t 5) (b true) (t 7)),
 o 9 (.mv (t 8)),
 og 10 9 false (.mv (t 0)),
 og 11 9 false (.bin .eql (t 10) (i 32)),
 o 12 (.pick (t 9) (b true) (t 11)),
 o 2 (.mv (t 12))])
 .ret))⟩
theorem e44 : slimF Try.prog Try.f44 [] = some c44 := by kernel_rfl
/-- cellar/val.Whole -/
def c45 : SF := ⟨9, [.c true 6 2], (.seq (.ops [k 2 (.al 28 [.int .i64 0, .bool false, .int .i64 0, .int .i64 0, .int .i64 0, .int .i64 0])])
 (.seq (.ops [o 3 (.mv (t 0)),
 o 4 (.mv (t 0)),
 k 5 (.ca (.func 67) [(t 4)]),
 o 6 (.mv (t 0)),
 k 7 (.ca (.func 67) [(t 6)]),
 o 8 (.bd [.int .i64 0, .bool false, .int .i64 0, .int .i64 0, .int .i64 0, .int .i64 0] [(0, 1, (t 3)), (3, 1, (t 5)), (4, 1, (t 7))]),
 kn (.st [] 6 (t 2) (t 8))])
 .ret))⟩
theorem e45 : slimF Try.prog Try.f45 [] = some c45 := by kernel_rfl
/-- cellar/val.Nothing -/
def c46 : SF := ⟨5, [.c true 6 2], (.seq (.ops [k 2 (.al 28 [.int .i64 0, .bool false, .int .i64 0, .int .i64 0, .int .i64 0, .int .i64 0])])
 (.seq (.ops [o 3 (.mv (t 0)),
 o 4 (.bd [.int .i64 0, .bool false, .int .i64 0, .int .i64 0, .int .i64 0, .int .i64 0] [(0, 1, (t 3)), (1, 1, (b true))]),
 kn (.st [] 6 (t 2) (t 4))])
 .ret))⟩
theorem e46 : slimF Try.prog Try.f46 [] = some c46 := by kernel_rfl
/-- cellar/cellarref1.match -/
def c47 : SF := ⟨73, [.t 4], (.seq (.ops [k 2 (.bx 28 (t 0)),
 o 4 (.mv (i 0))])
 (.seq (.seq (.ops [o 7 (.mv (t 1)),
 o 8 (.fa 4 (t 2)),
 o 9 (.ld false 1 (t 8)),
 o 10 (.bin .andNot (t 7) (t 9)),
 o 11 (.fa 5 (t 2)),
 o 12 (.ld false 1 (t 11)),
 o 13 (.bin .eql (t 10) (t 12))])
 (.cond (t 13)
 (.seq (.ops [o 14 (.mv (t 1)),
 o 4 (.mv (t 14))])
 .ret)
 .skip))
 (.seq (.seq (.ops [o 5 (.mv (i 0))])
 (.block 0 (.loop (.seq (.seq (.ops [o 15 (.mv (t 5)),
 o 16 (.fa 0 (t 2)),
 o 17 (.ld false 1 (t 16)),
 o 18 (.bin .lss (t 15) (t 17))])
 (.cond (t 18)
 .skip
 (.exit 0)))
 (.seq (.block 1 (.seq (.ops [o 21 (.mv (t 1)),
 o 22 (.fa 4 (t 2)),
 o 23 (.ld false 1 (t 22)),
 o 24 (.bin .andNot (t 21) (t 23)),
 o 25 (.fa 5 (t 2)),
 o 26 (.ld false 1 (t 25)),
 o 27 (.bin .xor (t 24) (t 26)),
 o 28 (.mv (t 5)),
 o 29 (.bin .add (t 28) (i 1)),
 o 30 (.bin .shr (t 27) (t 29)),
 o 6 (.mv (t 30))])
 (.seq (.ops [o 31 (.mv (t 6)),
 o 32 (.bin .eql (t 31) (i 0)),
 o 33 (.mv (t 32)),
 og 34 33 true (.mv (t 1)),
 og 35 33 true (.mv (t 5)),
 og 36 33 true (.bin .shr (t 34) (t 35)),
 og 37 33 true (.bin .and (t 36) (i 1)),
 og 38 33 true (.bin .eql (t 37) (i 0)),
 o 39 (.pick (t 33) (t 38) (b false)),
 o 40 (.mv (t 39)),
 og 41 40 true (.fa 4 (t 2)),
 og 42 40 true (.ld false 1 (t 41)),
 og 43 40 true (.mv (t 5)),
 og 44 40 true (.bin .shr (t 42) (t 43)),
 og 45 40 true (.bin .and (t 44) (i 1)),
 og 46 40 true (.bin .eql (t 45) (i 1)),
 og 47 40 true (.mv (t 46)),
 og 48 47 false (.fa 5 (t 2)),
 og 49 47 false (.ld false 1 (t 48)),
 og 50 47 false (.mv (t 5)),
 og 51 47 false (.bin .shr (t 49) (t 50)),
 og 52 47 false (.bin .and (t 51) (i 1)),
 og 53 47 false (.bin .eql (t 52) (i 1)),
 og 54 40 true (.pick (t 47) (b true) (t 53)),
 o 55 (.pick (t 40) (t 54) (b false))])
 (.cond (t 55)
 (.seq (.opd [o 56 (.mv (t 1)),
 o 57 (.mv (t 5)),
 o 58 (.bin .add (t 57) (i 1)),
 o 59 (.bin .shr (t 56) (t 58)),
 o 60 (.mv (t 5)),
 o 61 (.bin .add (t 60) (i 1)),
 o 62 (.bin .shl (t 59) (t 61)),
 o 63 (.mv (t 5)),
 o 64 (.bin .shl (i 1) (t 63)),
 o 65 (.bin .or (t 62) (t 64)),
 o 66 (.fa 5 (t 2)),
 o 67 (.ld false 1 (t 66)),
 o 68 (.mv (t 5)),
 o 69 (.bin .shl (i 1) (t 68)),
 o 70 (.bin .sub (t 69) (i 1)),
 o 71 (.bin .and (t 67) (t 70)),
 o 72 (.bin .or (t 65) (t 71)),
 o 4 (.mv (t 72))])
 .ret)
 .skip))))
 (.ops [o 19 (.mv (t 5)),
 o 20 (.bin .add (t 19) (i 1)),
 o 5 (.mv (t 20))]))))))
 (.seq (.ops [o 4 (.mv (i (-1)))])
 .ret))))⟩
theorem e47 : slimF Try.prog Try.f47 [[(0, []), (1, []), (2, []), (3, []), (4, []), (5, []), (6, []), (7, []), (8, []), (9, []), (10, []), (11, []), (12, []), (13, []), (14, []), (15, []), (16, []), (17, [])]] = some c47 := by kernel_rfl
/-- cellar/word.Is -/
def c48 : SF := ⟨13, [.t 4], (.seq (.ops [o 4 (.mv (b false))])
 (.seq (.ops [o 5 (.mv (t 0)),
 o 6 (.bin .geq (t 5) (i 0)),
 o 7 (.mv (t 6)),
 og 8 7 true (.mv (t 0)),
 og 9 7 true (.mv (t 1)),
 ⟨some 10, some (7, true), .ca (.func 67) [(t 9)]⟩,
 og 11 7 true (.bin .leq (t 8) (t 10)),
 o 12 (.pick (t 7) (t 11) (b false)),
 o 4 (.mv (t 12))])
 .ret))⟩
theorem e48 : slimF Try.prog Try.f48 [] = some c48 := by kernel_rfl
/-- cellar/val.Just -/
def c49 : SF := ⟨10, [.c true 6 4], (.seq (.ops [k 4 (.al 28 [.int .i64 0, .bool false, .int .i64 0, .int .i64 0, .int .i64 0, .int .i64 0])])
 (.seq (.ops [o 5 (.mv (t 0)),
 o 6 (.mv (t 1)),
 o 7 (.mv (t 1)),
 o 8 (.mv (t 1)),
 o 9 (.bd [.int .i64 0, .bool false, .int .i64 0, .int .i64 0, .int .i64 0, .int .i64 0] [(0, 1, (t 5)), (2, 1, (t 6)), (3, 1, (t 7)), (5, 1, (t 8))]),
 kn (.st [] 6 (t 4) (t 9))])
 .ret))⟩
theorem e49 : slimF Try.prog Try.f49 [] = some c49 := by kernel_rfl
/-- cellar/cellarref0.Num -/
def c50 : SF := ⟨12, [.t 4], (.seq (.ops [o 4 (.mv (b false))])
 (.seq (.ops [o 5 (.mv (t 0)),
 o 6 (.bin .geq (t 5) (i 0)),
 o 7 (.mv (t 6)),
 og 8 7 true (.mv (t 0)),
 og 9 7 true (.mv (t 1)),
 og 10 7 true (.bin .leq (t 8) (t 9)),
 o 11 (.pick (t 7) (t 10) (b false)),
 o 4 (.mv (t 11))])
 .ret))⟩
theorem e50 : slimF Try.prog Try.f50 [] = some c50 := by kernel_rfl
/-- cellar/cellarref0.Between -/
def c51 : SF := ⟨15, [.t 6], (.seq (.ops [o 6 (.mv (b false))])
 (.seq (.ops [o 7 (.mv (t 0)),
 o 8 (.mv (t 1)),
 o 9 (.bin .geq (t 7) (t 8)),
 o 10 (.mv (t 9)),
 og 11 10 true (.mv (t 0)),
 og 12 10 true (.mv (t 2)),
 og 13 10 true (.bin .leq (t 11) (t 12)),
 o 14 (.pick (t 10) (t 13) (b false)),
 o 6 (.mv (t 14))])
 .ret))⟩
theorem e51 : slimF Try.prog Try.f51 [] = some c51 := by kernel_rfl
/-- cellar/val.May -/
def c52 : SF := ⟨42, [.t 2], (.seq (.ops [k 1 (.bx 28 (t 0)),
 o 2 (.mv (b false))])
 (.seq (.seq (.ops [o 5 (.fa 0 (t 1)),
 o 6 (.ld false 1 (t 5)),
 k 7 (.ca (.func 44) [(t 6)]),
 o 8 (.un .not (t 7))])
 (.cond (t 8)
 (.seq (.ops [o 2 (.mv (b false))])
 .ret)
 .skip))
 (.seq (.seq (.ops [o 9 (.fa 1 (t 1)),
 o 10 (.ld false 1 (t 9))])
 (.cond (t 10)
 (.seq (.opd [o 11 (.ld true 6 (t 1)),
 o 12 (.fa 0 (t 1)),
 o 13 (.ld false 1 (t 12)),
 k 14 (.ca (.func 46) [(t 13)]),
 o 15 (.eqs (.st [(false, 0, 1, .i), (false, 1, 1, .b), (false, 2, 1, .i), (false, 3, 1, .i), (false, 4, 1, .i), (false, 5, 1, .i)]) false (t 11) (t 14)),
 o 2 (.mv (t 15))])
 .ret)
 .skip))
 (.seq (.seq (.ops [o 16 (.fa 2 (t 1)),
 o 17 (.ld false 1 (t 16)),
 o 18 (.fa 3 (t 1)),
 o 19 (.ld false 1 (t 18)),
 o 20 (.fa 4 (t 1)),
 o 21 (.ld false 1 (t 20)),
 o 22 (.fa 5 (t 1)),
 o 23 (.ld false 1 (t 22)),
 k 24 (.bs 3 4 [.int .i64 0, .int .i64 0, .int .i64 0, .int .i64 0] [(0, 1, (t 17)), (1, 1, (t 19)), (2, 1, (t 21)), (3, 1, (t 23))]),
 o 25 (.ln (t 24)),
 o 26 (.mv (i 0))])
 (.block 0 (.loop (.seq (.ops [o 27 (.bin .lss (t 26) (t 25))])
 (.seq (.cond (t 27)
 .skip
 (.exit 0))
 (.seq (.block 1 (.seq (.ops [o 28 (.ia 1 (t 24) (t 26)),
 o 29 (.ld false 1 (t 28)),
 o 4 (.mv (t 29))])
 (.seq (.ops [o 30 (.mv (t 4)),
 o 31 (.fa 0 (t 1)),
 o 32 (.ld false 1 (t 31)),
 k 33 (.ca (.func 48) [(t 30), (t 32)]),
 o 34 (.un .not (t 33))])
 (.cond (t 34)
 (.seq (.ops [o 2 (.mv (b false))])
 .ret)
 .skip))))
 (.ops [o 35 (.bin .add (t 26) (i 1)),
 o 26 (.mv (t 35))])))))))
 (.seq (.ops [o 36 (.fa 5 (t 1)),
 o 37 (.ld false 1 (t 36)),
 o 38 (.fa 4 (t 1)),
 o 39 (.ld false 1 (t 38)),
 o 40 (.bin .and (t 37) (t 39)),
 o 41 (.bin .eql (t 40) (i 0)),
 o 2 (.mv (t 41))])
 .ret)))))⟩
theorem e52 : slimF Try.prog Try.f52 [[(0, []), (1, []), (2, []), (3, []), (4, []), (5, [])]] = some c52 := by kernel_rfl
/-- cellar/val.Holds -/
def c53 : SF := ⟨22, [.t 4], (.seq (.ops [k 2 (.bx 28 (t 0)),
 o 4 (.mv (b false))])
 (.seq (.ops [o 5 (.fa 1 (t 2)),
 o 6 (.ld false 1 (t 5)),
 o 7 (.un .not (t 6)),
 o 8 (.mv (t 7)),
 og 9 8 true (.mv (t 1)),
 og 10 8 true (.fa 4 (t 2)),
 og 11 8 true (.ld false 1 (t 10)),
 og 12 8 true (.bin .andNot (t 9) (t 11)),
 og 13 8 true (.fa 5 (t 2)),
 og 14 8 true (.ld false 1 (t 13)),
 og 15 8 true (.bin .eql (t 12) (t 14)),
 o 16 (.pick (t 8) (t 15) (b false)),
 o 17 (.mv (t 16)),
 og 18 17 true (.ld true 6 (t 2)),
 og 19 17 true (.mv (t 1)),
 ⟨some 20, some (17, true), .ca (.func 68) [(t 18), (t 19)]⟩,
 o 21 (.pick (t 17) (t 20) (b false)),
 o 4 (.mv (t 21))])
 .ret))⟩
theorem e53 : slimF Try.prog Try.f53 [] = some c53 := by kernel_rfl
/-- cellar/val.From -/
def c54 : SF := ⟨44, [.t 4], (.seq (.ops [k 2 (.bx 28 (t 0)),
 o 4 (.mv (i 0))])
 (.seq (.seq (.ops [o 8 (.fa 1 (t 2)),
 o 9 (.ld false 1 (t 8)),
 o 10 (.mv (t 9)),
 og 11 10 false (.mv (t 1)),
 og 12 10 false (.fa 0 (t 2)),
 og 13 10 false (.ld false 1 (t 12)),
 ⟨some 14, some (10, false), .ca (.func 67) [(t 13)]⟩,
 og 15 10 false (.bin .gtr (t 11) (t 14)),
 o 16 (.pick (t 10) (b true) (t 15))])
 (.cond (t 16)
 (.seq (.ops [o 4 (.mv (i (-1)))])
 .ret)
 .skip))
 (.seq (.seq (.ops [o 17 (.ld true 6 (t 2)),
 k 18 (.ca (.func 69) [(t 17)]),
 o 19 (.ln (t 18)),
 o 20 (.mv (i 0))])
 (.block 0 (.loop (.seq (.ops [o 21 (.bin .lss (t 20) (t 19))])
 (.seq (.cond (t 21)
 .skip
 (.exit 0))
 (.seq (.block 1 (.seq (.ops [o 22 (.ia 2 (t 18) (t 20)),
 o 23 (.ld true 2 (t 22)),
 k 6 (.al 79 [.int .i64 0, .int .i64 0]),
 kn (.st [] 2 (t 6) (t 23))])
 (.seq (.seq (.ops [o 24 (.mv (t 1)),
 o 25 (.iaa 2 1 (t 6) (i 1)),
 o 26 (.ld false 1 (t 25)),
 o 27 (.bin .gtr (t 24) (t 26))])
 (.cond (t 27)
 (.exit 1)
 .skip))
 (.seq (.ops [o 28 (.ld true 6 (t 2)),
 o 29 (.mv (t 1)),
 o 30 (.iaa 2 1 (t 6) (i 0)),
 o 31 (.ld false 1 (t 30)),
 o 32 (.mx [(t 29), (t 31)]),
 k 33 (.ca (.func 70) [(t 28), (t 32)]),
 o 7 (.mv (t 33))])
 (.seq (.ops [o 34 (.mv (t 7)),
 o 35 (.bin .geq (t 34) (i 0)),
 o 36 (.mv (t 35)),
 og 37 36 true (.mv (t 7)),
 og 38 36 true (.iaa 2 1 (t 6) (i 1)),
 og 39 36 true (.ld false 1 (t 38)),
 og 40 36 true (.bin .leq (t 37) (t 39)),
 o 41 (.pick (t 36) (t 40) (b false))])
 (.cond (t 41)
 (.seq (.ops [o 42 (.mv (t 7)),
 o 4 (.mv (t 42))])
 .ret)
 .skip))))))
 (.ops [o 43 (.bin .add (t 20) (i 1)),
 o 20 (.mv (t 43))])))))))
 (.seq (.ops [o 4 (.mv (i (-1)))])
 .ret))))⟩
theorem e54 : slimF Try.prog Try.f54 [] = some c54 := by kernel_rfl
/-- cellar/val.Void -/
def c55 : SF := ⟨6, [.t 2], (.seq (.ops [k 1 (.bx 28 (t 0)),
 o 2 (.mv (b false))])
 (.seq (.ops [o 3 (.ld true 6 (t 1)),
 k 4 (.ca (.func 54) [(t 3), (i 0)]),
 o 5 (.bin .lss (t 4) (i 0)),
 o 2 (.mv (t 5))])
 .ret))⟩
theorem e55 : slimF Try.prog Try.f55 [] = some c55 := by kernel_rfl
/-- cellar/val.Lone -/
def c56 : SF := ⟨21, [.t 2, .t 3], (.seq (.ops [k 1 (.bx 28 (t 0)),
 o 2 (.mv (i 0)),
 o 3 (.mv (b false))])
 (.seq (.ops [o 7 (.ld true 6 (t 1)),
 k 8 (.ca (.func 71) [(t 7), (i 1)]),
 o 6 (.mv (t 8)),
 o 9 (.ex (t 6) 0),
 o 10 (.ex (t 6) 1),
 o 4 (.mv (t 9)),
 o 5 (.mv (t 10))])
 (.seq (.seq (.ops [o 11 (.mv (t 5)),
 o 12 (.un .not (t 11)),
 o 13 (.mv (t 12)),
 og 14 13 false (.mv (t 4)),
 og 15 13 false (.ln (t 14)),
 og 16 13 false (.bin .eql (t 15) (i 0)),
 o 17 (.pick (t 13) (b true) (t 16))])
 (.cond (t 17)
 (.seq (.ops [o 2 (.mv (i 0)),
 o 3 (.mv (b false))])
 .ret)
 .skip))
 (.seq (.ops [o 18 (.mv (t 4)),
 o 19 (.ia 1 (t 18) (i 0)),
 o 20 (.ld false 1 (t 19)),
 o 2 (.mv (t 20)),
 o 3 (.mv (b true))])
 .ret))))⟩
theorem e56 : slimF Try.prog Try.f56 [] = some c56 := by kernel_rfl
/-- cellar/word.Most -/
def c67 : SF := ⟨6, [.t 2], (.seq (.ops [o 2 (.mv (i 0))])
 (.seq (.ops [o 3 (.mv (t 0)),
 o 4 (.bin .shl (i 1) (t 3)),
 o 5 (.bin .sub (t 4) (i 1)),
 o 2 (.mv (t 5))])
 .ret))⟩
theorem e67 : slimF Try.prog Try.f67 [] = some c67 := by kernel_rfl
/-- cellar/val.within -/
def c68 : SF := ⟨30, [.t 4], (.seq (.ops [k 2 (.bx 28 (t 0)),
 o 4 (.mv (b false))])
 (.seq (.seq (.ops [o 5 (.fa 2 (t 2)),
 o 6 (.ld false 1 (t 5)),
 o 7 (.fa 3 (t 2)),
 o 8 (.ld false 1 (t 7)),
 o 9 (.bin .leq (t 6) (t 8))])
 (.cond (t 9)
 (.seq (.ops [o 10 (.mv (t 1)),
 o 11 (.fa 2 (t 2)),
 o 12 (.ld false 1 (t 11)),
 o 13 (.bin .geq (t 10) (t 12)),
 o 14 (.mv (t 13)),
 og 15 14 true (.mv (t 1)),
 og 16 14 true (.fa 3 (t 2)),
 og 17 14 true (.ld false 1 (t 16)),
 og 18 14 true (.bin .leq (t 15) (t 17)),
 o 19 (.pick (t 14) (t 18) (b false)),
 o 4 (.mv (t 19))])
 .ret)
 .skip))
 (.seq (.ops [o 20 (.mv (t 1)),
 o 21 (.fa 2 (t 2)),
 o 22 (.ld false 1 (t 21)),
 o 23 (.bin .geq (t 20) (t 22)),
 o 24 (.mv (t 23)),
 og 25 24 false (.mv (t 1)),
 og 26 24 false (.fa 3 (t 2)),
 og 27 24 false (.ld false 1 (t 26)),
 og 28 24 false (.bin .leq (t 25) (t 27)),
 o 29 (.pick (t 24) (b true) (t 28)),
 o 4 (.mv (t 29))])
 .ret)))⟩
theorem e68 : slimF Try.prog Try.f68 [] = some c68 := by kernel_rfl
/-- cellar/val.parts -/
def c69 : SF := ⟨24, [.t 2], (.seq (.ops [k 1 (.bx 28 (t 0)),
 o 2 (.mv (.const (.slice none 0 0)))])
 (.seq (.seq (.ops [o 3 (.fa 2 (t 1)),
 o 4 (.ld false 1 (t 3)),
 o 5 (.fa 3 (t 1)),
 o 6 (.ld false 1 (t 5)),
 o 7 (.bin .leq (t 4) (t 6))])
 (.cond (t 7)
 (.seq (.ops [o 8 (.fa 2 (t 1)),
 o 9 (.ld false 1 (t 8)),
 o 10 (.fa 3 (t 1)),
 o 11 (.ld false 1 (t 10)),
 o 12 (.bd [.int .i64 0, .int .i64 0] [(0, 1, (t 9)), (1, 1, (t 11))]),
 k 13 (.bs 79 1 [.int .i64 0, .int .i64 0] [(0, 2, (t 12))]),
 o 2 (.mv (t 13))])
 .ret)
 .skip))
 (.seq (.opd [o 14 (.fa 3 (t 1)),
 o 15 (.ld false 1 (t 14)),
 o 16 (.bd [.int .i64 0, .int .i64 0] [(0, 1, (i 0)), (1, 1, (t 15))]),
 o 17 (.fa 2 (t 1)),
 o 18 (.ld false 1 (t 17)),
 o 19 (.fa 0 (t 1)),
 o 20 (.ld false 1 (t 19)),
 k 21 (.ca (.func 67) [(t 20)]),
 o 22 (.bd [.int .i64 0, .int .i64 0] [(0, 1, (t 18)), (1, 1, (t 21))]),
 k 23 (.bs 79 2 [.int .i64 0, .int .i64 0, .int .i64 0, .int .i64 0] [(0, 2, (t 16)), (2, 2, (t 22))]),
 o 2 (.mv (t 23))])
 .ret)))⟩
theorem e69 : slimF Try.prog Try.f69 [[(0, []), (1, []), (2, []), (3, []), (4, []), (5, []), (6, []), (7, []), (8, []), (9, []), (10, [])]] = some c69 := by kernel_rfl
/-- cellar/val.fill -/
def c70 : SF := ⟨54, [.t 4], (.seq (.ops [k 2 (.bx 28 (t 0)),
 o 4 (.mv (i 0))])
 (.seq (.seq (.ops [o 8 (.mv (t 1)),
 o 9 (.fa 4 (t 2)),
 o 10 (.ld false 1 (t 9)),
 o 11 (.bin .andNot (t 8) (t 10)),
 o 12 (.fa 5 (t 2)),
 o 13 (.ld false 1 (t 12)),
 o 14 (.bin .eql (t 11) (t 13))])
 (.cond (t 14)
 (.seq (.ops [o 15 (.mv (t 1)),
 o 4 (.mv (t 15))])
 .ret)
 .skip))
 (.seq (.seq (.ops [o 16 (.fa 0 (t 2)),
 o 17 (.ld false 1 (t 16)),
 o 18 (.mv (i 0))])
 (.block 0 (.loop (.seq (.ops [o 19 (.bin .lss (t 18) (t 17))])
 (.seq (.cond (t 19)
 .skip
 (.exit 0))
 (.seq (.block 1 (.seq (.ops [o 20 (.mv (t 18)),
 o 5 (.mv (t 20))])
 (.seq (.ops [o 21 (.mv (t 5)),
 o 22 (.bin .shl (i 1) (t 21)),
 o 6 (.mv (t 22))])
 (.seq (.seq (.ops [o 23 (.mv (t 1)),
 o 24 (.mv (t 6)),
 o 25 (.bin .and (t 23) (t 24)),
 o 26 (.bin .neq (t 25) (i 0))])
 (.cond (t 26)
 (.exit 1)
 .skip))
 (.seq (.ops [o 27 (.mv (t 1)),
 o 28 (.mv (t 6)),
 o 29 (.bin .sub (t 28) (i 1)),
 o 30 (.bin .andNot (t 27) (t 29)),
 o 31 (.mv (t 6)),
 o 32 (.bin .or (t 30) (t 31)),
 o 7 (.mv (t 32))])
 (.seq (.ops [o 33 (.mv (t 7)),
 o 34 (.fa 4 (t 2)),
 o 35 (.ld false 1 (t 34)),
 o 36 (.bin .andNot (t 33) (t 35)),
 o 37 (.mv (t 6)),
 o 38 (.bin .sub (t 37) (i 1)),
 o 39 (.bin .andNot (t 36) (t 38)),
 o 40 (.fa 5 (t 2)),
 o 41 (.ld false 1 (t 40)),
 o 42 (.mv (t 6)),
 o 43 (.bin .sub (t 42) (i 1)),
 o 44 (.bin .andNot (t 41) (t 43)),
 o 45 (.bin .eql (t 39) (t 44))])
 (.cond (t 45)
 (.seq (.ops [o 46 (.mv (t 7)),
 o 47 (.fa 5 (t 2)),
 o 48 (.ld false 1 (t 47)),
 o 49 (.mv (t 6)),
 o 50 (.bin .sub (t 49) (i 1)),
 o 51 (.bin .and (t 48) (t 50)),
 o 52 (.bin .or (t 46) (t 51)),
 o 4 (.mv (t 52))])
 .ret)
 .skip)))))))
 (.ops [o 53 (.bin .add (t 18) (i 1)),
 o 18 (.mv (t 53))])))))))
 (.seq (.ops [o 4 (.mv (i (-1)))])
 .ret))))⟩
theorem e70 : slimF Try.prog Try.f70 [] = some c70 := by kernel_rfl
/-- cellar/val.Members -/
def c71 : SF := ⟨24, [.t 4, .t 5], (.seq (.ops [k 2 (.bx 28 (t 0)),
 o 4 (.mv (.const (.slice none 0 0))),
 o 5 (.mv (b false))])
 (.seq (.seq (.ops [o 7 (.ld true 6 (t 2)),
 k 8 (.ca (.func 54) [(t 7), (i 0)]),
 o 6 (.mv (t 8))])
 (.block 0 (.loop (.seq (.seq (.ops [o 9 (.mv (t 6)),
 o 10 (.bin .geq (t 9) (i 0))])
 (.cond (t 10)
 .skip
 (.exit 0)))
 (.seq (.block 1 (.seq (.seq (.ops [o 15 (.mv (t 4)),
 o 16 (.ln (t 15)),
 o 17 (.mv (t 1)),
 o 18 (.bin .eql (t 16) (t 17))])
 (.cond (t 18)
 (.seq (.ops [o 4 (.mv (.const (.slice none 0 0))),
 o 5 (.mv (b false))])
 .ret)
 .skip))
 (.ops [o 19 (.mv (t 4)),
 o 20 (.mv (t 6)),
 k 21 (.bs 3 1 [.int .i64 0] [(0, 1, (t 20))]),
 k 22 (.ap 3 1 8 (t 19) (t 21)),
 o 4 (.mv (t 22))])))
 (.ops [o 11 (.ld true 6 (t 2)),
 o 12 (.mv (t 6)),
 o 13 (.bin .add (t 12) (i 1)),
 k 14 (.ca (.func 54) [(t 11), (t 13)]),
 o 6 (.mv (t 14))]))))))
 (.seq (.ops [o 23 (.mv (t 4)),
 o 4 (.mv (t 23)),
 o 5 (.mv (b true))])
 .ret)))⟩
theorem e71 : slimF Try.prog Try.f71 [] = some c71 := by kernel_rfl
end Go.Proofs.Try.S
