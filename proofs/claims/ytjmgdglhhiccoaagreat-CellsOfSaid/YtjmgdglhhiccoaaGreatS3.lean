/- The small codes of functions, by program (gen.py, by this workplace's session), each with the proof that it is the function's own. -/
import Derived.Test.YtjmgdglhhiccoaaGreatProg
import Derived.Test.YtjmgdglhhiccoaaGreatS2
namespace Go.Proofs.Tryz.S
open Go Go.Ax Go.Ax.N
set_option maxRecDepth 100000

def c129 : SF := ⟨13, [.t 4], (.seq (.ops [o 4 (.mv (b false))])
 (.seq (.ops [o 5 (.mv (t 0)),
 o 6 (.bin .geq (t 5) (i 0)),
 o 7 (.mv (t 6)),
 og 8 7 true (.mv (t 0)),
 og 9 7 true (.mv (t 1)),
 ⟨some 10, some (7, true), .ca (.func 148) [(t 9)]⟩,
 og 11 7 true (.bin .leq (t 8) (t 10)),
 o 12 (.pick (t 7) (t 11) (b false)),
 o 4 (.mv (t 12))])
 .ret))⟩
theorem e129 : slimF Tryz.prog Tryz.f129 [] = some c129 := by kernel_rfl
def c130 : SF := ⟨12, [.t 4], (.seq (.ops [k 2 (.bx 111 (t 0)),
 o 4 (.mv (i 0))])
 (.seq (.ops [o 5 (.fa 0 (t 2)),
 o 6 (.fa 4 (t 5)),
 o 7 (.ld false 1 (t 6)),
 o 8 (.mv (t 1)),
 o 9 (.ia 5 (t 7) (t 8)),
 o 10 (.fa 1 (t 9)),
 o 11 (.ld false 1 (t 10)),
 o 4 (.mv (t 11))])
 .ret))⟩
theorem e130 : slimF Tryz.prog Tryz.f130 [] = some c130 := by kernel_rfl
def c131 : SF := ⟨27, [.t 4], (.seq (.ops [o 4 (.mv (.const (.slice none 0 0)))])
 (.seq (.seq (.ops [o 5 (.mv (t 1)),
 o 6 (.bin .lss (t 5) (i 0))])
 (.cond (t 6)
 .bad
 .skip))
 (.seq (.seq (.ops [o 8 (.mv (t 1)),
 o 9 (.mv (t 0)),
 o 10 (.cc (t 9)),
 o 11 (.mv (t 0)),
 o 12 (.ln (t 11)),
 o 13 (.bin .sub (t 10) (t 12)),
 o 14 (.bin .sub (t 8) (t 13)),
 o 1 (.mv (t 14))])
 (.seq (.ops [o 15 (.mv (t 1)),
 o 16 (.bin .gtr (t 15) (i 0))])
 (.cond (t 16)
 (.ops [o 17 (.mv (t 0)),
 o 18 (.mv (t 0)),
 o 19 (.cc (t 18)),
 o 20 (.sl 1 (t 17) none (some (t 19))),
 o 21 (.mv (t 1)),
 k 22 (.gz 3 1 8 [.int .i64 0] (t 20) (t 21)),
 o 23 (.mv (t 0)),
 o 24 (.ln (t 23)),
 o 25 (.sl 1 (t 22) none (some (t 24))),
 o 0 (.mv (t 25))])
 .skip)))
 (.seq (.ops [o 26 (.mv (t 0)),
 o 4 (.mv (t 26))])
 .ret))))⟩
theorem e131 : slimF Tryz.prog Tryz.f131 [] = some c131 := by kernel_rfl
def c132 : SF := ⟨9, [.t 4], (.seq (.ops [o 4 (.mv (b false))])
 (.seq (.ops [o 5 (.mv (t 0)),
 o 6 (.mv (t 1)),
 k 7 (.ca (.func 149) [(t 5), (t 6)]),
 o 8 (.bin .geq (t 7) (i 0)),
 o 4 (.mv (t 8))])
 .ret))⟩
theorem e132 : slimF Tryz.prog Tryz.f132 [] = some c132 := by kernel_rfl
def c133 : SF := ⟨6, [.t 2], (.seq (.ops [k 1 (.bx 54 (t 0)),
 o 2 (.mv (b false))])
 (.seq (.ops [o 3 (.ld true 2 (t 1)),
 k 4 (.ca (.func 134) [(t 3)]),
 o 5 (.un .not (t 4)),
 o 2 (.mv (t 5))])
 .ret))⟩
theorem e133 : slimF Tryz.prog Tryz.f133 [] = some c133 := by kernel_rfl
def c134 : SF := ⟨32, [.t 2], (.seq (.ops [k 1 (.bx 54 (t 0)),
 o 2 (.mv (b false))])
 (.seq (.seq (.ops [o 3 (.fa 0 (t 1)),
 o 4 (.ld false 1 (t 3)),
 o 5 (.bin .lss (t 4) (i 0)),
 o 6 (.mv (t 5)),
 og 7 6 false (.fa 0 (t 1)),
 og 8 6 false (.ld false 1 (t 7)),
 og 9 6 false (.bin .gtr (t 8) (i 3)),
 o 10 (.pick (t 6) (b true) (t 9)),
 o 11 (.mv (t 10)),
 og 12 11 false (.fa 1 (t 1)),
 og 13 11 false (.ld false 1 (t 12)),
 og 14 11 false (.ln (t 13)),
 og 15 11 false (.bin .gtr (t 14) (i 32)),
 o 16 (.pick (t 11) (b true) (t 15)),
 o 17 (.mv (t 16)),
 og 18 17 false (.fa 0 (t 1)),
 og 19 17 false (.ld false 1 (t 18)),
 og 20 17 false (.bin .neq (t 19) (i 1)),
 og 21 17 false (.mv (t 20)),
 og 22 21 true (.fa 1 (t 1)),
 og 23 21 true (.ld false 1 (t 22)),
 og 24 21 true (.ln (t 23)),
 og 25 21 true (.bin .gtr (t 24) (i 0)),
 og 26 17 false (.pick (t 21) (t 25) (b false)),
 o 27 (.pick (t 17) (b true) (t 26))])
 (.cond (t 27)
 (.seq (.ops [o 2 (.mv (b false))])
 .ret)
 .skip))
 (.seq (.ops [o 28 (.fa 1 (t 1)),
 o 29 (.ld false 1 (t 28)),
 k 30 (.ca (.func 135) [(t 29), (.func 150)]),
 o 31 (.un .not (t 30)),
 o 2 (.mv (t 31))])
 .ret)))⟩
theorem e134 : slimF Tryz.prog Tryz.f134 [] = some c134 := by kernel_rfl
def c135 : SF := ⟨9, [.t 4], (.seq (.ops [o 4 (.mv (b false))])
 (.seq (.ops [o 5 (.mv (t 0)),
 o 6 (.mv (t 1)),
 k 7 (.ca (.func 152) [(t 5), (t 6)]),
 o 8 (.bin .geq (t 7) (i 0)),
 o 4 (.mv (t 8))])
 .ret))⟩
theorem e135 : slimF Tryz.prog Tryz.f135 [] = some c135 := by kernel_rfl
def c136 : SF := ⟨24, [.t 3], (.seq (.ops [k 2 (.bx 83 (t 0)),
 o 3 (.mv (b false))])
 (.seq (.opq [o 4 (.fa 0 (t 2)),
 o 5 (.ld false 1 (t 4)),
 o 6 (.bin .eql (t 5) (i 2)),
 o 7 (.mv (t 6)),
 og 8 7 true (.fa 2 (t 2)),
 og 9 7 true (.ld false 1 (t 8)),
 og 10 7 true (.ld false 1 (t 1)),
 og 11 7 true (.ln (t 10)),
 og 12 7 true (.bin .geq (t 9) (t 11)),
 og 13 7 true (.mv (t 12)),
 og 14 13 false (.fa 3 (t 2)),
 og 15 13 false (.ld false 1 (t 14)),
 og 16 13 false (.ld false 1 (t 1)),
 og 17 13 false (.fa 2 (t 2)),
 og 18 13 false (.ld false 1 (t 17)),
 og 19 13 false (.ia 1 (t 16) (t 18)),
 og 20 13 false (.ld false 1 (t 19)),
 og 21 13 false (.bin .gtr (t 15) (t 20)),
 og 22 7 true (.pick (t 13) (b true) (t 21)),
 o 23 (.pick (t 7) (t 22) (b false)),
 o 3 (.mv (t 23))])
 .ret))⟩
theorem e136 : slimF Tryz.prog Tryz.f136 [[(0, []), (1, []), (2, []), (3, []), (4, []), (5, []), (6, []), (7, []), (8, []), (9, []), (10, []), (11, []), (12, []), (13, []), (14, []), (15, []), (16, []), (17, []), (18, []), (19, []), (20, [])]] = some c136 := by kernel_rfl
def c137 : SF := ⟨8, [.t 4], (.seq (.ops [k 3 (.bx 3 (t 1)),
 o 4 (.mv (b false))])
 (.seq (.ops [o 5 (.mv (t 0)),
 o 6 (.mf (.func 153) [] [(t 3)]),
 k 7 (.ca (.func 135) [(t 5), (t 6)]),
 o 4 (.mv (t 7))])
 .ret))⟩
theorem e137 : slimF Tryz.prog Tryz.f137 [] = some c137 := by kernel_rfl
def c138 : SF := ⟨40, [.c true 4 2, .t 3], (.seq (.ops [k 2 (.al 119 [.bool false, .int .i64 0, .int .i64 0, .int .i64 0]),
 o 3 (.mv (i 0))])
 (.seq (.opq [o 8 (.mv (t 0)),
 o 9 (.ia 5 (t 8) (i 0)),
 o 10 (.fa 2 (t 9)),
 o 11 (.ld false 1 (t 10)),
 o 12 (.mv (t 0)),
 o 13 (.ia 5 (t 12) (i 0)),
 o 14 (.fa 3 (t 13)),
 o 15 (.ld false 1 (t 14)),
 o 16 (.bd [.bool false, .int .i64 0, .int .i64 0, .int .i64 0] [(0, 1, (b true)), (2, 1, (t 11)), (3, 1, (t 15))]),
 k 4 (.al 119 [.bool false, .int .i64 0, .int .i64 0, .int .i64 0]),
 kn (.st [] 4 (t 4) (t 16))])
 (.seq (.seq (.ops [o 17 (.mv (t 0)),
 o 18 (.ln (t 17)),
 o 19 (.mv (i 0))])
 (.block 0 (.loop (.seq (.ops [o 20 (.bin .lss (t 19) (t 18))])
 (.seq (.cond (t 20)
 .skip
 (.exit 0))
 (.seq (.block 1 (.seq (.ops [o 21 (.mv (t 19)),
 o 22 (.ia 5 (t 17) (t 19)),
 o 23 (.ld true 5 (t 22)),
 k 6 (.al 83 [.int .i64 0, .int .i64 0, .int .i64 0, .int .i64 0, .int .i64 0]),
 o 5 (.mv (t 21)),
 kn (.st [] 5 (t 6) (t 23))])
 (.seq (.ops [o 24 (.bd [.int .i64 0, .int .i64 0, .int .i64 0, .int .i64 0, .int .i64 0] [(0, 1, (i 1))]),
 k 7 (.al 83 [.int .i64 0, .int .i64 0, .int .i64 0, .int .i64 0, .int .i64 0]),
 kn (.st [] 5 (t 7) (t 24))])
 (.seq (.seq (.ops [o 25 (.fa 2 (t 4)),
 o 26 (.ld false 1 (t 25)),
 o 27 (.bin .gtr (t 26) (i 0))])
 (.cond (t 27)
 (.ops [o 28 (.fa 2 (t 4)),
 o 29 (.ld false 1 (t 28)),
 o 30 (.fa 3 (t 4)),
 o 31 (.ld false 1 (t 30)),
 o 32 (.mv (t 5)),
 o 33 (.bd [.int .i64 0, .int .i64 0, .int .i64 0, .int .i64 0, .int .i64 0] [(0, 1, (i 2)), (2, 1, (t 29)), (3, 1, (t 31)), (4, 1, (t 32))]),
 kn (.st [] 5 (t 7) (t 33))])
 .skip))
 (.seq (.ops [o 34 (.ld true 5 (t 6)),
 o 35 (.ld true 5 (t 7)),
 o 36 (.eqs (.st [(false, 0, 1, .i), (false, 1, 1, .i), (false, 2, 1, .i), (false, 3, 1, .i), (false, 4, 1, .i)]) true (t 34) (t 35))])
 (.cond (t 36)
 (.seq (.ops [o 37 (.bd [.bool false, .int .i64 0, .int .i64 0, .int .i64 0] []),
 kn (.st [] 4 (t 2) (t 37)),
 o 3 (.mv (i 8))])
 .ret)
 .skip))))))
 (.ops [o 38 (.bin .add (t 19) (i 1)),
 o 19 (.mv (t 38))])))))))
 (.seq (.ops [o 39 (.ld true 4 (t 4)),
 kn (.st [] 4 (t 2) (t 39)),
 o 3 (.mv (i 0))])
 .ret))))⟩
theorem e138 : slimF Tryz.prog Tryz.f138 [[(0, []), (1, []), (2, []), (3, []), (4, []), (5, []), (6, []), (7, []), (8, []), (9, []), (10, [])]] = some c138 := by kernel_rfl
def c139 : SF := ⟨73, [.t 4], (.seq (.ops [k 2 (.bx 65 (t 0)),
 o 4 (.mv (i 0))])
 (.seq (.seq (.ops [o 7 (.mv (t 1)),
 o 8 (.fa 4 (t 2)),
 o 9 (.ld false 1 (t 8)),
 o 10 (.bin .andNot (t 7) (t 9)),
 o 11 (.fa 5 (t 2)),
 o 12 (.ld false 1 (t 11)),
 o 13 (.bin .eql (t 10) (t 12))])
 (.cond (t 13)
 (.seq (.ops [o 14 (.mv (t 1)),
 o 4 (.mv (t 14))])
 .ret)
 .skip))
 (.seq (.seq (.ops [o 5 (.mv (i 0))])
 (.block 0 (.loop (.seq (.seq (.ops [o 15 (.mv (t 5)),
 o 16 (.fa 0 (t 2)),
 o 17 (.ld false 1 (t 16)),
 o 18 (.bin .lss (t 15) (t 17))])
 (.cond (t 18)
 .skip
 (.exit 0)))
 (.seq (.block 1 (.seq (.ops [o 21 (.mv (t 1)),
 o 22 (.fa 4 (t 2)),
 o 23 (.ld false 1 (t 22)),
 o 24 (.bin .andNot (t 21) (t 23)),
 o 25 (.fa 5 (t 2)),
 o 26 (.ld false 1 (t 25)),
 o 27 (.bin .xor (t 24) (t 26)),
 o 28 (.mv (t 5)),
 o 29 (.bin .add (t 28) (i 1)),
 o 30 (.bin .shr (t 27) (t 29)),
 o 6 (.mv (t 30))])
 (.seq (.ops [o 31 (.mv (t 6)),
 o 32 (.bin .eql (t 31) (i 0)),
 o 33 (.mv (t 32)),
 og 34 33 true (.mv (t 1)),
 og 35 33 true (.mv (t 5)),
 og 36 33 true (.bin .shr (t 34) (t 35)),
 og 37 33 true (.bin .and (t 36) (i 1)),
 og 38 33 true (.bin .eql (t 37) (i 0)),
 o 39 (.pick (t 33) (t 38) (b false)),
 o 40 (.mv (t 39)),
 og 41 40 true (.fa 4 (t 2)),
 og 42 40 true (.ld false 1 (t 41)),
 og 43 40 true (.mv (t 5)),
 og 44 40 true (.bin .shr (t 42) (t 43)),
 og 45 40 true (.bin .and (t 44) (i 1)),
 og 46 40 true (.bin .eql (t 45) (i 1)),
 og 47 40 true (.mv (t 46)),
 og 48 47 false (.fa 5 (t 2)),
 og 49 47 false (.ld false 1 (t 48)),
 og 50 47 false (.mv (t 5)),
 og 51 47 false (.bin .shr (t 49) (t 50)),
 og 52 47 false (.bin .and (t 51) (i 1)),
 og 53 47 false (.bin .eql (t 52) (i 1)),
 og 54 40 true (.pick (t 47) (b true) (t 53)),
 o 55 (.pick (t 40) (t 54) (b false))])
 (.cond (t 55)
 (.seq (.opq [o 56 (.mv (t 1)),
 o 57 (.mv (t 5)),
 o 58 (.bin .add (t 57) (i 1)),
 o 59 (.bin .shr (t 56) (t 58)),
 o 60 (.mv (t 5)),
 o 61 (.bin .add (t 60) (i 1)),
 o 62 (.bin .shl (t 59) (t 61)),
 o 63 (.mv (t 5)),
 o 64 (.bin .shl (i 1) (t 63)),
 o 65 (.bin .or (t 62) (t 64)),
 o 66 (.fa 5 (t 2)),
 o 67 (.ld false 1 (t 66)),
 o 68 (.mv (t 5)),
 o 69 (.bin .shl (i 1) (t 68)),
 o 70 (.bin .sub (t 69) (i 1)),
 o 71 (.bin .and (t 67) (t 70)),
 o 72 (.bin .or (t 65) (t 71)),
 o 4 (.mv (t 72))])
 .ret)
 .skip))))
 (.ops [o 19 (.mv (t 5)),
 o 20 (.bin .add (t 19) (i 1)),
 o 5 (.mv (t 20))]))))))
 (.seq (.ops [o 4 (.mv (i (-1)))])
 .ret))))⟩
theorem e139 : slimF Tryz.prog Tryz.f139 [[(0, []), (1, []), (2, []), (3, []), (4, []), (5, []), (6, []), (7, []), (8, []), (9, []), (10, []), (11, []), (12, []), (13, []), (14, []), (15, []), (16, []), (17, [])]] = some c139 := by kernel_rfl
def c141 : SF := ⟨48, [.t 2], (.seq (.ops [k 1 (.bx 87 (t 0)),
 o 2 (.mv (b false))])
 (.seq (.seq (.ops [o 3 (.fa 2 (t 1)),
 o 4 (.ld false 1 (t 3))])
 (.block 0 (.seq (.ops [o 6 (.bin .eql (t 4) (i 0)),
 o 5 (.mv (t 6))])
 (.cond (t 5)
 (.seq (.ops [o 7 (.fa 3 (t 1)),
 o 8 (.fa 0 (t 7)),
 o 9 (.ld true 6 (t 8)),
 o 10 (.bd [.int .i64 0, .bool false, .int .i64 0, .int .i64 0, .int .i64 0, .int .i64 0] []),
 o 11 (.eqs (.st [(false, 0, 1, .i), (false, 1, 1, .b), (false, 2, 1, .i), (false, 3, 1, .i), (false, 4, 1, .i), (false, 5, 1, .i)]) false (t 9) (t 10)),
 o 12 (.mv (t 11)),
 og 13 12 true (.fa 3 (t 1)),
 og 14 12 true (.fa 6 (t 13)),
 og 15 12 true (.ld false 1 (t 14)),
 og 16 12 true (.ln (t 15)),
 og 17 12 true (.bin .eql (t 16) (i 0)),
 o 18 (.pick (t 12) (t 17) (b false)),
 o 2 (.mv (t 18))])
 .ret)
 (.seq (.ops [o 20 (.bin .eql (t 4) (i 11)),
 o 19 (.mv (t 20))])
 (.cond (t 19)
 (.seq (.ops [o 21 (.fa 3 (t 1)),
 o 22 (.fa 0 (t 21)),
 o 23 (.fa 0 (t 22)),
 o 24 (.ld false 1 (t 23)),
 o 25 (.bin .eql (t 24) (i 8)),
 o 26 (.mv (t 25)),
 og 27 26 true (.fa 3 (t 1)),
 og 28 26 true (.fa 0 (t 27)),
 og 29 26 true (.ld true 6 (t 28)),
 ⟨some 30, some (26, true), .ca (.func 154) [(t 29)]⟩,
 o 31 (.pick (t 26) (t 30) (b false)),
 o 32 (.mv (t 31)),
 og 33 32 true (.fa 3 (t 1)),
 og 34 32 true (.fa 6 (t 33)),
 og 35 32 true (.ld false 1 (t 34)),
 ⟨some 36, some (32, true), .ca (.func 155) [(t 35)]⟩,
 o 37 (.pick (t 32) (t 36) (b false)),
 o 2 (.mv (t 37))])
 .ret)
 .skip))))))
 (.seq (.ops [o 38 (.fa 2 (t 1)),
 o 39 (.ld false 1 (t 38)),
 k 40 (.ca (.func 101) [(t 39)]),
 o 41 (.mv (t 40)),
 og 42 41 true (.fa 2 (t 1)),
 og 43 41 true (.ld false 1 (t 42)),
 og 44 41 true (.fa 3 (t 1)),
 og 45 41 true (.ld true 7 (t 44)),
 ⟨some 46, some (41, true), .ca (.func 156) [(t 43), (t 45)]⟩,
 o 47 (.pick (t 41) (t 46) (b false)),
 o 2 (.mv (t 47))])
 .ret)))⟩
theorem e141 : slimF Tryz.prog Tryz.f141 [] = some c141 := by kernel_rfl
def c142 : SF := ⟨9, [.t 4], (.seq (.ops [k 3 (.bx 3 (t 1)),
 o 4 (.mv (b false))])
 (.seq (.ops [o 5 (.mv (t 0)),
 o 6 (.mf (.func 157) [] [(t 3)]),
 k 7 (.ca (.func 146) [(t 5), (t 6)]),
 o 8 (.un .not (t 7)),
 o 4 (.mv (t 8))])
 .ret))⟩
theorem e142 : slimF Tryz.prog Tryz.f142 [] = some c142 := by kernel_rfl
def c143 : SF := ⟨18, [.t 2], (.seq (.ops [o 2 (.mv (i 0))])
 (.seq (.ops [o 3 (.mv (i 0))])
 (.seq (.seq (.ops [o 6 (.mv (t 0)),
 o 7 (.ln (t 6)),
 o 8 (.mv (i 0))])
 (.block 0 (.loop (.seq (.ops [o 9 (.bin .lss (t 8) (t 7))])
 (.seq (.cond (t 9)
 .skip
 (.exit 0))
 (.seq (.block 1 (.seq (.ops [o 10 (.ia 1 (t 6) (t 8)),
 o 11 (.ld false 1 (t 10)),
 o 5 (.mv (t 11))])
 (.seq (.ops [o 12 (.mv (t 5)),
 o 13 (.mv (t 3)),
 o 14 (.bin .neq (t 12) (t 13))])
 (.cond (t 14)
 (.seq (.ops [o 15 (.mv (t 5)),
 o 2 (.mv (t 15))])
 .ret)
 .skip))))
 (.ops [o 16 (.bin .add (t 8) (i 1)),
 o 8 (.mv (t 16))])))))))
 (.seq (.ops [o 17 (.mv (t 3)),
 o 2 (.mv (t 17))])
 .ret))))⟩
theorem e143 : slimF Tryz.prog Tryz.f143 [] = some c143 := by kernel_rfl
def c144 : SF := ⟨20, [.t 4], (.seq (.ops [o 4 (.mv (i 0))])
 (.seq (.ops [o 7 (.mv (t 0)),
 k 8 (.ca (.func 158) [(t 7)]),
 o 5 (.mv (t 8))])
 (.seq (.ops [o 9 (.mv (t 1)),
 k 10 (.ca (.func 158) [(t 9)]),
 o 6 (.mv (t 10))])
 (.seq (.seq (.ops [o 11 (.mv (t 5))])
 (.cond (t 11)
 (.seq (.seq (.ops [o 12 (.mv (t 6))])
 (.cond (t 12)
 (.seq (.ops [o 4 (.mv (i 0))])
 .ret)
 .skip))
 (.seq (.ops [o 4 (.mv (i (-1)))])
 .ret))
 .skip))
 (.seq (.seq (.ops [o 13 (.mv (t 6))])
 (.cond (t 13)
 (.seq (.ops [o 4 (.mv (i 1))])
 .ret)
 .skip))
 (.seq (.seq (.ops [o 14 (.mv (t 0)),
 o 15 (.mv (t 1)),
 o 16 (.bin .lss (t 14) (t 15))])
 (.cond (t 16)
 (.seq (.ops [o 4 (.mv (i (-1)))])
 .ret)
 .skip))
 (.seq (.seq (.ops [o 17 (.mv (t 0)),
 o 18 (.mv (t 1)),
 o 19 (.bin .gtr (t 17) (t 18))])
 (.cond (t 19)
 (.seq (.ops [o 4 (.mv (i 1))])
 .ret)
 .skip))
 (.seq (.ops [o 4 (.mv (i 0))])
 .ret))))))))⟩
theorem e144 : slimF Tryz.prog Tryz.f144 [] = some c144 := by kernel_rfl
def c145 : SF := ⟨30, [.t 4], (.seq (.ops [k 2 (.bx 65 (t 0)),
 o 4 (.mv (b false))])
 (.seq (.seq (.ops [o 5 (.fa 2 (t 2)),
 o 6 (.ld false 1 (t 5)),
 o 7 (.fa 3 (t 2)),
 o 8 (.ld false 1 (t 7)),
 o 9 (.bin .leq (t 6) (t 8))])
 (.cond (t 9)
 (.seq (.ops [o 10 (.mv (t 1)),
 o 11 (.fa 2 (t 2)),
 o 12 (.ld false 1 (t 11)),
 o 13 (.bin .geq (t 10) (t 12)),
 o 14 (.mv (t 13)),
 og 15 14 true (.mv (t 1)),
 og 16 14 true (.fa 3 (t 2)),
 og 17 14 true (.ld false 1 (t 16)),
 og 18 14 true (.bin .leq (t 15) (t 17)),
 o 19 (.pick (t 14) (t 18) (b false)),
 o 4 (.mv (t 19))])
 .ret)
 .skip))
 (.seq (.ops [o 20 (.mv (t 1)),
 o 21 (.fa 2 (t 2)),
 o 22 (.ld false 1 (t 21)),
 o 23 (.bin .geq (t 20) (t 22)),
 o 24 (.mv (t 23)),
 og 25 24 false (.mv (t 1)),
 og 26 24 false (.fa 3 (t 2)),
 og 27 24 false (.ld false 1 (t 26)),
 og 28 24 false (.bin .leq (t 25) (t 27)),
 o 29 (.pick (t 24) (b true) (t 28)),
 o 4 (.mv (t 29))])
 .ret)))⟩
theorem e145 : slimF Tryz.prog Tryz.f145 [] = some c145 := by kernel_rfl
def c146 : SF := ⟨9, [.t 4], (.seq (.ops [o 4 (.mv (b false))])
 (.seq (.ops [o 5 (.mv (t 0)),
 o 6 (.mv (t 1)),
 k 7 (.ca (.func 159) [(t 5), (t 6)]),
 o 8 (.bin .geq (t 7) (i 0)),
 o 4 (.mv (t 8))])
 .ret))⟩
theorem e146 : slimF Tryz.prog Tryz.f146 [] = some c146 := by kernel_rfl
def c147 : SF := ⟨15, [.t 4], (.seq (.ops [k 3 (.bx 157 (t 0)),
 o 4 (.mv (b false))])
 (.seq (.ops [o 5 (.fa 0 (t 3)),
 o 6 (.ld false 1 (t 5)),
 o 7 (.ld false 1 (t 1)),
 o 8 (.bin .eql (t 6) (t 7)),
 o 9 (.mv (t 8)),
 og 10 9 true (.fa 1 (t 3)),
 og 11 9 true (.ld true 6 (t 10)),
 og 12 9 true (.ld false 1 (t 2)),
 ⟨some 13, some (9, true), .ca (.func 122) [(t 11), (t 12)]⟩,
 o 14 (.pick (t 9) (t 13) (b false)),
 o 4 (.mv (t 14))])
 .ret))⟩
theorem e147 : slimF Tryz.prog Tryz.f147 [] = some c147 := by kernel_rfl
def c148 : SF := ⟨6, [.t 2], (.seq (.ops [o 2 (.mv (i 0))])
 (.seq (.ops [o 3 (.mv (t 0)),
 o 4 (.bin .shl (i 1) (t 3)),
 o 5 (.bin .sub (t 4) (i 1)),
 o 2 (.mv (t 5))])
 .ret))⟩
theorem e148 : slimF Tryz.prog Tryz.f148 [] = some c148 := by kernel_rfl
def c149 : SF := ⟨19, [.t 4], (.seq (.ops [o 4 (.mv (i 0))])
 (.seq (.seq (.ops [o 6 (.mv (t 0)),
 o 7 (.ln (t 6)),
 o 8 (.mv (i 0))])
 (.block 0 (.loop (.seq (.ops [o 9 (.bin .lss (t 8) (t 7))])
 (.seq (.cond (t 9)
 .skip
 (.exit 0))
 (.seq (.block 1 (.seq (.ops [o 10 (.mv (t 8)),
 o 5 (.mv (t 10))])
 (.seq (.ops [o 11 (.mv (t 1)),
 o 12 (.mv (t 0)),
 o 13 (.mv (t 5)),
 o 14 (.ia 2 (t 12) (t 13)),
 o 15 (.ld true 2 (t 14)),
 k 16 (.ca (t 11) [(t 15)])])
 (.cond (t 16)
 (.seq (.ops [o 17 (.mv (t 5)),
 o 4 (.mv (t 17))])
 .ret)
 .skip))))
 (.ops [o 18 (.bin .add (t 8) (i 1)),
 o 8 (.mv (t 18))])))))))
 (.seq (.ops [o 4 (.mv (i (-1)))])
 .ret)))⟩
theorem e149 : slimF Tryz.prog Tryz.f149 [] = some c149 := by kernel_rfl
def c150 : SF := ⟨6, [.t 2], (.seq (.ops [k 1 (.bx 83 (t 0)),
 o 2 (.mv (b false))])
 (.seq (.ops [o 3 (.ld true 5 (t 1)),
 k 4 (.ca (.func 151) [(t 3)]),
 o 5 (.un .not (t 4)),
 o 2 (.mv (t 5))])
 .ret))⟩
theorem e150 : slimF Tryz.prog Tryz.f150 [] = some c150 := by kernel_rfl
def c151 : SF := ⟨47, [.t 2], (.seq (.ops [k 1 (.bx 83 (t 0)),
 o 2 (.mv (b false))])
 (.seq (.seq (.ops [o 3 (.fa 0 (t 1)),
 o 4 (.ld false 1 (t 3))])
 (.block 0 (.seq (.ops [o 6 (.bin .eql (t 4) (i 0)),
 o 5 (.mv (t 6))])
 (.cond (t 5)
 (.seq (.ops [o 7 (.ld true 5 (t 1)),
 o 8 (.bd [.int .i64 0, .int .i64 0, .int .i64 0, .int .i64 0, .int .i64 0] []),
 o 9 (.eqs (.st [(false, 0, 1, .i), (false, 1, 1, .i), (false, 2, 1, .i), (false, 3, 1, .i), (false, 4, 1, .i)]) false (t 7) (t 8)),
 o 2 (.mv (t 9))])
 .ret)
 (.seq (.ops [o 11 (.bin .eql (t 4) (i 1)),
 o 10 (.mv (t 11))])
 (.cond (t 10)
 (.seq (.ops [o 12 (.fa 1 (t 1)),
 o 13 (.ld false 1 (t 12)),
 k 14 (.ca (.func 160) [(t 13), (i 255)]),
 o 15 (.mv (t 14)),
 og 16 15 true (.ld true 5 (t 1)),
 og 17 15 true (.fa 1 (t 1)),
 og 18 15 true (.ld false 1 (t 17)),
 og 19 15 true (.bd [.int .i64 0, .int .i64 0, .int .i64 0, .int .i64 0, .int .i64 0] [(0, 1, (i 1)), (1, 1, (t 18))]),
 og 20 15 true (.eqs (.st [(false, 0, 1, .i), (false, 1, 1, .i), (false, 2, 1, .i), (false, 3, 1, .i), (false, 4, 1, .i)]) false (t 16) (t 19)),
 o 21 (.pick (t 15) (t 20) (b false)),
 o 2 (.mv (t 21))])
 .ret)
 (.seq (.ops [o 23 (.bin .eql (t 4) (i 2)),
 o 22 (.mv (t 23))])
 (.cond (t 22)
 (.seq (.ops [o 24 (.fa 1 (t 1)),
 o 25 (.ld false 1 (t 24)),
 o 26 (.bin .eql (t 25) (i 0)),
 o 27 (.mv (t 26)),
 og 28 27 true (.fa 2 (t 1)),
 og 29 27 true (.ld false 1 (t 28)),
 og 30 27 true (.bin .geq (t 29) (i 1)),
 o 31 (.pick (t 27) (t 30) (b false)),
 o 32 (.mv (t 31)),
 og 33 32 true (.fa 2 (t 1)),
 og 34 32 true (.ld false 1 (t 33)),
 og 35 32 true (.bin .leq (t 34) (i 32)),
 o 36 (.pick (t 32) (t 35) (b false)),
 o 37 (.mv (t 36)),
 og 38 37 true (.fa 3 (t 1)),
 og 39 37 true (.ld false 1 (t 38)),
 ⟨some 40, some (37, true), .ca (.func 160) [(t 39), (i 32)]⟩,
 o 41 (.pick (t 37) (t 40) (b false)),
 o 42 (.mv (t 41)),
 og 43 42 true (.fa 4 (t 1)),
 og 44 42 true (.ld false 1 (t 43)),
 ⟨some 45, some (42, true), .ca (.func 160) [(t 44), (i 3)]⟩,
 o 46 (.pick (t 42) (t 45) (b false)),
 o 2 (.mv (t 46))])
 .ret)
 .skip))))))))
 (.seq (.ops [o 2 (.mv (b false))])
 .ret)))⟩
theorem e151 : slimF Tryz.prog Tryz.f151 [] = some c151 := by kernel_rfl
def c152 : SF := ⟨19, [.t 4], (.seq (.ops [o 4 (.mv (i 0))])
 (.seq (.seq (.ops [o 6 (.mv (t 0)),
 o 7 (.ln (t 6)),
 o 8 (.mv (i 0))])
 (.block 0 (.loop (.seq (.ops [o 9 (.bin .lss (t 8) (t 7))])
 (.seq (.cond (t 9)
 .skip
 (.exit 0))
 (.seq (.block 1 (.seq (.ops [o 10 (.mv (t 8)),
 o 5 (.mv (t 10))])
 (.seq (.ops [o 11 (.mv (t 1)),
 o 12 (.mv (t 0)),
 o 13 (.mv (t 5)),
 o 14 (.ia 5 (t 12) (t 13)),
 o 15 (.ld true 5 (t 14)),
 k 16 (.ca (t 11) [(t 15)])])
 (.cond (t 16)
 (.seq (.ops [o 17 (.mv (t 5)),
 o 4 (.mv (t 17))])
 .ret)
 .skip))))
 (.ops [o 18 (.bin .add (t 8) (i 1)),
 o 8 (.mv (t 18))])))))))
 (.seq (.ops [o 4 (.mv (i (-1)))])
 .ret)))⟩
theorem e152 : slimF Tryz.prog Tryz.f152 [] = some c152 := by kernel_rfl
def c153 : SF := ⟨8, [.t 3], (.seq (.ops [k 2 (.bx 83 (t 0)),
 o 3 (.mv (b false))])
 (.seq (.ops [o 4 (.fa 0 (t 2)),
 o 5 (.ld false 1 (t 4)),
 o 6 (.ld false 1 (t 1)),
 o 7 (.bin .eql (t 5) (t 6)),
 o 3 (.mv (t 7))])
 .ret))⟩
theorem e153 : slimF Tryz.prog Tryz.f153 [] = some c153 := by kernel_rfl
def c154 : SF := ⟨42, [.t 2], (.seq (.ops [k 1 (.bx 65 (t 0)),
 o 2 (.mv (b false))])
 (.seq (.seq (.ops [o 5 (.fa 0 (t 1)),
 o 6 (.ld false 1 (t 5)),
 k 7 (.ca (.func 161) [(t 6)]),
 o 8 (.un .not (t 7))])
 (.cond (t 8)
 (.seq (.ops [o 2 (.mv (b false))])
 .ret)
 .skip))
 (.seq (.seq (.ops [o 9 (.fa 1 (t 1)),
 o 10 (.ld false 1 (t 9))])
 (.cond (t 10)
 (.seq (.opd [o 11 (.ld true 6 (t 1)),
 o 12 (.fa 0 (t 1)),
 o 13 (.ld false 1 (t 12)),
 k 14 (.ca (.func 162) [(t 13)]),
 o 15 (.eqs (.st [(false, 0, 1, .i), (false, 1, 1, .b), (false, 2, 1, .i), (false, 3, 1, .i), (false, 4, 1, .i), (false, 5, 1, .i)]) false (t 11) (t 14)),
 o 2 (.mv (t 15))])
 .ret)
 .skip))
 (.seq (.seq (.ops [o 16 (.fa 2 (t 1)),
 o 17 (.ld false 1 (t 16)),
 o 18 (.fa 3 (t 1)),
 o 19 (.ld false 1 (t 18)),
 o 20 (.fa 4 (t 1)),
 o 21 (.ld false 1 (t 20)),
 o 22 (.fa 5 (t 1)),
 o 23 (.ld false 1 (t 22)),
 k 24 (.bs 3 4 [.int .i64 0, .int .i64 0, .int .i64 0, .int .i64 0] [(0, 1, (t 17)), (1, 1, (t 19)), (2, 1, (t 21)), (3, 1, (t 23))]),
 o 25 (.ln (t 24)),
 o 26 (.mv (i 0))])
 (.block 0 (.loop (.seq (.ops [o 27 (.bin .lss (t 26) (t 25))])
 (.seq (.cond (t 27)
 .skip
 (.exit 0))
 (.seq (.block 1 (.seq (.ops [o 28 (.ia 1 (t 24) (t 26)),
 o 29 (.ld false 1 (t 28)),
 o 4 (.mv (t 29))])
 (.seq (.ops [o 30 (.mv (t 4)),
 o 31 (.fa 0 (t 1)),
 o 32 (.ld false 1 (t 31)),
 k 33 (.ca (.func 129) [(t 30), (t 32)]),
 o 34 (.un .not (t 33))])
 (.cond (t 34)
 (.seq (.ops [o 2 (.mv (b false))])
 .ret)
 .skip))))
 (.ops [o 35 (.bin .add (t 26) (i 1)),
 o 26 (.mv (t 35))])))))))
 (.seq (.ops [o 36 (.fa 5 (t 1)),
 o 37 (.ld false 1 (t 36)),
 o 38 (.fa 4 (t 1)),
 o 39 (.ld false 1 (t 38)),
 o 40 (.bin .and (t 37) (t 39)),
 o 41 (.bin .eql (t 40) (i 0)),
 o 2 (.mv (t 41))])
 .ret)))))⟩
theorem e154 : slimF Tryz.prog Tryz.f154 [[(0, []), (1, []), (2, []), (3, []), (4, []), (5, [])]] = some c154 := by kernel_rfl
def c155 : SF := ⟨31, [.t 2], (.seq (.ops [o 2 (.mv (b false))])
 (.seq (.seq (.ops [o 5 (.mv (t 0)),
 o 6 (.ln (t 5)),
 o 7 (.mv (i 0))])
 (.block 0 (.loop (.seq (.ops [o 8 (.bin .lss (t 7) (t 6))])
 (.seq (.cond (t 8)
 .skip
 (.exit 0))
 (.seq (.block 1 (.seq (.ops [o 9 (.mv (t 7)),
 o 10 (.ia 7 (t 5) (t 7)),
 o 11 (.ld true 7 (t 10)),
 k 4 (.al 157 [.int .i64 0, .int .i64 0, .bool false, .int .i64 0, .int .i64 0, .int .i64 0, .int .i64 0]),
 o 3 (.mv (t 9)),
 kn (.st [] 7 (t 4) (t 11))])
 (.seq (.opq [o 12 (.ld true 7 (t 4)),
 k 13 (.ca (.func 163) [(t 12)]),
 o 14 (.un .not (t 13)),
 o 15 (.mv (t 14)),
 og 16 15 false (.mv (t 3)),
 og 17 15 false (.bin .gtr (t 16) (i 0)),
 og 18 15 false (.mv (t 17)),
 og 19 18 true (.fa 0 (t 4)),
 og 20 18 true (.ld false 1 (t 19)),
 og 21 18 true (.mv (t 0)),
 og 22 18 true (.mv (t 3)),
 og 23 18 true (.bin .sub (t 22) (i 1)),
 og 24 18 true (.ia 7 (t 21) (t 23)),
 og 25 18 true (.fa 0 (t 24)),
 og 26 18 true (.ld false 1 (t 25)),
 og 27 18 true (.bin .leq (t 20) (t 26)),
 og 28 15 false (.pick (t 18) (t 27) (b false)),
 o 29 (.pick (t 15) (b true) (t 28))])
 (.cond (t 29)
 (.seq (.ops [o 2 (.mv (b false))])
 .ret)
 .skip))))
 (.ops [o 30 (.bin .add (t 7) (i 1)),
 o 7 (.mv (t 30))])))))))
 (.seq (.ops [o 2 (.mv (b true))])
 .ret)))⟩
theorem e155 : slimF Tryz.prog Tryz.f155 [[(0, []), (1, []), (2, []), (3, []), (4, []), (5, []), (6, []), (7, []), (8, []), (9, []), (10, []), (11, []), (12, []), (13, []), (14, []), (15, []), (16, []), (17, [])]] = some c155 := by kernel_rfl
def c156 : SF := ⟨37, [.t 4], (.seq (.ops [k 3 (.bx 68 (t 1)),
 o 4 (.mv (b false))])
 (.seq (.block 0 (.seq (.ops [o 6 (.mv (t 0)),
 k 7 (.ca (.func 102) [(t 6)]),
 o 5 (.mv (t 7))])
 (.cond (t 5)
 (.seq (.opd [o 8 (.fa 0 (t 3)),
 o 9 (.ld true 6 (t 8)),
 k 10 (.ca (.func 154) [(t 9)]),
 o 11 (.mv (t 10)),
 og 12 11 true (.fa 0 (t 3)),
 og 13 11 true (.fa 0 (t 12)),
 og 14 11 true (.ld false 1 (t 13)),
 og 15 11 true (.mv (t 0)),
 ⟨some 16, some (11, true), .ca (.func 112) [(t 15)]⟩,
 og 17 11 true (.bin .eql (t 14) (t 16)),
 o 18 (.pick (t 11) (t 17) (b false)),
 o 19 (.mv (t 18)),
 og 20 19 true (.fa 6 (t 3)),
 og 21 19 true (.ld false 1 (t 20)),
 og 22 19 true (.ln (t 21)),
 og 23 19 true (.bin .eql (t 22) (i 0)),
 o 24 (.pick (t 19) (t 23) (b false)),
 o 4 (.mv (t 24))])
 .ret)
 (.seq (.ops [o 26 (.mv (t 0)),
 o 27 (.bin .eql (t 26) (i 7)),
 o 25 (.mv (t 27))])
 (.cond (t 25)
 (.seq (.ops [o 28 (.fa 0 (t 3)),
 o 29 (.ld true 6 (t 28)),
 o 30 (.bd [.int .i64 0, .bool false, .int .i64 0, .int .i64 0, .int .i64 0, .int .i64 0] []),
 o 31 (.eqs (.st [(false, 0, 1, .i), (false, 1, 1, .b), (false, 2, 1, .i), (false, 3, 1, .i), (false, 4, 1, .i), (false, 5, 1, .i)]) false (t 29) (t 30)),
 o 32 (.mv (t 31)),
 og 33 32 true (.fa 6 (t 3)),
 og 34 32 true (.ld false 1 (t 33)),
 ⟨some 35, some (32, true), .ca (.func 155) [(t 34)]⟩,
 o 36 (.pick (t 32) (t 35) (b false)),
 o 4 (.mv (t 36))])
 .ret)
 .skip)))))
 (.seq (.ops [o 4 (.mv (b false))])
 .ret)))⟩
theorem e156 : slimF Tryz.prog Tryz.f156 [[(0, []), (1, []), (2, []), (3, []), (4, []), (5, []), (6, []), (7, []), (8, []), (9, []), (10, []), (11, []), (12, []), (13, []), (14, []), (15, []), (16, []), (17, [])]] = some c156 := by kernel_rfl
def c157 : SF := ⟨8, [.t 3], (.seq (.ops [k 2 (.bx 157 (t 0)),
 o 3 (.mv (b false))])
 (.seq (.ops [o 4 (.fa 0 (t 2)),
 o 5 (.ld false 1 (t 4)),
 o 6 (.ld false 1 (t 1)),
 o 7 (.bin .gtr (t 5) (t 6)),
 o 3 (.mv (t 7))])
 .ret))⟩
theorem e157 : slimF Tryz.prog Tryz.f157 [] = some c157 := by kernel_rfl
def c158 : SF := ⟨6, [.t 2], (.seq (.ops [o 2 (.mv (b false))])
 (.seq (.ops [o 3 (.mv (t 0)),
 o 4 (.mv (t 0)),
 o 5 (.bin .neq (t 3) (t 4)),
 o 2 (.mv (t 5))])
 .ret))⟩
theorem e158 : slimF Tryz.prog Tryz.f158 [] = some c158 := by kernel_rfl
def c159 : SF := ⟨19, [.t 4], (.seq (.ops [o 4 (.mv (i 0))])
 (.seq (.seq (.ops [o 6 (.mv (t 0)),
 o 7 (.ln (t 6)),
 o 8 (.mv (i 0))])
 (.block 0 (.loop (.seq (.ops [o 9 (.bin .lss (t 8) (t 7))])
 (.seq (.cond (t 9)
 .skip
 (.exit 0))
 (.seq (.block 1 (.seq (.ops [o 10 (.mv (t 8)),
 o 5 (.mv (t 10))])
 (.seq (.ops [o 11 (.mv (t 1)),
 o 12 (.mv (t 0)),
 o 13 (.mv (t 5)),
 o 14 (.ia 7 (t 12) (t 13)),
 o 15 (.ld true 7 (t 14)),
 k 16 (.ca (t 11) [(t 15)])])
 (.cond (t 16)
 (.seq (.ops [o 17 (.mv (t 5)),
 o 4 (.mv (t 17))])
 .ret)
 .skip))))
 (.ops [o 18 (.bin .add (t 8) (i 1)),
 o 8 (.mv (t 18))])))))))
 (.seq (.ops [o 4 (.mv (i (-1)))])
 .ret)))⟩
theorem e159 : slimF Tryz.prog Tryz.f159 [] = some c159 := by kernel_rfl
def c160 : SF := ⟨12, [.t 4], (.seq (.ops [o 4 (.mv (b false))])
 (.seq (.ops [o 5 (.mv (t 0)),
 o 6 (.bin .geq (t 5) (i 0)),
 o 7 (.mv (t 6)),
 og 8 7 true (.mv (t 0)),
 og 9 7 true (.mv (t 1)),
 og 10 7 true (.bin .leq (t 8) (t 9)),
 o 11 (.pick (t 7) (t 10) (b false)),
 o 4 (.mv (t 11))])
 .ret))⟩
theorem e160 : slimF Tryz.prog Tryz.f160 [] = some c160 := by kernel_rfl
def c161 : SF := ⟨13, [.t 2], (.seq (.ops [o 2 (.mv (b false))])
 (.seq (.ops [o 3 (.mv (t 0)),
 o 4 (.bin .eql (t 3) (i 8)),
 o 5 (.mv (t 4)),
 og 6 5 false (.mv (t 0)),
 og 7 5 false (.bin .eql (t 6) (i 16)),
 o 8 (.pick (t 5) (b true) (t 7)),
 o 9 (.mv (t 8)),
 og 10 9 false (.mv (t 0)),
 og 11 9 false (.bin .eql (t 10) (i 32)),
 o 12 (.pick (t 9) (b true) (t 11)),
 o 2 (.mv (t 12))])
 .ret))⟩
theorem e161 : slimF Tryz.prog Tryz.f161 [] = some c161 := by kernel_rfl
def c162 : SF := ⟨5, [.c true 6 2], (.seq (.ops [k 2 (.al 65 [.int .i64 0, .bool false, .int .i64 0, .int .i64 0, .int .i64 0, .int .i64 0])])
 (.seq (.ops [o 3 (.mv (t 0)),
 o 4 (.bd [.int .i64 0, .bool false, .int .i64 0, .int .i64 0, .int .i64 0, .int .i64 0] [(0, 1, (t 3)), (1, 1, (b true))]),
 kn (.st [] 6 (t 2) (t 4))])
 .ret))⟩
theorem e162 : slimF Tryz.prog Tryz.f162 [] = some c162 := by kernel_rfl
def c163 : SF := ⟨41, [.t 2], (.seq (.ops [k 1 (.bx 157 (t 0)),
 o 2 (.mv (b false))])
 (.seq (.seq (.ops [o 5 (.fa 0 (t 1)),
 o 6 (.ld false 1 (t 5)),
 o 7 (.bin .lss (t 6) (i 0)),
 o 8 (.mv (t 7)),
 og 9 8 false (.fa 0 (t 1)),
 og 10 8 false (.ld false 1 (t 9)),
 og 11 8 false (.bin .gtr (t 10) (i 6)),
 o 12 (.pick (t 8) (b true) (t 11)),
 o 13 (.mv (t 12)),
 og 14 13 false (.fa 1 (t 1)),
 og 15 13 false (.fa 0 (t 14)),
 og 16 13 false (.ld false 1 (t 15)),
 og 17 13 false (.bin .neq (t 16) (i 8)),
 o 18 (.pick (t 13) (b true) (t 17)),
 o 19 (.mv (t 18)),
 og 20 19 false (.fa 1 (t 1)),
 og 21 19 false (.ld true 6 (t 20)),
 ⟨some 22, some (19, false), .ca (.func 154) [(t 21)]⟩,
 og 23 19 false (.un .not (t 22)),
 o 24 (.pick (t 19) (b true) (t 23))])
 (.cond (t 24)
 (.seq (.ops [o 2 (.mv (b false))])
 .ret)
 .skip))
 (.seq (.ops [o 26 (.fa 1 (t 1)),
 o 27 (.ld true 6 (t 26)),
 k 28 (.ca (.func 164) [(t 27)]),
 o 25 (.mv (t 28)),
 o 29 (.ex (t 25) 0),
 o 30 (.ex (t 25) 1),
 o 3 (.mv (t 29)),
 o 4 (.mv (t 30))])
 (.seq (.ops [o 31 (.fa 0 (t 1)),
 o 32 (.ld false 1 (t 31)),
 o 33 (.bin .gtr (t 32) (i 0)),
 o 34 (.mv (t 33)),
 og 35 34 false (.mv (t 4)),
 og 36 34 false (.mv (t 35)),
 og 37 36 true (.mv (t 3)),
 og 38 36 true (.bin .eql (t 37) (i 0)),
 og 39 34 false (.pick (t 36) (t 38) (b false)),
 o 40 (.pick (t 34) (b true) (t 39)),
 o 2 (.mv (t 40))])
 .ret))))⟩
theorem e163 : slimF Tryz.prog Tryz.f163 [] = some c163 := by kernel_rfl
def c164 : SF := ⟨21, [.t 2, .t 3], (.seq (.ops [k 1 (.bx 65 (t 0)),
 o 2 (.mv (i 0)),
 o 3 (.mv (b false))])
 (.seq (.ops [o 7 (.ld true 6 (t 1)),
 k 8 (.ca (.func 165) [(t 7), (i 1)]),
 o 6 (.mv (t 8)),
 o 9 (.ex (t 6) 0),
 o 10 (.ex (t 6) 1),
 o 4 (.mv (t 9)),
 o 5 (.mv (t 10))])
 (.seq (.seq (.ops [o 11 (.mv (t 5)),
 o 12 (.un .not (t 11)),
 o 13 (.mv (t 12)),
 og 14 13 false (.mv (t 4)),
 og 15 13 false (.ln (t 14)),
 og 16 13 false (.bin .eql (t 15) (i 0)),
 o 17 (.pick (t 13) (b true) (t 16))])
 (.cond (t 17)
 (.seq (.ops [o 2 (.mv (i 0)),
 o 3 (.mv (b false))])
 .ret)
 .skip))
 (.seq (.ops [o 18 (.mv (t 4)),
 o 19 (.ia 1 (t 18) (i 0)),
 o 20 (.ld false 1 (t 19)),
 o 2 (.mv (t 20)),
 o 3 (.mv (b true))])
 .ret))))⟩
theorem e164 : slimF Tryz.prog Tryz.f164 [] = some c164 := by kernel_rfl
def c165 : SF := ⟨24, [.t 4, .t 5], (.seq (.ops [k 2 (.bx 65 (t 0)),
 o 4 (.mv (.const (.slice none 0 0))),
 o 5 (.mv (b false))])
 (.seq (.seq (.ops [o 7 (.ld true 6 (t 2)),
 k 8 (.ca (.func 166) [(t 7), (i 0)]),
 o 6 (.mv (t 8))])
 (.block 0 (.loop (.seq (.seq (.ops [o 9 (.mv (t 6)),
 o 10 (.bin .geq (t 9) (i 0))])
 (.cond (t 10)
 .skip
 (.exit 0)))
 (.seq (.block 1 (.seq (.seq (.ops [o 15 (.mv (t 4)),
 o 16 (.ln (t 15)),
 o 17 (.mv (t 1)),
 o 18 (.bin .eql (t 16) (t 17))])
 (.cond (t 18)
 (.seq (.ops [o 4 (.mv (.const (.slice none 0 0))),
 o 5 (.mv (b false))])
 .ret)
 .skip))
 (.ops [o 19 (.mv (t 4)),
 o 20 (.mv (t 6)),
 k 21 (.bs 3 1 [.int .i64 0] [(0, 1, (t 20))]),
 k 22 (.ap 3 1 8 (t 19) (t 21)),
 o 4 (.mv (t 22))])))
 (.ops [o 11 (.ld true 6 (t 2)),
 o 12 (.mv (t 6)),
 o 13 (.bin .add (t 12) (i 1)),
 k 14 (.ca (.func 166) [(t 11), (t 13)]),
 o 6 (.mv (t 14))]))))))
 (.seq (.ops [o 23 (.mv (t 4)),
 o 4 (.mv (t 23)),
 o 5 (.mv (b true))])
 .ret)))⟩
theorem e165 : slimF Tryz.prog Tryz.f165 [] = some c165 := by kernel_rfl
def c166 : SF := ⟨44, [.t 4], (.seq (.ops [k 2 (.bx 65 (t 0)),
 o 4 (.mv (i 0))])
 (.seq (.seq (.ops [o 8 (.fa 1 (t 2)),
 o 9 (.ld false 1 (t 8)),
 o 10 (.mv (t 9)),
 og 11 10 false (.mv (t 1)),
 og 12 10 false (.fa 0 (t 2)),
 og 13 10 false (.ld false 1 (t 12)),
 ⟨some 14, some (10, false), .ca (.func 148) [(t 13)]⟩,
 og 15 10 false (.bin .gtr (t 11) (t 14)),
 o 16 (.pick (t 10) (b true) (t 15))])
 (.cond (t 16)
 (.seq (.ops [o 4 (.mv (i (-1)))])
 .ret)
 .skip))
 (.seq (.seq (.ops [o 17 (.ld true 6 (t 2)),
 k 18 (.ca (.func 167) [(t 17)]),
 o 19 (.ln (t 18)),
 o 20 (.mv (i 0))])
 (.block 0 (.loop (.seq (.ops [o 21 (.bin .lss (t 20) (t 19))])
 (.seq (.cond (t 21)
 .skip
 (.exit 0))
 (.seq (.block 1 (.seq (.ops [o 22 (.ia 2 (t 18) (t 20)),
 o 23 (.ld true 2 (t 22)),
 k 6 (.al 184 [.int .i64 0, .int .i64 0]),
 kn (.st [] 2 (t 6) (t 23))])
 (.seq (.seq (.ops [o 24 (.mv (t 1)),
 o 25 (.iaa 2 1 (t 6) (i 1)),
 o 26 (.ld false 1 (t 25)),
 o 27 (.bin .gtr (t 24) (t 26))])
 (.cond (t 27)
 (.exit 1)
 .skip))
 (.seq (.ops [o 28 (.ld true 6 (t 2)),
 o 29 (.mv (t 1)),
 o 30 (.iaa 2 1 (t 6) (i 0)),
 o 31 (.ld false 1 (t 30)),
 o 32 (.mx [(t 29), (t 31)]),
 k 33 (.ca (.func 168) [(t 28), (t 32)]),
 o 7 (.mv (t 33))])
 (.seq (.ops [o 34 (.mv (t 7)),
 o 35 (.bin .geq (t 34) (i 0)),
 o 36 (.mv (t 35)),
 og 37 36 true (.mv (t 7)),
 og 38 36 true (.iaa 2 1 (t 6) (i 1)),
 og 39 36 true (.ld false 1 (t 38)),
 og 40 36 true (.bin .leq (t 37) (t 39)),
 o 41 (.pick (t 36) (t 40) (b false))])
 (.cond (t 41)
 (.seq (.ops [o 42 (.mv (t 7)),
 o 4 (.mv (t 42))])
 .ret)
 .skip))))))
 (.ops [o 43 (.bin .add (t 20) (i 1)),
 o 20 (.mv (t 43))])))))))
 (.seq (.ops [o 4 (.mv (i (-1)))])
 .ret))))⟩
theorem e166 : slimF Tryz.prog Tryz.f166 [] = some c166 := by kernel_rfl
def c167 : SF := ⟨24, [.t 2], (.seq (.ops [k 1 (.bx 65 (t 0)),
 o 2 (.mv (.const (.slice none 0 0)))])
 (.seq (.seq (.ops [o 3 (.fa 2 (t 1)),
 o 4 (.ld false 1 (t 3)),
 o 5 (.fa 3 (t 1)),
 o 6 (.ld false 1 (t 5)),
 o 7 (.bin .leq (t 4) (t 6))])
 (.cond (t 7)
 (.seq (.ops [o 8 (.fa 2 (t 1)),
 o 9 (.ld false 1 (t 8)),
 o 10 (.fa 3 (t 1)),
 o 11 (.ld false 1 (t 10)),
 o 12 (.bd [.int .i64 0, .int .i64 0] [(0, 1, (t 9)), (1, 1, (t 11))]),
 k 13 (.bs 184 1 [.int .i64 0, .int .i64 0] [(0, 2, (t 12))]),
 o 2 (.mv (t 13))])
 .ret)
 .skip))
 (.seq (.opd [o 14 (.fa 3 (t 1)),
 o 15 (.ld false 1 (t 14)),
 o 16 (.bd [.int .i64 0, .int .i64 0] [(0, 1, (i 0)), (1, 1, (t 15))]),
 o 17 (.fa 2 (t 1)),
 o 18 (.ld false 1 (t 17)),
 o 19 (.fa 0 (t 1)),
 o 20 (.ld false 1 (t 19)),
 k 21 (.ca (.func 148) [(t 20)]),
 o 22 (.bd [.int .i64 0, .int .i64 0] [(0, 1, (t 18)), (1, 1, (t 21))]),
 k 23 (.bs 184 2 [.int .i64 0, .int .i64 0, .int .i64 0, .int .i64 0] [(0, 2, (t 16)), (2, 2, (t 22))]),
 o 2 (.mv (t 23))])
 .ret)))⟩
theorem e167 : slimF Tryz.prog Tryz.f167 [[(0, []), (1, []), (2, []), (3, []), (4, []), (5, []), (6, []), (7, []), (8, []), (9, []), (10, [])]] = some c167 := by kernel_rfl
def c168 : SF := ⟨54, [.t 4], (.seq (.ops [k 2 (.bx 65 (t 0)),
 o 4 (.mv (i 0))])
 (.seq (.seq (.ops [o 8 (.mv (t 1)),
 o 9 (.fa 4 (t 2)),
 o 10 (.ld false 1 (t 9)),
 o 11 (.bin .andNot (t 8) (t 10)),
 o 12 (.fa 5 (t 2)),
 o 13 (.ld false 1 (t 12)),
 o 14 (.bin .eql (t 11) (t 13))])
 (.cond (t 14)
 (.seq (.ops [o 15 (.mv (t 1)),
 o 4 (.mv (t 15))])
 .ret)
 .skip))
 (.seq (.seq (.ops [o 16 (.fa 0 (t 2)),
 o 17 (.ld false 1 (t 16)),
 o 18 (.mv (i 0))])
 (.block 0 (.loop (.seq (.ops [o 19 (.bin .lss (t 18) (t 17))])
 (.seq (.cond (t 19)
 .skip
 (.exit 0))
 (.seq (.block 1 (.seq (.ops [o 20 (.mv (t 18)),
 o 5 (.mv (t 20))])
 (.seq (.ops [o 21 (.mv (t 5)),
 o 22 (.bin .shl (i 1) (t 21)),
 o 6 (.mv (t 22))])
 (.seq (.seq (.ops [o 23 (.mv (t 1)),
 o 24 (.mv (t 6)),
 o 25 (.bin .and (t 23) (t 24)),
 o 26 (.bin .neq (t 25) (i 0))])
 (.cond (t 26)
 (.exit 1)
 .skip))
 (.seq (.ops [o 27 (.mv (t 1)),
 o 28 (.mv (t 6)),
 o 29 (.bin .sub (t 28) (i 1)),
 o 30 (.bin .andNot (t 27) (t 29)),
 o 31 (.mv (t 6)),
 o 32 (.bin .or (t 30) (t 31)),
 o 7 (.mv (t 32))])
 (.seq (.ops [o 33 (.mv (t 7)),
 o 34 (.fa 4 (t 2)),
 o 35 (.ld false 1 (t 34)),
 o 36 (.bin .andNot (t 33) (t 35)),
 o 37 (.mv (t 6)),
 o 38 (.bin .sub (t 37) (i 1)),
 o 39 (.bin .andNot (t 36) (t 38)),
 o 40 (.fa 5 (t 2)),
 o 41 (.ld false 1 (t 40)),
 o 42 (.mv (t 6)),
 o 43 (.bin .sub (t 42) (i 1)),
 o 44 (.bin .andNot (t 41) (t 43)),
 o 45 (.bin .eql (t 39) (t 44))])
 (.cond (t 45)
 (.seq (.ops [o 46 (.mv (t 7)),
 o 47 (.fa 5 (t 2)),
 o 48 (.ld false 1 (t 47)),
 o 49 (.mv (t 6)),
 o 50 (.bin .sub (t 49) (i 1)),
 o 51 (.bin .and (t 48) (t 50)),
 o 52 (.bin .or (t 46) (t 51)),
 o 4 (.mv (t 52))])
 .ret)
 .skip)))))))
 (.ops [o 53 (.bin .add (t 18) (i 1)),
 o 18 (.mv (t 53))])))))))
 (.seq (.ops [o 4 (.mv (i (-1)))])
 .ret))))⟩
theorem e168 : slimF Tryz.prog Tryz.f168 [] = some c168 := by kernel_rfl
end Go.Proofs.Tryz.S
