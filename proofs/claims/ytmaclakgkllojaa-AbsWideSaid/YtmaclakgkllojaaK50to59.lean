/- Parts K50to59: the machine's runs of small codes, contracts of functions, plain facts. -/
import Derived.Test.YtmaclakgkllojaaProg
import Derived.Test.YtmaclakgkllojaaK45to49
namespace Go.Proofs.Try.S
open Go Go.Ax Go.Ax.N
set_option maxRecDepth 100000

/-- cellar/abs.Join -/
def c50 : SF := ⟨18, [.c true 7 6, .t 7], (.seq (.ops [k 4 (.bx 37 (t 1)),
 k 5 (.bx 37 (t 2)),
 k 6 (.al 37 [.int .i64 0, .bool false, .int .i64 0, .int .i64 0, .int .i64 0, .int .i64 0, .slice none 0 0]),
 o 7 (.mv (i 0))])
 (.seq (.seq (.ops [o 8 (.mv (t 0)),
 o 9 (.ld true 7 (t 4)),
 o 10 (.ld true 7 (t 5)),
 k 11 (.ca (.func 91) [(t 8), (t 9), (t 10)]),
 o 12 (.un .not (t 11))])
 (.cond (t 12)
 (.seq (.ops [o 13 (.bd [.int .i64 0, .bool false, .int .i64 0, .int .i64 0, .int .i64 0, .int .i64 0, .slice none 0 0] []),
 kn (.st [] 7 (t 6) (t 13)),
 o 7 (.mv (i 1))])
 .ret)
 .skip))
 (.seq (.ops [o 14 (.mv (t 0)),
 o 15 (.ld true 7 (t 4)),
 o 16 (.ld true 7 (t 5)),
 k 17 (.ca (.func 92) [(t 14), (t 15), (t 16)]),
 kn (.st [] 7 (t 6) (t 17)),
 o 7 (.mv (i 0))])
 .ret)))⟩
theorem e50 : slimF Try.prog Try.f50 [] = some c50 := by kernel_rfl
/-- cellar/abs.Meet -/
def c51 : SF := ⟨18, [.c true 7 6, .t 7], (.seq (.ops [k 4 (.bx 37 (t 1)),
 k 5 (.bx 37 (t 2)),
 k 6 (.al 37 [.int .i64 0, .bool false, .int .i64 0, .int .i64 0, .int .i64 0, .int .i64 0, .slice none 0 0]),
 o 7 (.mv (i 0))])
 (.seq (.seq (.ops [o 8 (.mv (t 0)),
 o 9 (.ld true 7 (t 4)),
 o 10 (.ld true 7 (t 5)),
 k 11 (.ca (.func 91) [(t 8), (t 9), (t 10)]),
 o 12 (.un .not (t 11))])
 (.cond (t 12)
 (.seq (.ops [o 13 (.bd [.int .i64 0, .bool false, .int .i64 0, .int .i64 0, .int .i64 0, .int .i64 0, .slice none 0 0] []),
 kn (.st [] 7 (t 6) (t 13)),
 o 7 (.mv (i 1))])
 .ret)
 .skip))
 (.seq (.ops [o 14 (.mv (t 0)),
 o 15 (.ld true 7 (t 4)),
 o 16 (.ld true 7 (t 5)),
 k 17 (.ca (.func 93) [(t 14), (t 15), (t 16)]),
 kn (.st [] 7 (t 6) (t 17)),
 o 7 (.mv (i 0))])
 .ret)))⟩
theorem e51 : slimF Try.prog Try.f51 [] = some c51 := by kernel_rfl
/-- cellar/cellarlaw15.Within -/
def c52 : SF := ⟨29, [.t 8], (.seq (.ops [k 5 (.bx 37 (t 1)),
 k 6 (.bx 37 (t 2)),
 o 8 (.mv (b false))])
 (.seq (.ops [o 11 (.mv (t 0)),
 o 12 (.ld true 7 (t 5)),
 o 13 (.mv (t 3)),
 k 14 (.ca (.func 54) [(t 11), (t 12), (i 16), (t 13)]),
 o 9 (.mv (t 14))])
 (.seq (.seq (.ops [o 10 (.mv (i 0))])
 (.block 0 (.loop (.seq (.seq (.ops [o 15 (.mv (t 10)),
 o 16 (.mv (t 9)),
 o 17 (.ln (t 16)),
 o 18 (.bin .lss (t 15) (t 17))])
 (.cond (t 18)
 .skip
 (.exit 0)))
 (.seq (.block 1 (.seq (.opq [o 21 (.mv (t 0)),
 o 22 (.ld true 7 (t 6)),
 o 23 (.mv (t 9)),
 o 24 (.mv (t 10)),
 o 25 (.ia 4 (t 23) (t 24)),
 o 26 (.ld true 4 (t 25)),
 k 27 (.ca (.func 23) [(t 21), (t 22), (t 26)]),
 o 28 (.un .not (t 27))])
 (.cond (t 28)
 (.seq (.ops [o 8 (.mv (b false))])
 .ret)
 .skip)))
 (.ops [o 19 (.mv (t 10)),
 o 20 (.bin .add (t 19) (i 1)),
 o 10 (.mv (t 20))]))))))
 (.seq (.ops [o 8 (.mv (b true))])
 .ret))))⟩
theorem e52 : slimF Try.prog Try.f52 [[(0, []), (1, []), (2, []), (3, []), (4, []), (5, []), (6, []), (7, [])]] = some c52 := by kernel_rfl
/-- cellar/abs.In -/
def c53 : SF := ⟨17, [.t 6, .t 7], (.seq (.ops [k 4 (.bx 37 (t 1)),
 k 5 (.bx 37 (t 2)),
 o 6 (.mv (b false)),
 o 7 (.mv (i 0))])
 (.seq (.seq (.ops [o 8 (.mv (t 0)),
 o 9 (.ld true 7 (t 4)),
 o 10 (.ld true 7 (t 5)),
 k 11 (.ca (.func 91) [(t 8), (t 9), (t 10)]),
 o 12 (.un .not (t 11))])
 (.cond (t 12)
 (.seq (.ops [o 6 (.mv (b false)),
 o 7 (.mv (i 1))])
 .ret)
 .skip))
 (.seq (.ops [o 13 (.mv (t 0)),
 o 14 (.ld true 7 (t 4)),
 o 15 (.ld true 7 (t 5)),
 k 16 (.ca (.func 94) [(t 13), (t 14), (t 15)]),
 o 6 (.mv (t 16)),
 o 7 (.mv (i 0))])
 .ret)))⟩
theorem e53 : slimF Try.prog Try.f53 [] = some c53 := by kernel_rfl
/-- cellar/cellarref15.Members -/
def c54 : SF := ⟨79, [.t 8], (.seq (.ops [k 5 (.bx 37 (t 1)),
 o 8 (.mv (.const (.slice none 0 0)))])
 (.seq (.ops [o 9 (.mv (.const (.slice none 0 0)))])
 (.seq (.seq (.ops [o 15 (.mv (t 0)),
 o 16 (.bin .neq (t 15) (i 7))])
 (.cond (t 16)
 (.seq (.ops [o 17 (.fa 0 (t 5)),
 o 18 (.ld true 6 (t 17)),
 o 19 (.mv (t 2)),
 o 20 (.mv (t 3)),
 k 21 (.ca (.func 39) [(t 18), (t 19), (t 20)]),
 o 10 (.mv (t 21))])
 (.seq (.seq (.ops [o 11 (.mv (i 0))])
 (.block 0 (.loop (.seq (.seq (.ops [o 22 (.mv (t 11)),
 o 23 (.mv (t 10)),
 o 24 (.ln (t 23)),
 o 25 (.bin .lss (t 22) (t 24))])
 (.cond (t 25)
 .skip
 (.exit 0)))
 (.seq (.block 1 (.ops [o 28 (.mv (t 9)),
 o 29 (.mv (t 10)),
 o 30 (.mv (t 11)),
 o 31 (.ia 1 (t 29) (t 30)),
 o 32 (.ld false 1 (t 31)),
 o 33 (.bd [.bool false, .int .i64 0, .int .i64 0, .int .i64 0] [(1, 1, (t 32))]),
 k 34 (.bs 32 1 [.bool false, .int .i64 0, .int .i64 0, .int .i64 0] [(0, 4, (t 33))]),
 k 35 (.ap 32 4 32 (t 28) (t 34)),
 o 9 (.mv (t 35))]))
 (.ops [o 26 (.mv (t 11)),
 o 27 (.bin .add (t 26) (i 1)),
 o 11 (.mv (t 27))]))))))
 (.seq (.ops [o 36 (.mv (t 9)),
 o 8 (.mv (t 36))])
 .ret)))
 .skip))
 (.seq (.seq (.ops [o 12 (.mv (i 0))])
 (.block 2 (.loop (.seq (.seq (.ops [o 37 (.mv (t 12)),
 o 38 (.fa 6 (t 5)),
 o 39 (.ld false 1 (t 38)),
 o 40 (.ln (t 39)),
 o 41 (.bin .lss (t 37) (t 40))])
 (.cond (t 41)
 .skip
 (.exit 2)))
 (.seq (.block 3 (.seq (.ops [o 44 (.fa 6 (t 5)),
 o 45 (.ld false 1 (t 44)),
 o 46 (.mv (t 12)),
 o 47 (.ia 7 (t 45) (t 46)),
 o 48 (.fa 1 (t 47)),
 o 49 (.ld true 6 (t 48)),
 o 50 (.mv (t 2)),
 o 51 (.mv (t 3)),
 k 52 (.ca (.func 39) [(t 49), (t 50), (t 51)]),
 o 13 (.mv (t 52))])
 (.seq (.ops [o 14 (.mv (i 0))])
 (.block 4 (.loop (.seq (.seq (.ops [o 53 (.mv (t 14)),
 o 54 (.mv (t 13)),
 o 55 (.ln (t 54)),
 o 56 (.bin .lss (t 53) (t 55))])
 (.cond (t 56)
 .skip
 (.exit 4)))
 (.seq (.block 5 (.seq (.ops [o 59 (.mv (t 13)),
 o 60 (.mv (t 14)),
 o 61 (.ia 1 (t 59) (t 60)),
 o 62 (.ld false 1 (t 61)),
 o 63 (.bin .leq (t 62) (i 32))])
 (.cond (t 63)
 (.opq [o 64 (.mv (t 9)),
 o 65 (.fa 6 (t 5)),
 o 66 (.ld false 1 (t 65)),
 o 67 (.mv (t 12)),
 o 68 (.ia 7 (t 66) (t 67)),
 o 69 (.fa 0 (t 68)),
 o 70 (.ld false 1 (t 69)),
 o 71 (.mv (t 13)),
 o 72 (.mv (t 14)),
 o 73 (.ia 1 (t 71) (t 72)),
 o 74 (.ld false 1 (t 73)),
 o 75 (.bd [.bool false, .int .i64 0, .int .i64 0, .int .i64 0] [(0, 1, (b true)), (2, 1, (t 70)), (3, 1, (t 74))]),
 k 76 (.bs 32 1 [.bool false, .int .i64 0, .int .i64 0, .int .i64 0] [(0, 4, (t 75))]),
 k 77 (.ap 32 4 32 (t 64) (t 76)),
 o 9 (.mv (t 77))])
 .skip)))
 (.ops [o 57 (.mv (t 14)),
 o 58 (.bin .add (t 57) (i 1)),
 o 14 (.mv (t 58))]))))))))
 (.ops [o 42 (.mv (t 12)),
 o 43 (.bin .add (t 42) (i 1)),
 o 12 (.mv (t 43))]))))))
 (.seq (.ops [o 78 (.mv (t 9)),
 o 8 (.mv (t 78))])
 .ret)))))⟩
theorem e54 : slimF Try.prog Try.f54 [[(0, []), (1, []), (2, []), (3, []), (4, []), (5, []), (6, []), (7, []), (8, []), (9, []), (10, []), (11, []), (12, []), (13, []), (14, [])]] = some c54 := by kernel_rfl
/-- cellar/abs.Wide -/
def c55 : SF := ⟨19, [.c true 7 6, .t 7], (.seq (.ops [k 4 (.bx 37 (t 1)),
 k 5 (.bx 37 (t 2)),
 k 6 (.al 37 [.int .i64 0, .bool false, .int .i64 0, .int .i64 0, .int .i64 0, .int .i64 0, .slice none 0 0]),
 o 7 (.mv (i 0))])
 (.seq (.seq (.ops [o 8 (.mv (t 0)),
 o 9 (.ld true 7 (t 4)),
 o 10 (.ld true 7 (t 5)),
 k 11 (.ca (.func 91) [(t 8), (t 9), (t 10)]),
 o 12 (.un .not (t 11))])
 (.cond (t 12)
 (.seq (.ops [o 13 (.bd [.int .i64 0, .bool false, .int .i64 0, .int .i64 0, .int .i64 0, .int .i64 0, .slice none 0 0] []),
 kn (.st [] 7 (t 6) (t 13)),
 o 7 (.mv (i 1))])
 .ret)
 .skip))
 (.seq (.ops [o 14 (.mv (t 0)),
 o 15 (.ld true 7 (t 4)),
 o 16 (.ld true 7 (t 5)),
 k 17 (.ca (.func 96) [(t 14), (t 15), (t 16)]),
 k 18 (.ca (.func 95) [(t 17)]),
 kn (.st [] 7 (t 6) (t 18)),
 o 7 (.mv (i 0))])
 .ret)))⟩
theorem e55 : slimF Try.prog Try.f55 [] = some c55 := by kernel_rfl
/-- cellar/cellarref15.One -/
def c56 : SF := ⟨21, [.c true 7 4], (.seq (.ops [k 3 (.bx 32 (t 1)),
 k 4 (.al 37 [.int .i64 0, .bool false, .int .i64 0, .int .i64 0, .int .i64 0, .int .i64 0, .slice none 0 0])])
 (.seq (.seq (.ops [o 5 (.mv (t 0)),
 o 6 (.bin .neq (t 5) (i 7))])
 (.cond (t 6)
 (.seq (.opd [o 7 (.mv (t 0)),
 o 9 (.fa 1 (t 3)),
 o 10 (.ld false 1 (t 9)),
 k 8 (.ca (.func 46) [(t 7)]),
 k 11 (.ca (.func 82) [(t 8), (t 10)]),
 o 12 (.bd [.int .i64 0, .bool false, .int .i64 0, .int .i64 0, .int .i64 0, .int .i64 0, .slice none 0 0] [(0, 6, (t 11))]),
 kn (.st [] 7 (t 4) (t 12))])
 .ret)
 .skip))
 (.seq (.opd [o 13 (.fa 2 (t 3)),
 o 14 (.ld false 1 (t 13)),
 o 15 (.fa 3 (t 3)),
 o 16 (.ld false 1 (t 15)),
 k 17 (.ca (.func 82) [(i 8), (t 16)]),
 o 18 (.bd [.int .i64 0, .int .i64 0, .bool false, .int .i64 0, .int .i64 0, .int .i64 0, .int .i64 0] [(0, 1, (t 14)), (1, 6, (t 17))]),
 k 19 (.bs 87 1 [.int .i64 0, .int .i64 0, .bool false, .int .i64 0, .int .i64 0, .int .i64 0, .int .i64 0] [(0, 7, (t 18))]),
 o 20 (.bd [.int .i64 0, .bool false, .int .i64 0, .int .i64 0, .int .i64 0, .int .i64 0, .slice none 0 0] [(6, 1, (t 19))]),
 kn (.st [] 7 (t 4) (t 20))])
 .ret)))⟩
theorem e56 : slimF Try.prog Try.f56 [[(0, []), (2, []), (3, []), (1, []), (4, []), (5, []), (6, [])], [(0, []), (1, []), (2, []), (3, []), (4, []), (5, []), (6, []), (7, []), (8, [])]] = some c56 := by kernel_rfl
/-- cellar/abs.asked -/
def c91 : SF := ⟨15, [.t 6], (.seq (.ops [k 4 (.bx 37 (t 1)),
 k 5 (.bx 37 (t 2)),
 o 6 (.mv (b false))])
 (.seq (.ops [o 7 (.mv (t 0)),
 o 8 (.ld true 7 (t 4)),
 k 9 (.ca (.func 69) [(t 7), (t 8)]),
 o 10 (.mv (t 9)),
 og 11 10 true (.mv (t 0)),
 og 12 10 true (.ld true 7 (t 5)),
 ⟨some 13, some (10, true), .ca (.func 69) [(t 11), (t 12)]⟩,
 o 14 (.pick (t 10) (t 13) (b false)),
 o 6 (.mv (t 14))])
 .ret))⟩
theorem e91 : slimF Try.prog Try.f91 [] = some c91 := by kernel_rfl
/-- cellar/abs.Both -/
def c92 : SF := ⟨21, [.c true 7 6], (.seq (.ops [k 4 (.bx 37 (t 1)),
 k 5 (.bx 37 (t 2)),
 k 6 (.al 37 [.int .i64 0, .bool false, .int .i64 0, .int .i64 0, .int .i64 0, .int .i64 0, .slice none 0 0])])
 (.seq (.seq (.ops [o 7 (.mv (t 0)),
 o 8 (.bin .neq (t 7) (i 7))])
 (.cond (t 8)
 (.seq (.ops [o 9 (.fa 0 (t 4)),
 o 10 (.ld true 6 (t 9)),
 o 11 (.fa 0 (t 5)),
 o 12 (.ld true 6 (t 11)),
 k 13 (.ca (.func 125) [(t 10), (t 12)]),
 k 14 (.ca (.func 99) [(t 13)]),
 kn (.st [] 7 (t 6) (t 14))])
 .ret)
 .skip))
 (.seq (.ops [o 15 (.fa 6 (t 4)),
 o 16 (.ld false 1 (t 15)),
 o 17 (.fa 6 (t 5)),
 o 18 (.ld false 1 (t 17)),
 k 19 (.ca (.func 126) [(t 16), (t 18), (.func 127)]),
 o 20 (.bd [.int .i64 0, .bool false, .int .i64 0, .int .i64 0, .int .i64 0, .int .i64 0, .slice none 0 0] [(6, 1, (t 19))]),
 kn (.st [] 7 (t 6) (t 20))])
 .ret)))⟩
theorem e92 : slimF Try.prog Try.f92 [] = some c92 := by kernel_rfl
/-- cellar/abs.Cross -/
def c93 : SF := ⟨21, [.c true 7 6], (.seq (.ops [k 4 (.bx 37 (t 1)),
 k 5 (.bx 37 (t 2)),
 k 6 (.al 37 [.int .i64 0, .bool false, .int .i64 0, .int .i64 0, .int .i64 0, .int .i64 0, .slice none 0 0])])
 (.seq (.seq (.ops [o 7 (.mv (t 0)),
 o 8 (.bin .neq (t 7) (i 7))])
 (.cond (t 8)
 (.seq (.ops [o 9 (.fa 0 (t 4)),
 o 10 (.ld true 6 (t 9)),
 o 11 (.fa 0 (t 5)),
 o 12 (.ld true 6 (t 11)),
 k 13 (.ca (.func 117) [(t 10), (t 12)]),
 k 14 (.ca (.func 99) [(t 13)]),
 kn (.st [] 7 (t 6) (t 14))])
 .ret)
 .skip))
 (.seq (.ops [o 15 (.fa 6 (t 4)),
 o 16 (.ld false 1 (t 15)),
 o 17 (.fa 6 (t 5)),
 o 18 (.ld false 1 (t 17)),
 k 19 (.ca (.func 126) [(t 16), (t 18), (.func 129)]),
 o 20 (.bd [.int .i64 0, .bool false, .int .i64 0, .int .i64 0, .int .i64 0, .int .i64 0, .slice none 0 0] [(6, 1, (t 19))]),
 kn (.st [] 7 (t 6) (t 20))])
 .ret)))⟩
theorem e93 : slimF Try.prog Try.f93 [] = some c93 := by kernel_rfl
/-- cellar/abs.Under -/
def c94 : SF := ⟨26, [.t 6], (.seq (.ops [k 4 (.bx 37 (t 1)),
 k 5 (.bx 37 (t 2)),
 o 6 (.mv (b false))])
 (.seq (.seq (.ops [o 9 (.mv (t 0)),
 o 10 (.bin .neq (t 9) (i 7))])
 (.cond (t 10)
 (.seq (.ops [o 11 (.fa 0 (t 4)),
 o 12 (.ld true 6 (t 11)),
 o 13 (.fa 0 (t 5)),
 o 14 (.ld true 6 (t 13)),
 k 15 (.ca (.func 130) [(t 12), (t 14)]),
 o 6 (.mv (t 15))])
 .ret)
 .skip))
 (.seq (.ops [o 17 (.fa 6 (t 4)),
 o 18 (.ld false 1 (t 17)),
 k 19 (.ca (.func 111) [(t 18), (i 231)]),
 o 16 (.mv (t 19)),
 o 20 (.ex (t 16) 0),
 o 21 (.ex (t 16) 1),
 o 7 (.mv (t 20)),
 o 8 (.mv (t 21))])
 (.seq (.ops [o 22 (.mv (t 7)),
 o 23 (.mf (.func 132) [] [(t 5)]),
 k 24 (.ca (.func 131) [(t 22), (t 23)]),
 o 25 (.un .not (t 24)),
 o 6 (.mv (t 25))])
 .ret))))⟩
theorem e94 : slimF Try.prog Try.f94 [] = some c94 := by kernel_rfl
/-- cellar/abs.Own -/
def c95 : SF := ⟨9, [.c true 7 2], (.seq (.ops [k 1 (.bx 37 (t 0)),
 k 2 (.al 37 [.int .i64 0, .bool false, .int .i64 0, .int .i64 0, .int .i64 0, .int .i64 0, .slice none 0 0])])
 (.seq (.opd [o 3 (.fa 0 (t 1)),
 o 4 (.ld true 6 (t 3)),
 o 5 (.fa 6 (t 1)),
 o 6 (.ld false 1 (t 5)),
 k 7 (.ca (.func 133) [(t 6)]),
 o 8 (.bd [.int .i64 0, .bool false, .int .i64 0, .int .i64 0, .int .i64 0, .int .i64 0, .slice none 0 0] [(0, 6, (t 4)), (6, 1, (t 7))]),
 kn (.st [] 7 (t 2) (t 8))])
 .ret))⟩
theorem e95 : slimF Try.prog Try.f95 [[(0, []), (1, []), (2, []), (3, []), (4, []), (5, []), (6, [])]] = some c95 := by kernel_rfl
/-- cellar/abs.Out -/
def c96 : SF := ⟨28, [.c true 7 6], (.seq (.ops [k 4 (.bx 37 (t 1)),
 k 5 (.bx 37 (t 2)),
 k 6 (.al 37 [.int .i64 0, .bool false, .int .i64 0, .int .i64 0, .int .i64 0, .int .i64 0, .slice none 0 0])])
 (.seq (.block 0 (.seq (.ops [o 8 (.mv (t 0)),
 o 9 (.ld true 7 (t 5)),
 o 10 (.ld true 7 (t 4)),
 k 11 (.ca (.func 94) [(t 8), (t 9), (t 10)]),
 o 7 (.mv (t 11))])
 (.cond (t 7)
 (.seq (.ops [o 12 (.ld true 7 (t 4)),
 kn (.st [] 7 (t 6) (t 12))])
 .ret)
 (.seq (.ops [o 14 (.mv (t 0)),
 o 15 (.bin .neq (t 14) (i 7)),
 o 13 (.mv (t 15))])
 (.cond (t 13)
 (.seq (.ops [o 16 (.fa 0 (t 4)),
 o 17 (.ld true 6 (t 16)),
 o 18 (.fa 0 (t 5)),
 o 19 (.ld true 6 (t 18)),
 k 20 (.ca (.func 134) [(t 17), (t 19)]),
 k 21 (.ca (.func 99) [(t 20)]),
 kn (.st [] 7 (t 6) (t 21))])
 .ret)
 .skip)))))
 (.seq (.ops [o 22 (.fa 6 (t 4)),
 o 23 (.ld false 1 (t 22)),
 o 24 (.fa 6 (t 5)),
 o 25 (.ld false 1 (t 24)),
 k 26 (.ca (.func 126) [(t 23), (t 25), (.func 135)]),
 o 27 (.bd [.int .i64 0, .bool false, .int .i64 0, .int .i64 0, .int .i64 0, .int .i64 0, .slice none 0 0] [(6, 1, (t 26))]),
 kn (.st [] 7 (t 6) (t 27))])
 .ret)))⟩
theorem e96 : slimF Try.prog Try.f96 [] = some c96 := by kernel_rfl
/-- cellar/abs.each -/
def c126 : SF := ⟨30, [.t 6], (.seq (.ops [o 6 (.mv (.const (.slice none 0 0)))])
 (.seq (.seq (.ops [o 9 (.mv (i 0))])
 (.block 0 (.loop (.seq (.ops [o 10 (.bin .lss (t 9) (i 7))])
 (.seq (.cond (t 10)
 .skip
 (.exit 0))
 (.seq (.block 1 (.seq (.ops [o 11 (.mv (t 9)),
 o 7 (.mv (t 11))])
 (.seq (.ops [o 12 (.mv (t 2)),
 o 13 (.mv (t 0)),
 o 14 (.mv (t 7)),
 k 15 (.ca (.func 151) [(t 13), (t 14)]),
 o 16 (.mv (t 1)),
 o 17 (.mv (t 7)),
 k 18 (.ca (.func 151) [(t 16), (t 17)]),
 k 19 (.ca (t 12) [(t 15), (t 18)]),
 k 8 (.al 87 [.int .i64 0, .int .i64 0, .bool false, .int .i64 0, .int .i64 0, .int .i64 0, .int .i64 0]),
 kn (.st [] 7 (t 8) (t 19))])
 (.seq (.ops [o 20 (.ld true 7 (t 8)),
 k 21 (.ca (.func 108) [(t 20)]),
 o 22 (.ln (t 21)),
 o 23 (.bin .gtr (t 22) (i 0))])
 (.cond (t 23)
 (.ops [o 24 (.mv (t 6)),
 o 25 (.ld true 7 (t 8)),
 k 26 (.bs 87 1 [.int .i64 0, .int .i64 0, .bool false, .int .i64 0, .int .i64 0, .int .i64 0, .int .i64 0] [(0, 7, (t 25))]),
 k 27 (.ap 87 7 56 (t 24) (t 26)),
 o 6 (.mv (t 27))])
 .skip)))))
 (.ops [o 28 (.bin .add (t 9) (i 1)),
 o 9 (.mv (t 28))])))))))
 (.seq (.ops [o 29 (.mv (t 6)),
 o 6 (.mv (t 29))])
 .ret)))⟩
theorem e126 : slimF Try.prog Try.f126 [] = some c126 := by kernel_rfl
/-- cellar/abs.Both$1 -/
def c127 : SF := ⟨15, [.c true 7 4], (.seq (.ops [k 2 (.bx 87 (t 0)),
 k 3 (.bx 87 (t 1)),
 k 4 (.al 87 [.int .i64 0, .int .i64 0, .bool false, .int .i64 0, .int .i64 0, .int .i64 0, .int .i64 0])])
 (.seq (.opd [o 6 (.ld true 7 (t 2)),
 o 8 (.ld true 7 (t 3)),
 k 7 (.ca (.func 108) [(t 6)]),
 k 9 (.ca (.func 108) [(t 8)]),
 k 10 (.ap 3 1 8 (t 7) (t 9)),
 o 5 (.mv (t 10))])
 (.seq (.ops [o 11 (.fa 0 (t 2)),
 o 12 (.ld false 1 (t 11)),
 o 13 (.mv (t 5)),
 k 14 (.ca (.func 128) [(t 12), (t 13)]),
 kn (.st [] 7 (t 4) (t 14))])
 .ret)))⟩
theorem e127 : slimF Try.prog Try.f127 [[(0, []), (2, []), (1, []), (3, []), (4, []), (5, [])]] = some c127 := by kernel_rfl
/-- cellar/abs.pack -/
def c128 : SF := ⟨23, [.c true 7 4], (.seq (.ops [k 4 (.al 87 [.int .i64 0, .int .i64 0, .bool false, .int .i64 0, .int .i64 0, .int .i64 0, .int .i64 0])])
 (.seq (.ops [k 8 (.ca (.func 115) [(i 8)]),
 k 5 (.al 34 [.int .i64 0, .bool false, .int .i64 0, .int .i64 0, .int .i64 0, .int .i64 0]),
 kn (.st [] 6 (t 5) (t 8))])
 (.seq (.seq (.ops [o 9 (.mv (t 1)),
 o 10 (.ln (t 9)),
 o 11 (.mv (i 0))])
 (.block 0 (.loop (.seq (.ops [o 12 (.bin .lss (t 11) (t 10))])
 (.seq (.cond (t 12)
 .skip
 (.exit 0))
 (.seq (.block 1 (.seq (.ops [o 13 (.ia 1 (t 9) (t 11)),
 o 14 (.ld false 1 (t 13)),
 o 7 (.mv (t 14))])
 (.opd [o 15 (.ld true 6 (t 5)),
 o 16 (.mv (t 7)),
 k 17 (.ca (.func 100) [(i 8), (t 16)]),
 k 18 (.ca (.func 125) [(t 15), (t 17)]),
 kn (.st [] 6 (t 5) (t 18))])))
 (.ops [o 19 (.bin .add (t 11) (i 1)),
 o 11 (.mv (t 19))])))))))
 (.seq (.ops [o 20 (.mv (t 0)),
 o 21 (.ld true 6 (t 5)),
 o 22 (.bd [.int .i64 0, .int .i64 0, .bool false, .int .i64 0, .int .i64 0, .int .i64 0, .int .i64 0] [(0, 1, (t 20)), (1, 6, (t 21))]),
 kn (.st [] 7 (t 4) (t 22))])
 .ret))))⟩
theorem e128 : slimF Try.prog Try.f128 [[(0, []), (1, []), (2, []), (3, []), (4, [])]] = some c128 := by kernel_rfl
/-- cellar/abs.Cross$1 -/
def c129 : SF := ⟨17, [.c true 7 4], (.seq (.ops [k 2 (.bx 87 (t 0)),
 k 3 (.bx 87 (t 1)),
 k 4 (.al 87 [.int .i64 0, .int .i64 0, .bool false, .int .i64 0, .int .i64 0, .int .i64 0, .int .i64 0])])
 (.seq (.seq (.ops [o 5 (.ld true 7 (t 3)),
 k 6 (.ca (.func 108) [(t 5)]),
 o 7 (.ln (t 6)),
 o 8 (.bin .eql (t 7) (i 0))])
 (.cond (t 8)
 (.seq (.ops [o 9 (.ld true 7 (t 3)),
 kn (.st [] 7 (t 4) (t 9))])
 .ret)
 .skip))
 (.seq (.ops [o 10 (.fa 1 (t 2)),
 o 11 (.ld true 6 (t 10)),
 o 12 (.fa 1 (t 3)),
 o 13 (.ld true 6 (t 12)),
 k 14 (.ca (.func 117) [(t 11), (t 13)]),
 o 15 (.fa 1 (t 2)),
 kn (.st [] 6 (t 15) (t 14))])
 (.seq (.ops [o 16 (.ld true 7 (t 2)),
 kn (.st [] 7 (t 4) (t 16))])
 .ret))))⟩
theorem e129 : slimF Try.prog Try.f129 [] = some c129 := by kernel_rfl
/-- slices.ContainsFunc[[]cellar/api.Scalar,cellar/api.Scalar] -/
def c131 : SF := ⟨9, [.t 4], (.seq (.ops [o 4 (.mv (b false))])
 (.seq (.ops [o 5 (.mv (t 0)),
 o 6 (.mv (t 1)),
 k 7 (.ca (.func 153) [(t 5), (t 6)]),
 o 8 (.bin .geq (t 7) (i 0)),
 o 4 (.mv (t 8))])
 .ret))⟩
theorem e131 : slimF Try.prog Try.f131 [] = some c131 := by kernel_rfl
/-- cellar/abs.Under$1 -/
def c132 : SF := ⟨12, [.t 3], (.seq (.ops [k 2 (.bx 32 (t 0)),
 o 3 (.mv (b false))])
 (.seq (.ops [o 4 (.fa 6 (t 1)),
 o 5 (.ld false 1 (t 4)),
 o 6 (.fa 2 (t 2)),
 o 7 (.ld false 1 (t 6)),
 o 8 (.fa 3 (t 2)),
 o 9 (.ld false 1 (t 8)),
 k 10 (.ca (.func 112) [(t 5), (t 7), (t 9)]),
 o 11 (.un .not (t 10)),
 o 3 (.mv (t 11))])
 .ret))⟩
theorem e132 : slimF Try.prog Try.f132 [] = some c132 := by kernel_rfl
/-- slices.Clone[[]cellar/api.Base,cellar/api.Base] -/
def c133 : SF := ⟨8, [.t 2], (.seq (.ops [o 2 (.mv (.const (.slice none 0 0)))])
 (.seq (.seq (.ops [o 3 (.mv (t 0)),
 o 4 (.sn false (t 3))])
 (.cond (t 4)
 (.seq (.ops [o 2 (.mv (.const (.slice none 0 0)))])
 .ret)
 .skip))
 (.seq (.ops [k 5 (.bs 87 0 [] []),
 o 6 (.mv (t 0)),
 k 7 (.ap 87 7 56 (t 5) (t 6)),
 o 2 (.mv (t 7))])
 .ret)))⟩
theorem e133 : slimF Try.prog Try.f133 [] = some c133 := by kernel_rfl
/-- cellar/abs.Out$1 -/
def c135 : SF := ⟨25, [.c true 7 4], (.seq (.ops [k 2 (.bx 87 (t 0)),
 k 3 (.bx 87 (t 1)),
 k 4 (.al 87 [.int .i64 0, .int .i64 0, .bool false, .int .i64 0, .int .i64 0, .int .i64 0, .int .i64 0])])
 (.seq (.seq (.ops [o 5 (.fa 0 (t 2)),
 o 6 (.ld false 1 (t 5)),
 o 7 (.bin .eql (t 6) (i 0))])
 (.cond (t 7)
 (.seq (.opd [o 8 (.ld true 7 (t 2)),
 o 10 (.ld true 7 (t 3)),
 k 9 (.ca (.func 108) [(t 8)]),
 k 11 (.ca (.func 108) [(t 10)]),
 k 12 (.ap 3 1 8 (t 9) (t 11)),
 k 13 (.ca (.func 128) [(i 0), (t 12)]),
 kn (.st [] 7 (t 4) (t 13))])
 .ret)
 .skip))
 (.seq (.opd [o 14 (.fa 1 (t 2)),
 o 15 (.ld true 6 (t 14)),
 o 16 (.fa 0 (t 3)),
 o 17 (.ld false 1 (t 16)),
 o 18 (.ld true 7 (t 3)),
 k 19 (.ca (.func 108) [(t 18)]),
 k 20 (.ca (.func 128) [(t 17), (t 19)]),
 o 21 (.fd true 1 6 (t 20)),
 k 22 (.ca (.func 134) [(t 15), (t 21)]),
 o 23 (.fa 1 (t 2)),
 kn (.st [] 6 (t 23) (t 22))])
 (.seq (.ops [o 24 (.ld true 7 (t 2)),
 kn (.st [] 7 (t 4) (t 24))])
 .ret))))⟩
theorem e135 : slimF Try.prog Try.f135 [[(0, []), (2, []), (1, []), (3, []), (4, []), (5, []), (6, [])], [(0, []), (1, []), (2, []), (3, []), (4, []), (5, []), (6, []), (7, []), (8, []), (9, []), (10, [])]] = some c135 := by kernel_rfl
/-- cellar/abs.of -/
def c151 : SF := ⟨22, [.c true 7 4], (.seq (.ops [k 4 (.al 87 [.int .i64 0, .int .i64 0, .bool false, .int .i64 0, .int .i64 0, .int .i64 0, .int .i64 0])])
 (.seq (.seq (.ops [o 7 (.mv (t 0)),
 o 8 (.ln (t 7)),
 o 9 (.mv (i 0))])
 (.block 0 (.loop (.seq (.ops [o 10 (.bin .lss (t 9) (t 8))])
 (.seq (.cond (t 10)
 .skip
 (.exit 0))
 (.seq (.block 1 (.seq (.ops [o 11 (.ia 7 (t 7) (t 9)),
 o 12 (.ld true 7 (t 11)),
 k 6 (.al 87 [.int .i64 0, .int .i64 0, .bool false, .int .i64 0, .int .i64 0, .int .i64 0, .int .i64 0]),
 kn (.st [] 7 (t 6) (t 12))])
 (.seq (.ops [o 13 (.fa 0 (t 6)),
 o 14 (.ld false 1 (t 13)),
 o 15 (.mv (t 1)),
 o 16 (.bin .eql (t 14) (t 15))])
 (.cond (t 16)
 (.seq (.ops [o 17 (.ld true 7 (t 6)),
 kn (.st [] 7 (t 4) (t 17))])
 .ret)
 .skip))))
 (.ops [o 18 (.bin .add (t 9) (i 1)),
 o 9 (.mv (t 18))])))))))
 (.seq (.ops [o 19 (.mv (t 1)),
 k 20 (.ca (.func 115) [(i 8)]),
 o 21 (.bd [.int .i64 0, .int .i64 0, .bool false, .int .i64 0, .int .i64 0, .int .i64 0, .int .i64 0] [(0, 1, (t 19)), (1, 6, (t 20))]),
 kn (.st [] 7 (t 4) (t 21))])
 .ret)))⟩
theorem e151 : slimF Try.prog Try.f151 [] = some c151 := by kernel_rfl
/-- slices.IndexFunc[[]cellar/api.Scalar,cellar/api.Scalar] -/
def c153 : SF := ⟨19, [.t 4], (.seq (.ops [o 4 (.mv (i 0))])
 (.seq (.seq (.ops [o 6 (.mv (t 0)),
 o 7 (.ln (t 6)),
 o 8 (.mv (i 0))])
 (.block 0 (.loop (.seq (.ops [o 9 (.bin .lss (t 8) (t 7))])
 (.seq (.cond (t 9)
 .skip
 (.exit 0))
 (.seq (.block 1 (.seq (.ops [o 10 (.mv (t 8)),
 o 5 (.mv (t 10))])
 (.seq (.ops [o 11 (.mv (t 1)),
 o 12 (.mv (t 0)),
 o 13 (.mv (t 5)),
 o 14 (.ia 4 (t 12) (t 13)),
 o 15 (.ld true 4 (t 14)),
 k 16 (.ca (t 11) [(t 15)])])
 (.cond (t 16)
 (.seq (.ops [o 17 (.mv (t 5)),
 o 4 (.mv (t 17))])
 .ret)
 .skip))))
 (.ops [o 18 (.bin .add (t 8) (i 1)),
 o 8 (.mv (t 18))])))))))
 (.seq (.ops [o 4 (.mv (i (-1)))])
 .ret)))⟩
theorem e153 : slimF Try.prog Try.f153 [] = some c153 := by kernel_rfl
end Go.Proofs.Try.S
/- Contracts: the base of a block; offsets packed; bases made block by block. -/
namespace Go.Proofs.Try.K
open Go Go.Ax Go.Proofs.Try.S
set_option maxRecDepth 100000
set_option linter.unusedSimpArgs false
set_option linter.unusedVariables false
set_option maxHeartbeats 1000000
variable (F : Fz) (M : Hp)

structure OfbI (l : List Ba) (u : Value) (b : Int) (F0 : Fz) (M0 : Hp) (r4 : Nat) (m : Nat) (σ : Env) (F : Fz) (M : Hp) : Prop where
  ff : F = F0
  kp : Keep M0 M
  old : Old F0 M
  f4 : M r4 = some ⟨[.int .i64 0, .int .i64 0, .bool false, .int .i64 0, .int .i64 0, .int .i64 0, .int .i64 0], 87, 7⟩
  h1 : Ax.look σ 1 = some (.int .i64 b)
  h4 : Ax.look σ 4 = some (.pointer (some ⟨r4, 0, none⟩))
  h7 : Ax.look σ 7 = some u
  h8 : Ax.look σ 8 = some (.int .i64 l.length)
  st : ∃ i : Nat, i + m = l.length ∧ Ax.look σ 9 = some (.int .i64 i) ∧ ofB l b = ofB (l.drop i) b
theorem k151 (u : Value) (l : List Ba) (b : Int) (h : RdG 7 Ba.cs F M u l) (hold : Old F M) : CallsA Try.prog 151 [u, .int .i64 b] F M (Same F M (ofB l b).val) := by
  refine callsA_of hm Try.func151 e151 (Nat.le_of_ble_eq_true rfl) ?_
  have h' := h
  obtain ⟨_, ad, cap, _, rfl, _⟩ := h
  simp only [c151, go_sem, reduceCtorEq, reduceIte, Nat.reduceEqDiff, Nat.reduceAdd, Nat.reduceLeDiff, Nat.reduceMul, Int.reduceLT, Int.reduceLE, Int.reduceAdd, Int.reduceSub, Int.reduceMul, Int.reduceNeg, Int.reduceToNat, Int.reduceEq]
  intro r4 hF4 hM4
  simp only [go_sem, reduceCtorEq, reduceIte, Nat.reduceEqDiff, Nat.reduceAdd, Nat.reduceLeDiff, Nat.reduceMul, Int.reduceLT, Int.reduceLE, Int.reduceAdd, Int.reduceSub, Int.reduceMul, Int.reduceNeg, Int.reduceToNat, Int.reduceEq]
  refine loop_of (OfbI l (.slice ad l.length cap) b F M r4) l.length ?_ ?_
  · exact ⟨rfl, (Keep.refl _).new hM4, hold.upd hF4, Hp.upd_same _ _ _, by simp only [go_sem, reduceCtorEq, reduceIte, Nat.reduceEqDiff], by simp only [go_sem, reduceCtorEq, reduceIte, Nat.reduceEqDiff], by simp only [go_sem, reduceCtorEq, reduceIte, Nat.reduceEqDiff], by simp only [go_sem, reduceCtorEq, reduceIte, Nat.reduceEqDiff], 0, by omega, by simp only [go_sem, reduceCtorEq, reduceIte, Nat.reduceEqDiff] <;> rfl, rfl⟩
  rintro m σ F' M' s
  obtain ⟨i, hi, h9, he⟩ := s.st
  obtain rfl := s.ff
  by_cases hil : (i : Int) < l.length
  rotate_left
  · have : l.drop i = [] := List.drop_eq_nil_of_le (by omega)
    rw [this] at he
    have he2 : ofB l b = ⟨b, V.nothing 8⟩ := he
    have f4 := s.f4
    simp only [go_sem, reduceCtorEq, reduceIte, Nat.reduceEqDiff, Nat.reduceAdd, Nat.reduceLeDiff, Nat.reduceMul, Int.reduceLT, Int.reduceLE, Int.reduceAdd, Int.reduceSub, Int.reduceMul, Int.reduceNeg, Int.reduceToNat, Int.reduceEq, s.h1, s.h4, s.h7, s.h8, h9, hil]
    refine callK_same (k115 _ _ 8) ?_
    simp only [go_sem, reduceCtorEq, reduceIte, Nat.reduceEqDiff, Nat.reduceAdd, Nat.reduceLeDiff, Nat.reduceMul, Int.reduceLT, Int.reduceLE, Int.reduceAdd, Int.reduceSub, Int.reduceMul, Int.reduceNeg, Int.reduceToNat, Int.reduceEq, s.h1, s.h4, s.h7, s.h8, h9, f4]
    simp only [setH, go_sem, reduceCtorEq, reduceIte, Nat.reduceEqDiff, Nat.reduceAdd, Nat.reduceLeDiff, Nat.reduceMul, Int.reduceLT, Int.reduceLE, Int.reduceAdd, Int.reduceSub, Int.reduceMul, Int.reduceNeg, Int.reduceToNat, Int.reduceEq]
    exact endK_keep (s.kp.new hM4) ⟨by rw [he2], rfl, rfl⟩
  have hi0 : (0 : Int) ≤ i := by omega
  have hil' : i < l.length := by omega
  have ei : IntKind.i64.wrap ((i : Int) + 1) = i + 1 := w64 (by omega) (by omega)
  obtain ⟨_, _, _, _, eu, hrd⟩ := h'.keep s.kp s.old
  cases eu
  rcases hrd with h | ⟨bb, o, cs, rfl, hb, hc⟩
  · rw [h] at hil'; simp at hil'
  obtain ⟨d1, d2⟩ := hc i hil'
  have hcons : ofB (l.drop i) b = if l[i].b = b then l[i] else ofB (l.drop (i + 1)) b := by
    rw [List.drop_eq_getElem_cons hil']
    unfold ofB
    rw [List.find?_cons]
    by_cases hx : l[i].b = b <;> simp [hx]
  generalize l[i] = x at *
  simp only [go_sem, reduceCtorEq, reduceIte, Nat.reduceEqDiff, Nat.reduceAdd, Nat.reduceLeDiff, Nat.reduceMul, Int.reduceLT, Int.reduceLE, Int.reduceAdd, Int.reduceSub, Int.reduceMul, Int.reduceNeg, Int.reduceToNat, Int.reduceEq, s.h1, s.h4, s.h7, s.h8, h9, hil, hi0, Int.toNat_natCast, hb, d1, d2]
  intro r6 hF6 hM6
  have g6 := ne_of_none hM6 s.f4
  have f4 := s.f4
  by_cases hx : x.b = b
  · rw [if_pos hx] at hcons
    simp only [go_sem, reduceCtorEq, reduceIte, Nat.reduceEqDiff, Nat.reduceAdd, Nat.reduceLeDiff, Nat.reduceMul, Int.reduceLT, Int.reduceLE, Int.reduceAdd, Int.reduceSub, Int.reduceMul, Int.reduceNeg, Int.reduceToNat, Int.reduceEq, s.h1, s.h4, s.h7, s.h8, h9, hx, g6, f4]
    simp only [setH, go_sem, reduceCtorEq, reduceIte, Nat.reduceEqDiff, Nat.reduceAdd, Nat.reduceLeDiff, Nat.reduceMul, Int.reduceLT, Int.reduceLE, Int.reduceAdd, Int.reduceSub, Int.reduceMul, Int.reduceNeg, Int.reduceToNat, Int.reduceEq, g6, f4]
    refine endK_keep ((s.kp.new hM4).new (s.kp.free hM6)) ⟨by rw [he, hcons], rfl, rfl⟩
  · rw [if_neg hx] at hcons
    simp only [go_sem, reduceCtorEq, reduceIte, Nat.reduceEqDiff, Nat.reduceAdd, Nat.reduceLeDiff, Nat.reduceMul, Int.reduceLT, Int.reduceLE, Int.reduceAdd, Int.reduceSub, Int.reduceMul, Int.reduceNeg, Int.reduceToNat, Int.reduceEq, s.h1, s.h4, s.h7, s.h8, h9, hx, g6, ei]
    exact ⟨m - 1, by omega, rfl, s.kp.new (s.kp.free hM6), s.old.upd hF6, by rw [Hp.upd_ne' g6.1]; exact s.f4, by simp only [go_sem, reduceCtorEq, reduceIte, Nat.reduceEqDiff, s.h1], by simp only [go_sem, reduceCtorEq, reduceIte, Nat.reduceEqDiff, s.h4], by simp only [go_sem, reduceCtorEq, reduceIte, Nat.reduceEqDiff, s.h7], by simp only [go_sem, reduceCtorEq, reduceIte, Nat.reduceEqDiff, s.h8], i + 1, by omega, by simp only [go_sem, reduceCtorEq, reduceIte, Nat.reduceEqDiff]; rfl, by rw [he, hcons]⟩

/-- Offsets packed. -/
structure PackR (ns : List Int) (v : V) : Prop where
  ok : v.ok = true
  w : v.w = 8
  all : ∀ n ∈ ns, v.has n = true
  one : ∀ n0, (∀ n ∈ ns, n = n0) → ∀ y, 0 ≤ y → y ≤ 255 → v.has y = true → y = n0
theorem most8 : mostV 8 = 255 := by decide
theorem PackR.next {ns : List Int} {n : Int} {v z : V} (h : PackR ns v) (h0 : 0 ≤ n) (h1 : n ≤ 255) (hn : ∀ y ∈ ns, 0 ≤ y ∧ y ≤ 255) (b : BothR v (V.just 8 n) z) : PackR (ns ++ [n]) z := by
  have hw := b.w
  rw [h.w] at hw
  have hvw := h.w
  have hjn : (V.just 8 n).has n = true := by rw [just_has h0 (by omega)]; simp
  refine ⟨b.ok, hw, fun y hy => ?_, fun n0 ha y y0 y1 hy => ?_⟩
  · rcases List.mem_append.1 hy with hy | hy
    · have := hn y hy
      exact b.left y this.1 (by rw [hvw, most8]; exact this.2) (h.all y hy)
    · simp at hy; subst hy
      exact b.right y h0 (by show y ≤ mostV 8; rw [most8]; exact h1) hjn
  · refine b.one n0 (fun t t0 t1 ht => ?_) y y0 (by rw [hvw, most8]; exact y1) hy
    rw [hvw, most8] at t1
    rcases ht with ht | ht
    · exact h.one n0 (fun q hq => ha q (by simp [hq])) t t0 t1 ht
    · rw [just_has t0 (by omega), decide_eq_true_eq] at ht
      rw [ht]; exact ha n (by simp)
structure PkI (ns : List Int) (u : Value) (b : Int) (F0 : Fz) (M0 : Hp) (r4 r5 : Nat) (m : Nat) (σ : Env) (F : Fz) (M : Hp) : Prop where
  ff : F = F0
  f4 : M r4 = some ⟨[.int .i64 0, .int .i64 0, .bool false, .int .i64 0, .int .i64 0, .int .i64 0, .int .i64 0], 87, 7⟩
  h0 : Ax.look σ 0 = some (.int .i64 b)
  h4 : Ax.look σ 4 = some (.pointer (some ⟨r4, 0, none⟩))
  h5 : Ax.look σ 5 = some (.pointer (some ⟨r5, 0, none⟩))
  h9 : Ax.look σ 9 = some u
  h10 : Ax.look σ 10 = some (.int .i64 ns.length)
  st : ∃ (i : Nat) (v : V), i + m = ns.length ∧ Ax.look σ 11 = some (.int .i64 i) ∧ M = (M0.upd r4 ⟨[.int .i64 0, .int .i64 0, .bool false, .int .i64 0, .int .i64 0, .int .i64 0, .int .i64 0], 87, 7⟩).upd r5 ⟨v.cs, 34, 6⟩ ∧ PackR (ns.take i) v
def packA (ns : List Int) (b : Int) (F : Fz) (M : Hp) (u : Value) (F' : Fz) (M' : Hp) : Prop := F' = F ∧ M' = M ∧ ∃ v, u = (Ba.mk b v).val ∧ PackR ns v
theorem k128 (u : Value) (ns : List Int) (b : Int) (h : RdG 1 intC F M u ns) (hns : ∀ n ∈ ns, 0 ≤ n ∧ n ≤ 255) : CallsA Try.prog 128 [.int .i64 b, u] F M (packA ns b F M) := by
  refine callsA_of hm Try.func128 e128 (Nat.le_of_ble_eq_true rfl) ?_
  have h' := h
  obtain ⟨_, ad, cap, _, rfl, _⟩ := h
  simp only [c128, go_sem, reduceCtorEq, reduceIte, Nat.reduceEqDiff, Nat.reduceAdd, Nat.reduceLeDiff, Nat.reduceMul, Int.reduceLT, Int.reduceLE, Int.reduceAdd, Int.reduceSub, Int.reduceMul, Int.reduceNeg, Int.reduceToNat, Int.reduceEq]
  intro r4 hF4 hM4
  simp only [go_sem, reduceCtorEq, reduceIte, Nat.reduceEqDiff, Nat.reduceAdd, Nat.reduceLeDiff, Nat.reduceMul, Int.reduceLT, Int.reduceLE, Int.reduceAdd, Int.reduceSub, Int.reduceMul, Int.reduceNeg, Int.reduceToNat, Int.reduceEq]
  refine callK_same (k115 _ _ 8) ?_
  simp only [go_sem, reduceCtorEq, reduceIte, Nat.reduceEqDiff, Nat.reduceAdd, Nat.reduceLeDiff, Nat.reduceMul, Int.reduceLT, Int.reduceLE, Int.reduceAdd, Int.reduceSub, Int.reduceMul, Int.reduceNeg, Int.reduceToNat, Int.reduceEq]
  intro r5 hF5 hM5
  have g5 := fresh_of hM5
  have hrd := (h'.new hF4 hM4 (e := ⟨[.int .i64 0, .int .i64 0, .bool false, .int .i64 0, .int .i64 0, .int .i64 0, .int .i64 0], 87, 7⟩))
  simp only [go_sem, reduceCtorEq, reduceIte, Nat.reduceEqDiff, Nat.reduceAdd, Nat.reduceLeDiff, Nat.reduceMul, Int.reduceLT, Int.reduceLE, Int.reduceAdd, Int.reduceSub, Int.reduceMul, Int.reduceNeg, Int.reduceToNat, Int.reduceEq, g5]
  refine loop_of (PkI ns (.slice ad ns.length cap) b F M r4 r5) ns.length ?_ ?_
  · exact ⟨rfl, by rw [Hp.upd_ne' g5.2.1]; exact Hp.upd_same _ _ _, by simp only [go_sem, reduceCtorEq, reduceIte, Nat.reduceEqDiff], by simp only [go_sem, reduceCtorEq, reduceIte, Nat.reduceEqDiff], by simp only [go_sem, reduceCtorEq, reduceIte, Nat.reduceEqDiff], by simp only [go_sem, reduceCtorEq, reduceIte, Nat.reduceEqDiff], by simp only [go_sem, reduceCtorEq, reduceIte, Nat.reduceEqDiff], 0, V.nothing 8, by omega, by simp only [go_sem, reduceCtorEq, reduceIte, Nat.reduceEqDiff] <;> rfl, rfl, by decide, rfl, by simp, fun _ _ _ _ _ h => by cases h⟩
  rintro m σ F' M' s
  obtain ⟨i, v, hi, h11, hM', pk⟩ := s.st
  obtain rfl := s.ff
  have f4 := s.f4
  subst hM'
  by_cases hil : (i : Int) < ns.length
  rotate_left
  · have : ns.take i = ns := List.take_of_length_le (by omega)
    rw [this] at pk
    simp only [go_sem, reduceCtorEq, reduceIte, Nat.reduceEqDiff, Nat.reduceAdd, Nat.reduceLeDiff, Nat.reduceMul, Int.reduceLT, Int.reduceLE, Int.reduceAdd, Int.reduceSub, Int.reduceMul, Int.reduceNeg, Int.reduceToNat, Int.reduceEq, s.h0, s.h4, s.h5, s.h9, s.h10, h11, hil, g5]
    exact endK_drop (by rw [Hp.upd_ne' g5.1]; exact g5.2.2) (endK_drop hM4 (endK_same ⟨rfl, rfl, v, rfl, pk⟩))
  have hi0 : (0 : Int) ≤ i := by omega
  have hil' : i < ns.length := by omega
  have ei : IntKind.i64.wrap ((i : Int) + 1) = i + 1 := w64 (by omega) (by omega)
  have hrd2 := hrd.new hF5 hM5 (e := ⟨v.cs, 34, 6⟩)
  obtain ⟨_, _, _, _, eu, hr⟩ := hrd2
  cases eu
  rcases hr with h | ⟨bb, o, cs, rfl, hb, hc⟩
  · rw [h] at hil'; simp at hil'
  obtain ⟨d1, d2⟩ := hc i hil'
  have d3 := one_row d2
  rw [Nat.mul_one] at d3
  simp only [intV] at d3
  have hn := hns ns[i] (List.getElem_mem _)
  have htk := List.take_succ_eq_append_getElem hil'
  have hnt : ∀ y ∈ ns.take i, 0 ≤ y ∧ y ≤ 255 := fun y hy => hns y (List.mem_of_mem_take hy)
  generalize ns[i] = n at *
  have isn : isN n 8 = true := by simp [isN, most8]; omega
  simp only [go_sem, reduceCtorEq, reduceIte, Nat.reduceEqDiff, Nat.reduceAdd, Nat.reduceLeDiff, Nat.reduceMul, Int.reduceLT, Int.reduceLE, Int.reduceAdd, Int.reduceSub, Int.reduceMul, Int.reduceNeg, Int.reduceToNat, Int.reduceEq, s.h0, s.h4, s.h5, s.h9, s.h10, h11, hil, hi0, Int.toNat_natCast, Nat.mul_one, hb, d3, g5]
  refine callK_same (k100 _ _ 8 n) ?_
  simp only [go_sem, reduceCtorEq, reduceIte, Nat.reduceEqDiff, Nat.reduceAdd, Nat.reduceLeDiff, Nat.reduceMul, Int.reduceLT, Int.reduceLE, Int.reduceAdd, Int.reduceSub, Int.reduceMul, Int.reduceNeg, Int.reduceToNat, Int.reduceEq, s.h0, s.h4, s.h5, s.h9, s.h10, h11, g5]
  refine callK_of (k125 _ _ v (V.just 8 n) pk.ok (just_ok (by decide) isn) (by rw [pk.w]; rfl)) ?_
  rintro w G M2 ⟨hG, hM2, z, rfl, bz⟩
  rw [hG, hM2]
  refine ⟨fun _ => Le.refl _ _, ?_⟩
  simp only [go_sem, reduceCtorEq, reduceIte, Nat.reduceEqDiff, Nat.reduceAdd, Nat.reduceLeDiff, Nat.reduceMul, Int.reduceLT, Int.reduceLE, Int.reduceAdd, Int.reduceSub, Int.reduceMul, Int.reduceNeg, Int.reduceToNat, Int.reduceEq, s.h0, s.h4, s.h5, s.h9, s.h10, h11, g5, ei]
  exact ⟨m - 1, by omega, rfl, by rw [Hp.upd_ne' g5.2.1]; exact Hp.upd_same _ _ _, by simp only [go_sem, reduceCtorEq, reduceIte, Nat.reduceEqDiff, s.h0], by simp only [go_sem, reduceCtorEq, reduceIte, Nat.reduceEqDiff, s.h4], by simp only [go_sem, reduceCtorEq, reduceIte, Nat.reduceEqDiff, s.h5], by simp only [go_sem, reduceCtorEq, reduceIte, Nat.reduceEqDiff, s.h9], by simp only [go_sem, reduceCtorEq, reduceIte, Nat.reduceEqDiff, s.h10], i + 1, z, by omega, by simp only [go_sem, reduceCtorEq, reduceIte, Nat.reduceEqDiff]; rfl, rfl, by rw [htk]; exact pk.next hn.1 hn.2 hnt bz⟩
/-- What a closure does with two bases of a block. -/
def DoC (g : Nat) (R : Ba → Ba → Ba → Prop) (Pre : Ba → Ba → Prop) : Prop :=
  ∀ (F : Fz) (M : Hp) (x y : Ba), Old F M → Pre x y → CallsA Try.prog g [x.val, y.val] F M fun u F' M' => F' = F ∧ M' = M ∧ ∃ z, u = z.val ∧ R x y z
def eachR (R : Ba → Ba → Ba → Prop) (l1 l2 : List Ba) (F : Fz) (M : Hp) (u : Value) (F' : Fz) (M' : Hp) : Prop :=
  ∃ z : Nat → Ba, (∀ b : Nat, b < 7 → R (ofB l1 b) (ofB l2 b) (z b)) ∧ rowR 7 Ba.cs 87 (eachL z 7) F M u F' M'
structure EcI (R : Ba → Ba → Ba → Prop) (l1 l2 : List Ba) (u1 u2 f : Value) (F0 : Fz) (M0 : Hp) (m : Nat) (σ : Env) (F : Fz) (M : Hp) : Prop where
  ff : F = F0
  kp : Keep M0 M
  old : Old F0 M
  h0 : Ax.look σ 0 = some u1
  h1 : Ax.look σ 1 = some u2
  h2 : Ax.look σ 2 = some f
  st : ∃ (i : Nat) (w : Value) (z : Nat → Ba), i + m = 7 ∧ Ax.look σ 9 = some (.int .i64 i) ∧ Ax.look σ 6 = some w ∧ MineG 7 Ba.cs 87 F0 M0 M w (eachL z i) ∧ ∀ b : Nat, b < i → R (ofB l1 b) (ofB l2 b) (z b)
theorem eachL_congr {z z' : Nat → Ba} {n : Nat} (h : ∀ i, i < n → z i = z' i) : eachL z n = eachL z' n := by
  unfold eachL
  have : (List.range n).map z = (List.range n).map z' := List.map_congr_left (fun i hi => h i (by simpa using hi))
  rw [this]
theorem k126 (g : Nat) (R : Ba → Ba → Ba → Prop) (Pre : Ba → Ba → Prop) (hdo : DoC g R Pre) (hR : ∀ x y z, R x y z → z.v.ok = true) (u1 u2 : Value) (l1 l2 : List Ba) (h1 : RdG 7 Ba.cs F M u1 l1) (h2 : RdG 7 Ba.cs F M u2 l2) (hold : Old F M) (hpre : ∀ b : Nat, b < 7 → Pre (ofB l1 b) (ofB l2 b)) :
    CallsA Try.prog 126 [u1, u2, .func (.func g) #[] #[]] F M (eachR R l1 l2 F M) := by
  refine callsA_of hm Try.func126 e126 (Nat.le_of_ble_eq_true rfl) ?_
  simp only [c126, go_sem, reduceCtorEq, reduceIte, Nat.reduceEqDiff, Nat.reduceAdd, Nat.reduceLeDiff, Nat.reduceMul, Int.reduceLT, Int.reduceLE, Int.reduceAdd, Int.reduceSub, Int.reduceMul, Int.reduceNeg, Int.reduceToNat, Int.reduceEq]
  refine loop_of (EcI R l1 l2 u1 u2 (.func (.func g) #[] #[]) F M) 7 ?_ ?_
  · exact ⟨rfl, Keep.refl _, hold, by simp only [go_sem, reduceCtorEq, reduceIte, Nat.reduceEqDiff], by simp only [go_sem, reduceCtorEq, reduceIte, Nat.reduceEqDiff], by simp only [go_sem, reduceCtorEq, reduceIte, Nat.reduceEqDiff], 0, _, fun _ => ⟨0, V.nothing 8⟩, by omega, by simp only [go_sem, reduceCtorEq, reduceIte, Nat.reduceEqDiff] <;> rfl, by simp only [go_sem, reduceCtorEq, reduceIte, Nat.reduceEqDiff]; rfl, by simp only [eachL]; exact MineG.nil, by omega⟩
  rintro m σ F' M1 s
  obtain ⟨i, w, z, hi, h9, h6, mine, hz⟩ := s.st
  obtain rfl := s.ff
  by_cases hi7 : (i : Int) < 7
  rotate_left
  · have : i = 7 := by omega
    subst this
    simp only [go_sem, reduceCtorEq, reduceIte, Nat.reduceEqDiff, Nat.reduceAdd, Nat.reduceLeDiff, Nat.reduceMul, Int.reduceLT, Int.reduceLE, Int.reduceAdd, Int.reduceSub, Int.reduceMul, Int.reduceNeg, Int.reduceToNat, Int.reduceEq, s.h0, s.h1, s.h2, h9, h6]
    obtain ⟨M5, k1, k2, hr⟩ := mine.alone s.kp
    exact ⟨F', M5, k1.wk F', z, hz, hr⟩
  have ei : IntKind.i64.wrap ((i : Int) + 1) = i + 1 := w64 (by omega) (by omega)
  have r1 := h1.keep s.kp s.old
  have r2 := h2.keep s.kp s.old
  simp only [go_sem, reduceCtorEq, reduceIte, Nat.reduceEqDiff, Nat.reduceAdd, Nat.reduceLeDiff, Nat.reduceMul, Int.reduceLT, Int.reduceLE, Int.reduceAdd, Int.reduceSub, Int.reduceMul, Int.reduceNeg, Int.reduceToNat, Int.reduceEq, s.h0, s.h1, s.h2, h9, h6, hi7]
  refine callK_same (k151 _ _ _ l1 i r1 s.old) ?_
  simp only [go_sem, reduceCtorEq, reduceIte, Nat.reduceEqDiff, Nat.reduceAdd, Nat.reduceLeDiff, Nat.reduceMul, Int.reduceLT, Int.reduceLE, Int.reduceAdd, Int.reduceSub, Int.reduceMul, Int.reduceNeg, Int.reduceToNat, Int.reduceEq, s.h0, s.h1, s.h2, h9, h6]
  refine callK_same (k151 _ _ _ l2 i r2 s.old) ?_
  simp only [go_sem, reduceCtorEq, reduceIte, Nat.reduceEqDiff, Nat.reduceAdd, Nat.reduceLeDiff, Nat.reduceMul, Int.reduceLT, Int.reduceLE, Int.reduceAdd, Int.reduceSub, Int.reduceMul, Int.reduceNeg, Int.reduceToNat, Int.reduceEq, s.h0, s.h1, s.h2, h9, h6]
  refine callK_of (hdo _ _ (ofB l1 i) (ofB l2 i) s.old (hpre i (by omega))) ?_
  rintro v G M2 ⟨hG, hM2, zi, rfl, hzi⟩
  rw [hG, hM2]
  refine ⟨(fun h => by cases h), ?_⟩
  have hzok := hR _ _ _ hzi
  simp only [go_sem, reduceCtorEq, reduceIte, Nat.reduceEqDiff, Nat.reduceAdd, Nat.reduceLeDiff, Nat.reduceMul, Int.reduceLT, Int.reduceLE, Int.reduceAdd, Int.reduceSub, Int.reduceMul, Int.reduceNeg, Int.reduceToNat, Int.reduceEq, s.h0, s.h1, s.h2, h9, h6]
  intro r8 hF8 hM8
  simp only [go_sem, reduceCtorEq, reduceIte, Nat.reduceEqDiff, Nat.reduceAdd, Nat.reduceLeDiff, Nat.reduceMul, Int.reduceLT, Int.reduceLE, Int.reduceAdd, Int.reduceSub, Int.reduceMul, Int.reduceNeg, Int.reduceToNat, Int.reduceEq, s.h0, s.h1, s.h2, h9, h6]
  refine callK_of (k108 _ _ zi hzok) ?_
  rintro q G M3 hq
  have hol := zi.v.offs_len
  obtain ⟨hG, le, kq, oq, aq, cq, rfl, rdq⟩ := hq.le intC_len (by omega)
  rw [hG]
  refine ⟨(fun h => by cases h), ?_⟩
  have old3 := oq (s.old.upd hF8)
  have kp3 : Keep M1 M3 := ((Keep.refl M1).new hM8).trans kq
  have f8 : M3 r8 = some ⟨zi.cs, 87, 7⟩ := kq _ _ (Hp.upd_same _ _ _)
  have b8 := blk_M (F := F') f8
  have mine3 := mine.keep kp3
  let z' : Nat → Ba := fun j => if j = i then zi else z j
  have hz' : ∀ b : Nat, b < i + 1 → R (ofB l1 b) (ofB l2 b) (z' b) := by
    intro b hb
    by_cases e : b = i
    · subst e; simp only [z', if_true]; exact hzi
    · simp only [z', e, if_false]; exact hz b (by omega)
  have hzz : eachL z i = eachL z' i := eachL_congr (fun j hj => by simp only [z']; rw [if_neg (by omega)])
  have hsucc := eachL_succ z' i
  have hzi' : z' i = zi := by simp [z']
  rw [hzi', ← hzz] at hsucc
  by_cases hpos : (0 : Int) < zi.v.offs.length
  rotate_left
  · rw [if_neg (by omega), List.append_nil] at hsucc
    simp only [go_sem, reduceCtorEq, reduceIte, Nat.reduceEqDiff, Nat.reduceAdd, Nat.reduceLeDiff, Nat.reduceMul, Int.reduceLT, Int.reduceLE, Int.reduceAdd, Int.reduceSub, Int.reduceMul, Int.reduceNeg, Int.reduceToNat, Int.reduceEq, s.h0, s.h1, s.h2, h9, h6, hpos, ei]
    exact ⟨m - 1, by omega, rfl, s.kp.trans kp3, old3, by simp only [go_sem, reduceCtorEq, reduceIte, Nat.reduceEqDiff, s.h0], by simp only [go_sem, reduceCtorEq, reduceIte, Nat.reduceEqDiff, s.h1], by simp only [go_sem, reduceCtorEq, reduceIte, Nat.reduceEqDiff, s.h2], i + 1, w, z', by omega, by simp only [go_sem, reduceCtorEq, reduceIte, Nat.reduceEqDiff]; rfl, by simp only [go_sem, reduceCtorEq, reduceIte, Nat.reduceEqDiff, h6], by rw [hsucc]; exact mine3, hz'⟩
  · rw [if_pos (by omega)] at hsucc
    have hel := eachL_len z i
    simp only [go_sem, reduceCtorEq, reduceIte, Nat.reduceEqDiff, Nat.reduceAdd, Nat.reduceLeDiff, Nat.reduceMul, Int.reduceLT, Int.reduceLE, Int.reduceAdd, Int.reduceSub, Int.reduceMul, Int.reduceNeg, Int.reduceToNat, Int.reduceEq, s.h0, s.h1, s.h2, h9, h6, hpos, b8]
    intro rb hFb hMb
    simp only [go_sem, reduceCtorEq, reduceIte, Nat.reduceEqDiff, Nat.reduceAdd, Nat.reduceLeDiff, Nat.reduceMul, Int.reduceLT, Int.reduceLE, Int.reduceAdd, Int.reduceSub, Int.reduceMul, Int.reduceNeg, Int.reduceToNat, Int.reduceEq, s.h0, s.h1, s.h2, h9, h6]
    refine apMG_of (xs := eachL z i) (ys := [zi]) (fun x => rfl) Ba.plain (by decide) (mine3.fresh hMb) ((s.kp.trans kp3).new ((s.kp.trans kp3).free hMb)) ⟨rfl, .inr ⟨⟨rb, 0, none⟩, 1, rfl, .inr ⟨rb, 0, _, rfl, blk_upd_same, by simp [Ba.take7]⟩⟩⟩ (by simp) (by simp; omega) ?_
    rintro v' M5 _ hfr kp5 ho5 mine5
    rw [← hsucc] at mine5
    simp only [go_sem, reduceCtorEq, reduceIte, Nat.reduceEqDiff, Nat.reduceAdd, Nat.reduceLeDiff, Nat.reduceMul, Int.reduceLT, Int.reduceLE, Int.reduceAdd, Int.reduceSub, Int.reduceMul, Int.reduceNeg, Int.reduceToNat, Int.reduceEq, s.h0, s.h1, s.h2, h9, h6, ei]
    exact ⟨m - 1, by omega, rfl, kp5, ho5 (old3.upd hFb), by simp only [go_sem, reduceCtorEq, reduceIte, Nat.reduceEqDiff, s.h0], by simp only [go_sem, reduceCtorEq, reduceIte, Nat.reduceEqDiff, s.h1], by simp only [go_sem, reduceCtorEq, reduceIte, Nat.reduceEqDiff, s.h2], i + 1, v', z', by omega, by simp only [go_sem, reduceCtorEq, reduceIte, Nat.reduceEqDiff]; rfl, by simp only [go_sem, reduceCtorEq, reduceIte, Nat.reduceEqDiff], mine5, hz'⟩
end Go.Proofs.Try.K

/- Contracts: two sets together, and what both have. -/
namespace Go.Proofs.Try.K
open Go Go.Ax Go.Proofs.Try.S
set_option maxRecDepth 100000
set_option linter.unusedSimpArgs false
set_option linter.unusedVariables false
set_option maxHeartbeats 1000000
variable (F : Fz) (M : Hp)

theorem both_do : DoC 127 BothB PreB := by
  intro F M x y hold hpre
  refine callsA_of hm Try.func127 e127 (Nat.le_of_ble_eq_true rfl) ?_
  simp only [c127, go_sem, reduceCtorEq, reduceIte, Nat.reduceEqDiff, Nat.reduceAdd, Nat.reduceLeDiff, Nat.reduceMul, Int.reduceLT, Int.reduceLE, Int.reduceAdd, Int.reduceSub, Int.reduceMul, Int.reduceNeg, Int.reduceToNat, Int.reduceEq]
  intro r2 hF2 hM2
  simp only [go_sem, reduceCtorEq, reduceIte, Nat.reduceEqDiff, Nat.reduceAdd, Nat.reduceLeDiff, Nat.reduceMul, Int.reduceLT, Int.reduceLE, Int.reduceAdd, Int.reduceSub, Int.reduceMul, Int.reduceNeg, Int.reduceToNat, Int.reduceEq]
  intro r3 hF3 hM3
  have g3 := fresh_of hM3
  simp only [go_sem, reduceCtorEq, reduceIte, Nat.reduceEqDiff, Nat.reduceAdd, Nat.reduceLeDiff, Nat.reduceMul, Int.reduceLT, Int.reduceLE, Int.reduceAdd, Int.reduceSub, Int.reduceMul, Int.reduceNeg, Int.reduceToNat, Int.reduceEq, g3]
  intro r4 hF4 hM4
  have g4 := fresh_of hM4
  have g42 := fresh_of g4.2.2
  simp only [go_sem, reduceCtorEq, reduceIte, Nat.reduceEqDiff, Nat.reduceAdd, Nat.reduceLeDiff, Nat.reduceMul, Int.reduceLT, Int.reduceLE, Int.reduceAdd, Int.reduceSub, Int.reduceMul, Int.reduceNeg, Int.reduceToNat, Int.reduceEq, g3, g4, g42]
  refine callK_of (k108 _ _ x hpre.okx) ?_
  have kp0 : Keep M (((M.upd r2 ⟨x.cs, 87, 7⟩).upd r3 ⟨y.cs, 87, 7⟩).upd r4 ⟨[.int .i64 0, .int .i64 0, .bool false, .int .i64 0, .int .i64 0, .int .i64 0, .int .i64 0], 87, 7⟩) := (((Keep.refl M).new hM2).new g3.2.2).new g42.2.2
  have old0 : Old F (((M.upd r2 ⟨x.cs, 87, 7⟩).upd r3 ⟨y.cs, 87, 7⟩).upd r4 ⟨[.int .i64 0, .int .i64 0, .bool false, .int .i64 0, .int .i64 0, .int .i64 0, .int .i64 0], 87, 7⟩) := ((hold.upd hF2).upd hF3).upd hF4
  have f2 : (((M.upd r2 ⟨x.cs, 87, 7⟩).upd r3 ⟨y.cs, 87, 7⟩).upd r4 ⟨[.int .i64 0, .int .i64 0, .bool false, .int .i64 0, .int .i64 0, .int .i64 0, .int .i64 0], 87, 7⟩) r2 = some ⟨x.cs, 87, 7⟩ := by
    rw [Hp.upd_ne' g42.2.1, Hp.upd_ne' g3.2.1]; exact Hp.upd_same _ _ _
  have f4 : (((M.upd r2 ⟨x.cs, 87, 7⟩).upd r3 ⟨y.cs, 87, 7⟩).upd r4 ⟨[.int .i64 0, .int .i64 0, .bool false, .int .i64 0, .int .i64 0, .int .i64 0, .int .i64 0], 87, 7⟩) r4 = some ⟨[.int .i64 0, .int .i64 0, .bool false, .int .i64 0, .int .i64 0, .int .i64 0, .int .i64 0], 87, 7⟩ := Hp.upd_same _ _ _
  have n4 : M r4 = none := g42.2.2
  have n24 : ¬ r2 = r4 := g42.2.1
  generalize ((M.upd r2 ⟨x.cs, 87, 7⟩).upd r3 ⟨y.cs, 87, 7⟩).upd r4 ⟨[.int .i64 0, .int .i64 0, .bool false, .int .i64 0, .int .i64 0, .int .i64 0, .int .i64 0], 87, 7⟩ = M1 at *
  rintro q G M2 hq
  have hol1 := x.v.offs_len
  have hol2 := y.v.offs_len
  obtain ⟨hG, le, kq, oq, aq, cq, rfl, rdq⟩ := hq.le intC_len (by omega)
  rw [hG] at hq ⊢
  refine ⟨fun _ => le, ?_⟩
  have mine1 := hq.mine kp0
  simp only [go_sem, reduceCtorEq, reduceIte, Nat.reduceEqDiff, Nat.reduceAdd, Nat.reduceLeDiff, Nat.reduceMul, Int.reduceLT, Int.reduceLE, Int.reduceAdd, Int.reduceSub, Int.reduceMul, Int.reduceNeg, Int.reduceToNat, Int.reduceEq, g3, g4, g42]
  refine callK_of (k108 _ _ y hpre.oky) ?_
  rintro q2 G M3 hq2
  obtain ⟨hG, le2, kq2, oq2, aq2, cq2, rfl, rdq2⟩ := hq2.le intC_len (by omega)
  rw [hG] at hq2 ⊢
  refine ⟨fun _ => le2, ?_⟩
  have mine2 := mine1.keep kq2
  simp only [go_sem, reduceCtorEq, reduceIte, Nat.reduceEqDiff, Nat.reduceAdd, Nat.reduceLeDiff, Nat.reduceMul, Int.reduceLT, Int.reduceLE, Int.reduceAdd, Int.reduceSub, Int.reduceMul, Int.reduceNeg, Int.reduceToNat, Int.reduceEq, g3, g4, g42]
  refine apMG_any (xs := x.v.offs) (ys := y.v.offs) intC_len intC_plain (by decide) mine2 ((kp0.trans kq).trans kq2) (hq2.own.src intC_len) (by omega) ?_
  rintro v' M5 hfr kp5 ho5 mine5
  have f25 : M5 r2 = some ⟨x.cs, 87, 7⟩ := hfr _ _ (kq2 _ _ (kq _ _ f2)) (by simp)
  have f45 : M5 r4 = some ⟨[.int .i64 0, .int .i64 0, .bool false, .int .i64 0, .int .i64 0, .int .i64 0, .int .i64 0], 87, 7⟩ := hfr _ _ (kq2 _ _ (kq _ _ f4)) (by simp)
  have b25 := blk_M (F := F) f25
  simp only [go_sem, reduceCtorEq, reduceIte, Nat.reduceEqDiff, Nat.reduceAdd, Nat.reduceLeDiff, Nat.reduceMul, Int.reduceLT, Int.reduceLE, Int.reduceAdd, Int.reduceSub, Int.reduceMul, Int.reduceNeg, Int.reduceToNat, Int.reduceEq, g3, g4, g42, b25]
  refine callK_of (k128 _ _ v' (x.v.offs ++ y.v.offs) x.b (mine5.own.rd intC_len (by simp; omega)) (fun n hn => ?_)) ?_
  · rcases List.mem_append.1 hn with h | h
    · have := (mem_offs hpre.okx).1 h; omega
    · have := (mem_offs hpre.oky).1 h; omega
  rintro w G M6 ⟨hG, hM6, v, rfl, pk⟩
  rw [hG, hM6]
  refine ⟨(fun h => by cases h), ?_⟩
  simp only [go_sem, reduceCtorEq, reduceIte, Nat.reduceEqDiff, Nat.reduceAdd, Nat.reduceLeDiff, Nat.reduceMul, Int.reduceLT, Int.reduceLE, Int.reduceAdd, Int.reduceSub, Int.reduceMul, Int.reduceNeg, Int.reduceToNat, Int.reduceEq, g3, g4, g42, f45]
  simp only [setH, go_sem, reduceCtorEq, reduceIte, Nat.reduceEqDiff, Nat.reduceAdd, Nat.reduceLeDiff, Nat.reduceMul, Int.reduceLT, Int.reduceLE, Int.reduceAdd, Int.reduceSub, Int.reduceMul, Int.reduceNeg, Int.reduceToNat, Int.reduceEq]
  refine endK_keep (kp5.new n4) ⟨rfl, rfl, ⟨x.b, v⟩, rfl, rfl, pk.ok, pk.w, fun o o0 o1 ho => ?_, fun n0 ha o o0 o1 ho => ?_⟩
  · refine pk.all o (List.mem_append.2 ?_)
    rcases ho with ho | ho
    · exact .inl ((mem_offs hpre.okx).2 ⟨o0, o1, ho⟩)
    · exact .inr ((mem_offs hpre.oky).2 ⟨o0, o1, ho⟩)
  · refine pk.one n0 (fun n hn => ?_) o o0 o1 ho
    rcases List.mem_append.1 hn with h | h
    · have := (mem_offs hpre.okx).1 h; exact ha n this.1 this.2.1 (.inl this.2.2)
    · have := (mem_offs hpre.oky).1 h; exact ha n this.1 this.2.1 (.inr this.2.2)
theorem cross_do : DoC 129 CrossB PreB := by
  intro F M x y hold hpre
  refine callsA_of hm Try.func129 e129 (Nat.le_of_ble_eq_true rfl) ?_
  simp only [c129, go_sem, reduceCtorEq, reduceIte, Nat.reduceEqDiff, Nat.reduceAdd, Nat.reduceLeDiff, Nat.reduceMul, Int.reduceLT, Int.reduceLE, Int.reduceAdd, Int.reduceSub, Int.reduceMul, Int.reduceNeg, Int.reduceToNat, Int.reduceEq]
  intro r2 hF2 hM2
  simp only [go_sem, reduceCtorEq, reduceIte, Nat.reduceEqDiff, Nat.reduceAdd, Nat.reduceLeDiff, Nat.reduceMul, Int.reduceLT, Int.reduceLE, Int.reduceAdd, Int.reduceSub, Int.reduceMul, Int.reduceNeg, Int.reduceToNat, Int.reduceEq]
  intro r3 hF3 hM3
  have g3 := fresh_of hM3
  simp only [go_sem, reduceCtorEq, reduceIte, Nat.reduceEqDiff, Nat.reduceAdd, Nat.reduceLeDiff, Nat.reduceMul, Int.reduceLT, Int.reduceLE, Int.reduceAdd, Int.reduceSub, Int.reduceMul, Int.reduceNeg, Int.reduceToNat, Int.reduceEq, g3]
  intro r4 hF4 hM4
  have g4 := fresh_of hM4
  have g42 := fresh_of g4.2.2
  simp only [go_sem, reduceCtorEq, reduceIte, Nat.reduceEqDiff, Nat.reduceAdd, Nat.reduceLeDiff, Nat.reduceMul, Int.reduceLT, Int.reduceLE, Int.reduceAdd, Int.reduceSub, Int.reduceMul, Int.reduceNeg, Int.reduceToNat, Int.reduceEq, g3, g4, g42]
  refine callK_of (k108 _ _ y hpre.oky) ?_
  have kp0 : Keep M (((M.upd r2 ⟨x.cs, 87, 7⟩).upd r3 ⟨y.cs, 87, 7⟩).upd r4 ⟨[.int .i64 0, .int .i64 0, .bool false, .int .i64 0, .int .i64 0, .int .i64 0, .int .i64 0], 87, 7⟩) := (((Keep.refl M).new hM2).new g3.2.2).new g42.2.2
  have f2 : (((M.upd r2 ⟨x.cs, 87, 7⟩).upd r3 ⟨y.cs, 87, 7⟩).upd r4 ⟨[.int .i64 0, .int .i64 0, .bool false, .int .i64 0, .int .i64 0, .int .i64 0, .int .i64 0], 87, 7⟩) r2 = some ⟨x.cs, 87, 7⟩ := by
    rw [Hp.upd_ne' g42.2.1, Hp.upd_ne' g3.2.1]; exact Hp.upd_same _ _ _
  have f3 : (((M.upd r2 ⟨x.cs, 87, 7⟩).upd r3 ⟨y.cs, 87, 7⟩).upd r4 ⟨[.int .i64 0, .int .i64 0, .bool false, .int .i64 0, .int .i64 0, .int .i64 0, .int .i64 0], 87, 7⟩) r3 = some ⟨y.cs, 87, 7⟩ := by
    rw [Hp.upd_ne' g4.2.1]; exact Hp.upd_same _ _ _
  have f4 : (((M.upd r2 ⟨x.cs, 87, 7⟩).upd r3 ⟨y.cs, 87, 7⟩).upd r4 ⟨[.int .i64 0, .int .i64 0, .bool false, .int .i64 0, .int .i64 0, .int .i64 0, .int .i64 0], 87, 7⟩) r4 = some ⟨[.int .i64 0, .int .i64 0, .bool false, .int .i64 0, .int .i64 0, .int .i64 0, .int .i64 0], 87, 7⟩ := Hp.upd_same _ _ _
  have n4 : M r4 = none := g42.2.2
  have n2 : M r2 = none := hM2
  have n24 : ¬ r2 = r4 := g42.2.1
  have n42 : ¬ r4 = r2 := fun h => n24 h.symm
  generalize ((M.upd r2 ⟨x.cs, 87, 7⟩).upd r3 ⟨y.cs, 87, 7⟩).upd r4 ⟨[.int .i64 0, .int .i64 0, .bool false, .int .i64 0, .int .i64 0, .int .i64 0, .int .i64 0], 87, 7⟩ = M1 at *
  rintro q G M2 hq
  have hol2 := y.v.offs_len
  obtain ⟨hG, le, kq, oq, aq, cq, rfl, rdq⟩ := hq.le intC_len (by omega)
  rw [hG]
  refine ⟨(fun h => by cases h), ?_⟩
  have f22 := kq _ _ f2
  have f32 := kq _ _ f3
  have f42 := kq _ _ f4
  have b22 := blk_M (F := F) f22
  have b32 := blk_M (F := F) f32
  have kp2 := kp0.trans kq
  by_cases hz : (y.v.offs.length : Int) = 0
  · have hnil : y.v.offs = [] := by
      have : y.v.offs.length = 0 := by omega
      simpa using this
    have hno : ∀ o, 0 ≤ o → o ≤ 32 → ¬ y.v.has o = true := fun o o0 o1 ho => by
      have := (mem_offs hpre.oky).2 ⟨o0, o1, ho⟩
      rw [hnil] at this; cases this
    simp only [go_sem, reduceCtorEq, reduceIte, Nat.reduceEqDiff, Nat.reduceAdd, Nat.reduceLeDiff, Nat.reduceMul, Int.reduceLT, Int.reduceLE, Int.reduceAdd, Int.reduceSub, Int.reduceMul, Int.reduceNeg, Int.reduceToNat, Int.reduceEq, g3, g4, g42, hz, b32, f42]
    simp only [setH, go_sem, reduceCtorEq, reduceIte, Nat.reduceEqDiff, Nat.reduceAdd, Nat.reduceLeDiff, Nat.reduceMul, Int.reduceLT, Int.reduceLE, Int.reduceAdd, Int.reduceSub, Int.reduceMul, Int.reduceNeg, Int.reduceToNat, Int.reduceEq]
    exact endK_keep (kp2.new n4) ⟨rfl, rfl, y, rfl, hpre.b, hpre.oky, hpre.wy, fun o o0 o1 ho => absurd ho (hno o o0 o1), fun o o0 o1 _ ho => absurd ho (hno o o0 o1), fun _ h => h⟩
  · simp only [go_sem, reduceCtorEq, reduceIte, Nat.reduceEqDiff, Nat.reduceAdd, Nat.reduceLeDiff, Nat.reduceMul, Int.reduceLT, Int.reduceLE, Int.reduceAdd, Int.reduceSub, Int.reduceMul, Int.reduceNeg, Int.reduceToNat, Int.reduceEq, g3, g4, g42, hz, b22, b32, f42]
    refine callK_of (k117 _ _ x.v y.v hpre.okx hpre.oky (by rw [hpre.wx, hpre.wy])) ?_
    rintro w G M6 ⟨hG, hM6, z, rfl, mz⟩
    rw [hG, hM6]
    refine ⟨(fun h => by cases h), ?_⟩
    have hm : mostV x.v.w = 255 := by rw [hpre.wx]; decide
    have es : List.take 1 x.cs ++ z.cs = (Ba.mk x.b z).cs := rfl
    simp only [go_sem, reduceCtorEq, reduceIte, Nat.reduceEqDiff, Nat.reduceAdd, Nat.reduceLeDiff, Nat.reduceMul, Int.reduceLT, Int.reduceLE, Int.reduceAdd, Int.reduceSub, Int.reduceMul, Int.reduceNeg, Int.reduceToNat, Int.reduceEq, g3, g4, g42, b22, b32, f22, f42, n42, es]
    simp only [setH, go_sem, reduceCtorEq, reduceIte, Nat.reduceEqDiff, Nat.reduceAdd, Nat.reduceLeDiff, Nat.reduceMul, Int.reduceLT, Int.reduceLE, Int.reduceAdd, Int.reduceSub, Int.reduceMul, Int.reduceNeg, Int.reduceToNat, Int.reduceEq, n24, n42, f42, es]
    refine endK_keep ((kp2.new n2).new n4) ⟨rfl, rfl, ⟨x.b, z⟩, rfl, rfl, mz.ok, by rw [mz.w, hpre.wx], fun o o0 o1 ho => ?_, fun o o0 o1 h1 h2 => ?_, fun h1 h2 o o0 o1 ho => ?_⟩
    · exact mz.left o o0 (by rw [mz.w, hm]; omega) ho
    · exact mz.both o o0 (by omega) h1 h2
    · exact h1 o o0 o1 (mz.left o o0 (by rw [mz.w, hm]; omega) ho)
def bothR15 (k : Int) (v1 : V) (l1 : List Ba) (v2 : V) (l2 : List Ba) (F : Fz) (M : Hp) (u : Value) (F' : Fz) (M' : Hp) : Prop :=
  ∃ v l, BothA k v1 l1 v2 l2 v l ∧ l.length ≤ 7 ∧ cpR v l F M u F' M'
theorem k92 (k : Int) (v1 v2 : V) (u1 u2 : Value) (l1 l2 : List Ba) (h1 : RdG 7 Ba.cs F M u1 l1) (h2 : RdG 7 Ba.cs F M u2 l2) (hold : Old F M) (ha : absB k v1 l1 = true) (hb : absB k v2 l2 = true) :
    CallsA Try.prog 92 [.int .i64 k, abV v1 u1, abV v2 u2] F M (bothR15 k v1 l1 v2 l2 F M) := by
  refine callsA_of hm Try.func92 e92 (Nat.le_of_ble_eq_true rfl) ?_
  have h1' := h1
  have h2' := h2
  obtain ⟨_, a1, c1, _, rfl, _⟩ := h1
  obtain ⟨_, a2, c2, _, rfl, _⟩ := h2
  simp only [c92, go_sem, reduceCtorEq, reduceIte, Nat.reduceEqDiff, Nat.reduceAdd, Nat.reduceLeDiff, Nat.reduceMul, Int.reduceLT, Int.reduceLE, Int.reduceAdd, Int.reduceSub, Int.reduceMul, Int.reduceNeg, Int.reduceToNat, Int.reduceEq]
  intro r4 hF4 hM4
  simp only [go_sem, reduceCtorEq, reduceIte, Nat.reduceEqDiff, Nat.reduceAdd, Nat.reduceLeDiff, Nat.reduceMul, Int.reduceLT, Int.reduceLE, Int.reduceAdd, Int.reduceSub, Int.reduceMul, Int.reduceNeg, Int.reduceToNat, Int.reduceEq]
  intro r5 hF5 hM5
  have g5 := fresh_of hM5
  simp only [go_sem, reduceCtorEq, reduceIte, Nat.reduceEqDiff, Nat.reduceAdd, Nat.reduceLeDiff, Nat.reduceMul, Int.reduceLT, Int.reduceLE, Int.reduceAdd, Int.reduceSub, Int.reduceMul, Int.reduceNeg, Int.reduceToNat, Int.reduceEq, g5]
  intro r6 hF6 hM6
  have g6 := fresh_of hM6
  have g62 := fresh_of g6.2.2
  have kp0 : Keep M (((M.upd r4 ⟨abCs v1 (.slice a1 l1.length c1), 37, 7⟩).upd r5 ⟨abCs v2 (.slice a2 l2.length c2), 37, 7⟩).upd r6 ⟨[.int .i64 0, .bool false, .int .i64 0, .int .i64 0, .int .i64 0, .int .i64 0, .slice none 0 0], 37, 7⟩) := (((Keep.refl M).new hM4).new g5.2.2).new g62.2.2
  have old0 : Old F (((M.upd r4 ⟨abCs v1 (.slice a1 l1.length c1), 37, 7⟩).upd r5 ⟨abCs v2 (.slice a2 l2.length c2), 37, 7⟩).upd r6 ⟨[.int .i64 0, .bool false, .int .i64 0, .int .i64 0, .int .i64 0, .int .i64 0, .slice none 0 0], 37, 7⟩) := ((hold.upd hF4).upd hF5).upd hF6
  have f6 : (((M.upd r4 ⟨abCs v1 (.slice a1 l1.length c1), 37, 7⟩).upd r5 ⟨abCs v2 (.slice a2 l2.length c2), 37, 7⟩).upd r6 ⟨[.int .i64 0, .bool false, .int .i64 0, .int .i64 0, .int .i64 0, .int .i64 0, .slice none 0 0], 37, 7⟩) r6 = some ⟨[.int .i64 0, .bool false, .int .i64 0, .int .i64 0, .int .i64 0, .int .i64 0, .slice none 0 0], 37, 7⟩ := Hp.upd_same _ _ _
  have n6 : M r6 = none := g62.2.2
  rcases abs_pair ha hb with ⟨h7, e1, e2, p1, p2⟩ | ⟨h7, hk, ok1, ok2, w1, w2, e1, e2⟩
  rotate_left
  · subst e1 e2
    simp only [go_sem, reduceCtorEq, reduceIte, Nat.reduceEqDiff, Nat.reduceAdd, Nat.reduceLeDiff, Nat.reduceMul, Int.reduceLT, Int.reduceLE, Int.reduceAdd, Int.reduceSub, Int.reduceMul, Int.reduceNeg, Int.reduceToNat, Int.reduceEq, g5, g6, g62, h7]
    refine callK_of (k125 _ _ v1 v2 ok1 ok2 (by rw [w1, w2])) ?_
    rintro w G M1 ⟨hG, hM1, z, rfl, bz⟩
    rw [hG, hM1]
    refine ⟨(fun h => by cases h), ?_⟩
    simp only [go_sem, reduceCtorEq, reduceIte, Nat.reduceEqDiff, Nat.reduceAdd, Nat.reduceLeDiff, Nat.reduceMul, Int.reduceLT, Int.reduceLE, Int.reduceAdd, Int.reduceSub, Int.reduceMul, Int.reduceNeg, Int.reduceToNat, Int.reduceEq, g5, g6, g62, h7]
    refine callK_same (k99 _ _ z) ?_
    simp only [go_sem, reduceCtorEq, reduceIte, Nat.reduceEqDiff, Nat.reduceAdd, Nat.reduceLeDiff, Nat.reduceMul, Int.reduceLT, Int.reduceLE, Int.reduceAdd, Int.reduceSub, Int.reduceMul, Int.reduceNeg, Int.reduceToNat, Int.reduceEq, g5, g6, g62]
    exact endK_drop (by rw [Hp.upd_ne' g6.1, Hp.upd_ne' g62.1]; exact n6) (endK_drop (by rw [Hp.upd_ne' g5.1]; exact g5.2.2) (endK_drop hM4 (endK_same ⟨z, [], bothA_num h7 hk w1 w2 bz, by simp, _, rfl, rfl, .inl ⟨rfl, rfl, rfl⟩⟩)))
  subst h7 e1 e2
  have hpre : ∀ b : Nat, b < 7 → PreB (ofB l1 b) (ofB l2 b) := fun b _ => ofB_pre p1 p2 b
  simp only [go_sem, reduceCtorEq, reduceIte, Nat.reduceEqDiff, Nat.reduceAdd, Nat.reduceLeDiff, Nat.reduceMul, Int.reduceLT, Int.reduceLE, Int.reduceAdd, Int.reduceSub, Int.reduceMul, Int.reduceNeg, Int.reduceToNat, Int.reduceEq, g5, g6, g62]
  refine callK_of (k126 _ _ 127 BothB PreB both_do (fun x y z h => h.ok) _ _ l1 l2 (h1'.keep kp0 old0) (h2'.keep kp0 old0) old0 hpre) ?_
  generalize ((M.upd r4 ⟨abCs V.zero (.slice a1 l1.length c1), 37, 7⟩).upd r5 ⟨abCs V.zero (.slice a2 l2.length c2), 37, 7⟩).upd r6 ⟨[.int .i64 0, .bool false, .int .i64 0, .int .i64 0, .int .i64 0, .int .i64 0, .slice none 0 0], 37, 7⟩ = M1 at *
  rintro w G M2 ⟨z, hz, hr⟩
  have hel := eachL_len z 7
  have hres := bothA_ptr p1 p2 hz
  generalize eachL z 7 = l at *
  have mine := hr.mine kp0
  obtain ⟨hG, le, kq, oq, aq, cq, rfl, rdq⟩ := hr.le (f := Ba.cs) (fun x => rfl) (by omega)
  rw [hG]
  refine ⟨(fun h => by cases h), ?_⟩
  have f62 := kq _ _ f6
  obtain ⟨M5, k1, k2, hr5⟩ := mine.alone (kp0.trans kq)
  have n65 : M5 r6 = none := by
    obtain ⟨_, ⟨_, _, rfl⟩ | ⟨g', cap, _, q2, q3, _, rfl⟩⟩ := hr5
    · exact n6
    · have : ¬ r6 = g' := by
        rintro rfl
        have h1 := k1 _ _ (Hp.upd_same _ _ _)
        rw [f62] at h1
        simp at h1
      rw [Hp.upd_ne' this]; exact n6
  simp only [go_sem, reduceCtorEq, reduceIte, Nat.reduceEqDiff, Nat.reduceAdd, Nat.reduceLeDiff, Nat.reduceMul, Int.reduceLT, Int.reduceLE, Int.reduceAdd, Int.reduceSub, Int.reduceMul, Int.reduceNeg, Int.reduceToNat, Int.reduceEq, g5, g6, g62, f62]
  simp only [setH, go_sem, reduceCtorEq, reduceIte, Nat.reduceEqDiff, Nat.reduceAdd, Nat.reduceLeDiff, Nat.reduceMul, Int.reduceLT, Int.reduceLE, Int.reduceAdd, Int.reduceSub, Int.reduceMul, Int.reduceNeg, Int.reduceToNat, Int.reduceEq]
  exact endK_keep (k1.new n65) ⟨V.zero, l, hres, hel, _, rfl, hr5⟩
def crossR15 (k : Int) (v1 : V) (l1 : List Ba) (v2 : V) (l2 : List Ba) (F : Fz) (M : Hp) (u : Value) (F' : Fz) (M' : Hp) : Prop :=
  ∃ v l, CrossA k v1 l1 v2 l2 v l ∧ l.length ≤ 7 ∧ cpR v l F M u F' M'
theorem k93 (k : Int) (v1 v2 : V) (u1 u2 : Value) (l1 l2 : List Ba) (h1 : RdG 7 Ba.cs F M u1 l1) (h2 : RdG 7 Ba.cs F M u2 l2) (hold : Old F M) (ha : absB k v1 l1 = true) (hb : absB k v2 l2 = true) :
    CallsA Try.prog 93 [.int .i64 k, abV v1 u1, abV v2 u2] F M (crossR15 k v1 l1 v2 l2 F M) := by
  refine callsA_of hm Try.func93 e93 (Nat.le_of_ble_eq_true rfl) ?_
  have h1' := h1
  have h2' := h2
  obtain ⟨_, a1, c1, _, rfl, _⟩ := h1
  obtain ⟨_, a2, c2, _, rfl, _⟩ := h2
  simp only [c93, go_sem, reduceCtorEq, reduceIte, Nat.reduceEqDiff, Nat.reduceAdd, Nat.reduceLeDiff, Nat.reduceMul, Int.reduceLT, Int.reduceLE, Int.reduceAdd, Int.reduceSub, Int.reduceMul, Int.reduceNeg, Int.reduceToNat, Int.reduceEq]
  intro r4 hF4 hM4
  simp only [go_sem, reduceCtorEq, reduceIte, Nat.reduceEqDiff, Nat.reduceAdd, Nat.reduceLeDiff, Nat.reduceMul, Int.reduceLT, Int.reduceLE, Int.reduceAdd, Int.reduceSub, Int.reduceMul, Int.reduceNeg, Int.reduceToNat, Int.reduceEq]
  intro r5 hF5 hM5
  have g5 := fresh_of hM5
  simp only [go_sem, reduceCtorEq, reduceIte, Nat.reduceEqDiff, Nat.reduceAdd, Nat.reduceLeDiff, Nat.reduceMul, Int.reduceLT, Int.reduceLE, Int.reduceAdd, Int.reduceSub, Int.reduceMul, Int.reduceNeg, Int.reduceToNat, Int.reduceEq, g5]
  intro r6 hF6 hM6
  have g6 := fresh_of hM6
  have g62 := fresh_of g6.2.2
  have kp0 : Keep M (((M.upd r4 ⟨abCs v1 (.slice a1 l1.length c1), 37, 7⟩).upd r5 ⟨abCs v2 (.slice a2 l2.length c2), 37, 7⟩).upd r6 ⟨[.int .i64 0, .bool false, .int .i64 0, .int .i64 0, .int .i64 0, .int .i64 0, .slice none 0 0], 37, 7⟩) := (((Keep.refl M).new hM4).new g5.2.2).new g62.2.2
  have old0 : Old F (((M.upd r4 ⟨abCs v1 (.slice a1 l1.length c1), 37, 7⟩).upd r5 ⟨abCs v2 (.slice a2 l2.length c2), 37, 7⟩).upd r6 ⟨[.int .i64 0, .bool false, .int .i64 0, .int .i64 0, .int .i64 0, .int .i64 0, .slice none 0 0], 37, 7⟩) := ((hold.upd hF4).upd hF5).upd hF6
  have f6 : (((M.upd r4 ⟨abCs v1 (.slice a1 l1.length c1), 37, 7⟩).upd r5 ⟨abCs v2 (.slice a2 l2.length c2), 37, 7⟩).upd r6 ⟨[.int .i64 0, .bool false, .int .i64 0, .int .i64 0, .int .i64 0, .int .i64 0, .slice none 0 0], 37, 7⟩) r6 = some ⟨[.int .i64 0, .bool false, .int .i64 0, .int .i64 0, .int .i64 0, .int .i64 0, .slice none 0 0], 37, 7⟩ := Hp.upd_same _ _ _
  have n6 : M r6 = none := g62.2.2
  rcases abs_pair ha hb with ⟨h7, e1, e2, p1, p2⟩ | ⟨h7, hk, ok1, ok2, w1, w2, e1, e2⟩
  rotate_left
  · subst e1 e2
    simp only [go_sem, reduceCtorEq, reduceIte, Nat.reduceEqDiff, Nat.reduceAdd, Nat.reduceLeDiff, Nat.reduceMul, Int.reduceLT, Int.reduceLE, Int.reduceAdd, Int.reduceSub, Int.reduceMul, Int.reduceNeg, Int.reduceToNat, Int.reduceEq, g5, g6, g62, h7]
    refine callK_of (k117 _ _ v1 v2 ok1 ok2 (by rw [w1, w2])) ?_
    rintro w G M1 ⟨hG, hM1, z, rfl, bz⟩
    rw [hG, hM1]
    refine ⟨(fun h => by cases h), ?_⟩
    simp only [go_sem, reduceCtorEq, reduceIte, Nat.reduceEqDiff, Nat.reduceAdd, Nat.reduceLeDiff, Nat.reduceMul, Int.reduceLT, Int.reduceLE, Int.reduceAdd, Int.reduceSub, Int.reduceMul, Int.reduceNeg, Int.reduceToNat, Int.reduceEq, g5, g6, g62, h7]
    refine callK_same (k99 _ _ z) ?_
    simp only [go_sem, reduceCtorEq, reduceIte, Nat.reduceEqDiff, Nat.reduceAdd, Nat.reduceLeDiff, Nat.reduceMul, Int.reduceLT, Int.reduceLE, Int.reduceAdd, Int.reduceSub, Int.reduceMul, Int.reduceNeg, Int.reduceToNat, Int.reduceEq, g5, g6, g62]
    exact endK_drop (by rw [Hp.upd_ne' g6.1, Hp.upd_ne' g62.1]; exact n6) (endK_drop (by rw [Hp.upd_ne' g5.1]; exact g5.2.2) (endK_drop hM4 (endK_same ⟨z, [], crossA_num h7 hk w1 w2 bz, by simp, _, rfl, rfl, .inl ⟨rfl, rfl, rfl⟩⟩)))
  subst h7 e1 e2
  have hpre : ∀ b : Nat, b < 7 → PreB (ofB l1 b) (ofB l2 b) := fun b _ => ofB_pre p1 p2 b
  simp only [go_sem, reduceCtorEq, reduceIte, Nat.reduceEqDiff, Nat.reduceAdd, Nat.reduceLeDiff, Nat.reduceMul, Int.reduceLT, Int.reduceLE, Int.reduceAdd, Int.reduceSub, Int.reduceMul, Int.reduceNeg, Int.reduceToNat, Int.reduceEq, g5, g6, g62]
  refine callK_of (k126 _ _ 129 CrossB PreB cross_do (fun x y z h => h.ok) _ _ l1 l2 (h1'.keep kp0 old0) (h2'.keep kp0 old0) old0 hpre) ?_
  generalize ((M.upd r4 ⟨abCs V.zero (.slice a1 l1.length c1), 37, 7⟩).upd r5 ⟨abCs V.zero (.slice a2 l2.length c2), 37, 7⟩).upd r6 ⟨[.int .i64 0, .bool false, .int .i64 0, .int .i64 0, .int .i64 0, .int .i64 0, .slice none 0 0], 37, 7⟩ = M1 at *
  rintro w G M2 ⟨z, hz, hr⟩
  have hel := eachL_len z 7
  have hres := crossA_ptr p1 p2 hz
  generalize eachL z 7 = l at *
  have mine := hr.mine kp0
  obtain ⟨hG, le, kq, oq, aq, cq, rfl, rdq⟩ := hr.le (f := Ba.cs) (fun x => rfl) (by omega)
  rw [hG]
  refine ⟨(fun h => by cases h), ?_⟩
  have f62 := kq _ _ f6
  obtain ⟨M5, k1, k2, hr5⟩ := mine.alone (kp0.trans kq)
  have n65 : M5 r6 = none := by
    obtain ⟨_, ⟨_, _, rfl⟩ | ⟨g', cap, _, q2, q3, _, rfl⟩⟩ := hr5
    · exact n6
    · have : ¬ r6 = g' := by
        rintro rfl
        have h1 := k1 _ _ (Hp.upd_same _ _ _)
        rw [f62] at h1
        simp at h1
      rw [Hp.upd_ne' this]; exact n6
  simp only [go_sem, reduceCtorEq, reduceIte, Nat.reduceEqDiff, Nat.reduceAdd, Nat.reduceLeDiff, Nat.reduceMul, Int.reduceLT, Int.reduceLE, Int.reduceAdd, Int.reduceSub, Int.reduceMul, Int.reduceNeg, Int.reduceToNat, Int.reduceEq, g5, g6, g62, f62]
  simp only [setH, go_sem, reduceCtorEq, reduceIte, Nat.reduceEqDiff, Nat.reduceAdd, Nat.reduceLeDiff, Nat.reduceMul, Int.reduceLT, Int.reduceLE, Int.reduceAdd, Int.reduceSub, Int.reduceMul, Int.reduceNeg, Int.reduceToNat, Int.reduceEq]
  exact endK_keep (k1.new n65) ⟨V.zero, l, hres, hel, _, rfl, hr5⟩
end Go.Proofs.Try.K

/- Contracts: whether a set is in another; sets asked in pairs. -/
namespace Go.Proofs.Try.K
open Go Go.Ax Go.Proofs.Try.S
set_option maxRecDepth 100000
set_option linter.unusedSimpArgs false
set_option linter.unusedVariables false
set_option maxHeartbeats 1000000
variable (F : Fz) (M : Hp)

def ixS (l : List Sc) (p : Sc → Bool) (u f : Value) (F0 : Fz) (M0 : Hp) (m : Nat) (σ : Env) (F : Fz) (M : Hp) : Prop :=
  F = F0 ∧ M = M0 ∧ Ax.look σ 0 = some u ∧ Ax.look σ 1 = some f ∧ Ax.look σ 7 = some (.int .i64 l.length) ∧ ∃ i : Nat, i + m = l.length ∧ Ax.look σ 8 = some (.int .i64 i) ∧ l.any p = (l.drop i).any p
theorem k153 (u : Value) (l : List Sc) (g : Nat) (ca : List Value) (p : Sc → Bool) (h : RdG 4 Sc.cs F M u l)
    (hp : ∀ v ∈ l, CallsA Try.prog g ([v.val] ++ ca) F M (Same F M (.bool (p v)))) :
    CallsA Try.prog 153 [u, .func (.func g) #[] ca.toArray] F M fun r F' M' => F' = F ∧ M' = M ∧ ∃ z : Int, r = .int .i64 z ∧ (0 ≤ z ↔ l.any p = true) := by
  refine callsA_of hm Try.func153 e153 (Nat.le_of_ble_eq_true rfl) ?_
  obtain ⟨hl, ad, cap, hlc, rfl, h⟩ := h
  simp only [c153, go_sem, reduceCtorEq, reduceIte, Nat.reduceEqDiff, Nat.reduceAdd, Nat.reduceLeDiff, Nat.reduceMul, Int.reduceLT, Int.reduceLE, Int.reduceAdd, Int.reduceSub, Int.reduceMul, Int.reduceNeg, Int.reduceToNat, Int.reduceEq]
  refine loop_of (ixS l p (.slice ad l.length cap) (.func (.func g) #[] ca.toArray) F M) l.length ?_ ?_
  · exact ⟨rfl, rfl, by simp only [go_sem, reduceCtorEq, reduceIte, Nat.reduceEqDiff], by simp only [go_sem, reduceCtorEq, reduceIte, Nat.reduceEqDiff], by simp only [go_sem, reduceCtorEq, reduceIte, Nat.reduceEqDiff], 0, by omega, by simp only [go_sem, reduceCtorEq, reduceIte, Nat.reduceEqDiff] <;> rfl, rfl⟩
  rintro m σ F' M' ⟨rfl, rfl, h0, h1, h7, i, hi, h8, ha⟩
  by_cases hil : (i : Int) < l.length
  · have hi0 : (0 : Int) ≤ i := by omega
    have hil' : i < l.length := by omega
    have ei : IntKind.i64.wrap ((i : Int) + 1) = i + 1 := w64 (by omega) (by omega)
    rcases h with h | ⟨b, o, cs, rfl, hb, hc⟩
    · rw [h] at hil'; simp at hil'
    obtain ⟨d1, d2⟩ := hc i hil'
    rw [List.drop_eq_getElem_cons hil', List.any_cons] at ha
    have hq := hp l[i] (List.getElem_mem _)
    generalize l[i] = v at *
    simp only [go_sem, reduceCtorEq, reduceIte, Nat.reduceEqDiff, Nat.reduceAdd, Nat.reduceLeDiff, Nat.reduceMul, Int.reduceLT, Int.reduceLE, Int.reduceAdd, Int.reduceSub, Int.reduceMul, Int.reduceNeg, Int.reduceToNat, Int.reduceEq, h0, h1, h7, h8, hil, hi0, Int.toNat_natCast, hb, d1, d2]
    refine callK_same hq ?_
    cases hv : p v
    · rw [hv, Bool.false_or] at ha
      simp only [go_sem, reduceCtorEq, reduceIte, Nat.reduceEqDiff, Nat.reduceAdd, Nat.reduceLeDiff, Nat.reduceMul, Int.reduceLT, Int.reduceLE, Int.reduceAdd, Int.reduceSub, Int.reduceMul, Int.reduceNeg, Int.reduceToNat, Int.reduceEq, h0, h1, h7, h8, ei]
      exact ⟨m - 1, by omega, rfl, rfl, by simp only [go_sem, reduceCtorEq, reduceIte, Nat.reduceEqDiff, h0], by simp only [go_sem, reduceCtorEq, reduceIte, Nat.reduceEqDiff, h1], by simp only [go_sem, reduceCtorEq, reduceIte, Nat.reduceEqDiff, h7], i + 1, by omega, by simp only [go_sem, reduceCtorEq, reduceIte, Nat.reduceEqDiff]; rfl, ha⟩
    · rw [hv, Bool.true_or] at ha
      simp only [go_sem, reduceCtorEq, reduceIte, Nat.reduceEqDiff, Nat.reduceAdd, Nat.reduceLeDiff, Nat.reduceMul, Int.reduceLT, Int.reduceLE, Int.reduceAdd, Int.reduceSub, Int.reduceMul, Int.reduceNeg, Int.reduceToNat, Int.reduceEq, h0, h1, h7, h8, ei]
      exact endK_same ⟨rfl, rfl, _, rfl, by simp [ha]⟩
  · have : l.drop i = [] := List.drop_eq_nil_of_le (by omega)
    rw [this] at ha
    simp only [go_sem, reduceCtorEq, reduceIte, Nat.reduceEqDiff, Nat.reduceAdd, Nat.reduceLeDiff, Nat.reduceMul, Int.reduceLT, Int.reduceLE, Int.reduceAdd, Int.reduceSub, Int.reduceMul, Int.reduceNeg, Int.reduceToNat, Int.reduceEq, h0, h1, h7, h8, hil]
    exact endK_same ⟨rfl, rfl, _, rfl, by rw [ha]; simp⟩
theorem k131 (u : Value) (l : List Sc) (g : Nat) (ca : List Value) (p : Sc → Bool) (h : RdG 4 Sc.cs F M u l)
    (hp : ∀ v ∈ l, CallsA Try.prog g ([v.val] ++ ca) F M (Same F M (.bool (p v)))) :
    CallsA Try.prog 131 [u, .func (.func g) #[] ca.toArray] F M (Same F M (.bool (l.any p))) := by
  refine callsA_of hm Try.func131 e131 (Nat.le_of_ble_eq_true rfl) ?_
  simp only [c131, go_sem, reduceCtorEq, reduceIte, Nat.reduceEqDiff, Nat.reduceAdd, Nat.reduceLeDiff, Nat.reduceMul, Int.reduceLT, Int.reduceLE, Int.reduceAdd, Int.reduceSub, Int.reduceMul, Int.reduceNeg, Int.reduceToNat, Int.reduceEq]
  refine callK_of (k153 F M u l g ca p h hp) ?_
  rintro r G M' ⟨hG, rfl, z, rfl, hz⟩
  rw [hG]
  refine ⟨(fun h => by cases h), ?_⟩
  simp only [go_sem, reduceCtorEq, reduceIte, Nat.reduceEqDiff, Nat.reduceAdd, Nat.reduceLeDiff, Nat.reduceMul, Int.reduceLT, Int.reduceLE, Int.reduceAdd, Int.reduceSub, Int.reduceMul, Int.reduceNeg, Int.reduceToNat, Int.reduceEq]
  have : decide (0 ≤ z) = l.any p := by
    cases hq : l.any p
    · rw [hq] at hz; simp at hz; simp; omega
    · simp [hz.2 hq]
  exact endK_same ⟨by rw [← this], rfl, rfl⟩
theorem k132 (s : Sc) (p5 : Nat) (e5 : Ent) (v2 : V) (u2 : Value) (l2 : List Ba) (h5 : M p5 = some e5) (c5 : e5.cells = abCs v2 u2) (h2 : RdG 7 Ba.cs F M u2 l2) :
    CallsA Try.prog 132 [s.val, .pointer (some ⟨p5, 0, none⟩)] F M (Same F M (.bool (!(decide (s.o ≤ 32) && pointsB l2 s.b s.o)))) := by
  refine callsA_of hm Try.func132 e132 (Nat.le_of_ble_eq_true rfl) ?_
  have b5 := blk_M (F := F) h5
  rw [c5] at b5
  simp only [c132, go_sem, reduceCtorEq, reduceIte, Nat.reduceEqDiff, Nat.reduceAdd, Nat.reduceLeDiff, Nat.reduceMul, Int.reduceLT, Int.reduceLE, Int.reduceAdd, Int.reduceSub, Int.reduceMul, Int.reduceNeg, Int.reduceToNat, Int.reduceEq]
  intro r2 hF2 hM2
  have g5 := ne_of_none hM2 h5
  have q2 := h2.new hF2 hM2 (e := ⟨s.cs, 32, 4⟩)
  simp only [go_sem, reduceCtorEq, reduceIte, Nat.reduceEqDiff, Nat.reduceAdd, Nat.reduceLeDiff, Nat.reduceMul, Int.reduceLT, Int.reduceLE, Int.reduceAdd, Int.reduceSub, Int.reduceMul, Int.reduceNeg, Int.reduceToNat, Int.reduceEq, g5, b5]
  refine callK_same (k112 _ _ u2 l2 s.b s.o q2) ?_
  simp only [go_sem, reduceCtorEq, reduceIte, Nat.reduceEqDiff, Nat.reduceAdd, Nat.reduceLeDiff, Nat.reduceMul, Int.reduceLT, Int.reduceLE, Int.reduceAdd, Int.reduceSub, Int.reduceMul, Int.reduceNeg, Int.reduceToNat, Int.reduceEq]
  exact endK_drop hM2 (endK_same ⟨by simp, rfl, rfl⟩)
theorem k94 (k : Int) (v1 v2 : V) (u1 u2 : Value) (l1 l2 : List Ba) (h1 : RdG 7 Ba.cs F M u1 l1) (h2 : RdG 7 Ba.cs F M u2 l2) (hold : Old F M) (ha : absB k v1 l1 = true) (hb : absB k v2 l2 = true) :
    CallsA Try.prog 94 [.int .i64 k, abV v1 u1, abV v2 u2] F M (Same F M (.bool (underB k v1 l1 v2 l2))) := by
  refine callsA_of hm Try.func94 e94 (Nat.le_of_ble_eq_true rfl) ?_
  have h1' := h1
  have h2' := h2
  have pa := abs_pre ha
  have pb := abs_pre hb
  obtain ⟨_, a1, c1, _, rfl, _⟩ := h1
  obtain ⟨_, a2, c2, _, rfl, _⟩ := h2
  simp only [c94, go_sem, reduceCtorEq, reduceIte, Nat.reduceEqDiff, Nat.reduceAdd, Nat.reduceLeDiff, Nat.reduceMul, Int.reduceLT, Int.reduceLE, Int.reduceAdd, Int.reduceSub, Int.reduceMul, Int.reduceNeg, Int.reduceToNat, Int.reduceEq]
  intro r4 hF4 hM4
  simp only [go_sem, reduceCtorEq, reduceIte, Nat.reduceEqDiff, Nat.reduceAdd, Nat.reduceLeDiff, Nat.reduceMul, Int.reduceLT, Int.reduceLE, Int.reduceAdd, Int.reduceSub, Int.reduceMul, Int.reduceNeg, Int.reduceToNat, Int.reduceEq]
  intro r5 hF5 hM5
  have g5 := fresh_of hM5
  have q1 := (h1'.new hF4 hM4 (e := ⟨abCs v1 (.slice a1 l1.length c1), 37, 7⟩)).new hF5 hM5 (e := ⟨abCs v2 (.slice a2 l2.length c2), 37, 7⟩)
  have q2 := (h2'.new hF4 hM4 (e := ⟨abCs v1 (.slice a1 l1.length c1), 37, 7⟩)).new hF5 hM5 (e := ⟨abCs v2 (.slice a2 l2.length c2), 37, 7⟩)
  have old0 := (hold.upd hF4 (e := ⟨abCs v1 (.slice a1 l1.length c1), 37, 7⟩)).upd hF5 (e := ⟨abCs v2 (.slice a2 l2.length c2), 37, 7⟩)
  by_cases h7 : k = 7
  rotate_left
  · obtain ⟨ok1, e1⟩ := pa.2.1 h7
    obtain ⟨ok2, e2⟩ := pb.2.1 h7
    simp only [go_sem, reduceCtorEq, reduceIte, Nat.reduceEqDiff, Nat.reduceAdd, Nat.reduceLeDiff, Nat.reduceMul, Int.reduceLT, Int.reduceLE, Int.reduceAdd, Int.reduceSub, Int.reduceMul, Int.reduceNeg, Int.reduceToNat, Int.reduceEq, g5, h7]
    refine callK_same (k130 _ _ v1 v2 ok1 ok2) ?_
    simp only [go_sem, reduceCtorEq, reduceIte, Nat.reduceEqDiff, Nat.reduceAdd, Nat.reduceLeDiff, Nat.reduceMul, Int.reduceLT, Int.reduceLE, Int.reduceAdd, Int.reduceSub, Int.reduceMul, Int.reduceNeg, Int.reduceToNat, Int.reduceEq, g5]
    exact endK_drop hM5 (endK_drop hM4 (endK_same ⟨by simp [underB, h7], rfl, rfl⟩))
  subst h7
  have kp0 : Keep M ((M.upd r4 ⟨abCs v1 (.slice a1 l1.length c1), 37, 7⟩).upd r5 ⟨abCs v2 (.slice a2 l2.length c2), 37, 7⟩) := ((Keep.refl M).new hM4).new g5.2.2
  have f5 : ((M.upd r4 ⟨abCs v1 (.slice a1 l1.length c1), 37, 7⟩).upd r5 ⟨abCs v2 (.slice a2 l2.length c2), 37, 7⟩) r5 = some ⟨abCs v2 (.slice a2 l2.length c2), 37, 7⟩ := Hp.upd_same _ _ _
  have hok : ∀ x ∈ l1, x.v.ok = true := fun x hx => (pa.2.2 x hx).2.2.1
  have hlen := memB_len33 hok
  have hmm := k111 F ((M.upd r4 ⟨abCs v1 (.slice a1 l1.length c1), 37, 7⟩).upd r5 ⟨abCs v2 (.slice a2 l2.length c2), 37, 7⟩) _ l1 231 (by decide) (by omega) old0 q1 hok
  simp only [go_sem, reduceCtorEq, reduceIte, Nat.reduceEqDiff, Nat.reduceAdd, Nat.reduceLeDiff, Nat.reduceMul, Int.reduceLT, Int.reduceLE, Int.reduceAdd, Int.reduceSub, Int.reduceMul, Int.reduceNeg, Int.reduceToNat, Int.reduceEq, g5]
  refine callK_of hmm ?_
  generalize (M.upd r4 ⟨abCs v1 (.slice a1 l1.length c1), 37, 7⟩).upd r5 ⟨abCs v2 (.slice a2 l2.length c2), 37, 7⟩ = M1 at *
  rintro w G M2 (⟨hle, w, rfl, hr⟩ | ⟨hgt, _⟩)
  rotate_left
  · omega
  obtain ⟨hG, le, kq, oq, a, c, rfl, rdq⟩ := hr.le (f := Sc.cs) (fun x => rfl) (by omega)
  rw [hG]
  refine ⟨(fun h => by cases h), ?_⟩
  have f52 := kq _ _ f5
  have q22 := q2.keep kq (oq old0)
  simp only [go_sem, reduceCtorEq, reduceIte, Nat.reduceEqDiff, Nat.reduceAdd, Nat.reduceLeDiff, Nat.reduceMul, Int.reduceLT, Int.reduceLE, Int.reduceAdd, Int.reduceSub, Int.reduceMul, Int.reduceNeg, Int.reduceToNat, Int.reduceEq, g5]
  refine callK_same (k131 _ _ _ (memB l1) 132 [.pointer (some ⟨r5, 0, none⟩)] (fun s => !(decide (s.o ≤ 32) && pointsB l2 s.b s.o)) rdq (fun s hs => k132 _ _ s r5 _ v2 _ l2 f52 rfl q22)) ?_
  simp only [go_sem, reduceCtorEq, reduceIte, Nat.reduceEqDiff, Nat.reduceAdd, Nat.reduceLeDiff, Nat.reduceMul, Int.reduceLT, Int.reduceLE, Int.reduceAdd, Int.reduceSub, Int.reduceMul, Int.reduceNeg, Int.reduceToNat, Int.reduceEq, g5]
  exact endK_keep (kp0.trans kq) ⟨by simp [underB], rfl, rfl⟩
theorem k91 (k : Int) (v1 v2 : V) (u1 u2 : Value) (l1 l2 : List Ba) (h1 : RdG 7 Ba.cs F M u1 l1) (h2 : RdG 7 Ba.cs F M u2 l2) :
    CallsA Try.prog 91 [.int .i64 k, abV v1 u1, abV v2 u2] F M (Same F M (.bool (absB k v1 l1 && absB k v2 l2))) := by
  refine callsA_of hm Try.func91 e91 (Nat.le_of_ble_eq_true rfl) ?_
  have h1' := h1
  have h2' := h2
  obtain ⟨_, a1, c1, _, rfl, _⟩ := h1
  obtain ⟨_, a2, c2, _, rfl, _⟩ := h2
  simp only [c91, go_sem, reduceCtorEq, reduceIte, Nat.reduceEqDiff, Nat.reduceAdd, Nat.reduceLeDiff, Nat.reduceMul, Int.reduceLT, Int.reduceLE, Int.reduceAdd, Int.reduceSub, Int.reduceMul, Int.reduceNeg, Int.reduceToNat, Int.reduceEq]
  intro r4 hF4 hM4
  simp only [go_sem, reduceCtorEq, reduceIte, Nat.reduceEqDiff, Nat.reduceAdd, Nat.reduceLeDiff, Nat.reduceMul, Int.reduceLT, Int.reduceLE, Int.reduceAdd, Int.reduceSub, Int.reduceMul, Int.reduceNeg, Int.reduceToNat, Int.reduceEq]
  intro r5 hF5 hM5
  have g5 := fresh_of hM5
  have q1 := (h1'.new hF4 hM4 (e := ⟨abCs v1 (.slice a1 l1.length c1), 37, 7⟩)).new hF5 hM5 (e := ⟨abCs v2 (.slice a2 l2.length c2), 37, 7⟩)
  have q2 := (h2'.new hF4 hM4 (e := ⟨abCs v1 (.slice a1 l1.length c1), 37, 7⟩)).new hF5 hM5 (e := ⟨abCs v2 (.slice a2 l2.length c2), 37, 7⟩)
  simp only [go_sem, reduceCtorEq, reduceIte, Nat.reduceEqDiff, Nat.reduceAdd, Nat.reduceLeDiff, Nat.reduceMul, Int.reduceLT, Int.reduceLE, Int.reduceAdd, Int.reduceSub, Int.reduceMul, Int.reduceNeg, Int.reduceToNat, Int.reduceEq, g5]
  refine callK_same (k69 _ _ k v1 _ l1 q1) ?_
  cases ha : absB k v1 l1
  · simp only [go_sem, reduceCtorEq, reduceIte, Nat.reduceEqDiff, Nat.reduceAdd, Nat.reduceLeDiff, Nat.reduceMul, Int.reduceLT, Int.reduceLE, Int.reduceAdd, Int.reduceSub, Int.reduceMul, Int.reduceNeg, Int.reduceToNat, Int.reduceEq, g5]
    exact endK_drop hM5 (endK_drop hM4 (endK_same ⟨by simp, rfl, rfl⟩))
  simp only [go_sem, reduceCtorEq, reduceIte, Nat.reduceEqDiff, Nat.reduceAdd, Nat.reduceLeDiff, Nat.reduceMul, Int.reduceLT, Int.reduceLE, Int.reduceAdd, Int.reduceSub, Int.reduceMul, Int.reduceNeg, Int.reduceToNat, Int.reduceEq, g5]
  refine callK_same (k69 _ _ k v2 _ l2 q2) ?_
  simp only [go_sem, reduceCtorEq, reduceIte, Nat.reduceEqDiff, Nat.reduceAdd, Nat.reduceLeDiff, Nat.reduceMul, Int.reduceLT, Int.reduceLE, Int.reduceAdd, Int.reduceSub, Int.reduceMul, Int.reduceNeg, Int.reduceToNat, Int.reduceEq, g5]
  exact endK_drop hM5 (endK_drop hM4 (endK_same ⟨by simp, rfl, rfl⟩))
theorem k53 (k : Int) (v1 v2 : V) (u1 u2 : Value) (l1 l2 : List Ba) (h1 : RdG 7 Ba.cs F M u1 l1) (h2 : RdG 7 Ba.cs F M u2 l2) (hold : Old F M) :
    CallsA Try.prog 53 [.int .i64 k, abV v1 u1, abV v2 u2] F M (Same F M (if absB k v1 l1 && absB k v2 l2 then .tuple #[.bool (underB k v1 l1 v2 l2), .int .i64 0] else .tuple #[.bool false, .int .i64 1])) := by
  refine callsA_of hm Try.func53 e53 (Nat.le_of_ble_eq_true rfl) ?_
  have h1' := h1
  have h2' := h2
  obtain ⟨_, a1, c1, _, rfl, _⟩ := h1
  obtain ⟨_, a2, c2, _, rfl, _⟩ := h2
  simp only [c53, go_sem, reduceCtorEq, reduceIte, Nat.reduceEqDiff, Nat.reduceAdd, Nat.reduceLeDiff, Nat.reduceMul, Int.reduceLT, Int.reduceLE, Int.reduceAdd, Int.reduceSub, Int.reduceMul, Int.reduceNeg, Int.reduceToNat, Int.reduceEq]
  intro r4 hF4 hM4
  simp only [go_sem, reduceCtorEq, reduceIte, Nat.reduceEqDiff, Nat.reduceAdd, Nat.reduceLeDiff, Nat.reduceMul, Int.reduceLT, Int.reduceLE, Int.reduceAdd, Int.reduceSub, Int.reduceMul, Int.reduceNeg, Int.reduceToNat, Int.reduceEq]
  intro r5 hF5 hM5
  have g5 := fresh_of hM5
  have q1 := (h1'.new hF4 hM4 (e := ⟨abCs v1 (.slice a1 l1.length c1), 37, 7⟩)).new hF5 hM5 (e := ⟨abCs v2 (.slice a2 l2.length c2), 37, 7⟩)
  have q2 := (h2'.new hF4 hM4 (e := ⟨abCs v1 (.slice a1 l1.length c1), 37, 7⟩)).new hF5 hM5 (e := ⟨abCs v2 (.slice a2 l2.length c2), 37, 7⟩)
  have old0 := (hold.upd hF4 (e := ⟨abCs v1 (.slice a1 l1.length c1), 37, 7⟩)).upd hF5 (e := ⟨abCs v2 (.slice a2 l2.length c2), 37, 7⟩)
  simp only [go_sem, reduceCtorEq, reduceIte, Nat.reduceEqDiff, Nat.reduceAdd, Nat.reduceLeDiff, Nat.reduceMul, Int.reduceLT, Int.reduceLE, Int.reduceAdd, Int.reduceSub, Int.reduceMul, Int.reduceNeg, Int.reduceToNat, Int.reduceEq, g5]
  refine callK_same (k91 _ _ k v1 v2 _ _ l1 l2 q1 q2) ?_
  cases ha : (absB k v1 l1 && absB k v2 l2)
  · simp only [go_sem, reduceCtorEq, reduceIte, Nat.reduceEqDiff, Nat.reduceAdd, Nat.reduceLeDiff, Nat.reduceMul, Int.reduceLT, Int.reduceLE, Int.reduceAdd, Int.reduceSub, Int.reduceMul, Int.reduceNeg, Int.reduceToNat, Int.reduceEq, g5]
    exact endK_drop hM5 (endK_drop hM4 (endK_same ⟨by simp, rfl, rfl⟩))
  rw [Bool.and_eq_true] at ha
  simp only [go_sem, reduceCtorEq, reduceIte, Nat.reduceEqDiff, Nat.reduceAdd, Nat.reduceLeDiff, Nat.reduceMul, Int.reduceLT, Int.reduceLE, Int.reduceAdd, Int.reduceSub, Int.reduceMul, Int.reduceNeg, Int.reduceToNat, Int.reduceEq, g5]
  refine callK_same (k94 _ _ k v1 v2 _ _ l1 l2 q1 q2 old0 ha.1 ha.2) ?_
  simp only [go_sem, reduceCtorEq, reduceIte, Nat.reduceEqDiff, Nat.reduceAdd, Nat.reduceLeDiff, Nat.reduceMul, Int.reduceLT, Int.reduceLE, Int.reduceAdd, Int.reduceSub, Int.reduceMul, Int.reduceNeg, Int.reduceToNat, Int.reduceEq, g5]
  exact endK_drop hM5 (endK_drop hM4 (endK_same ⟨by simp, rfl, rfl⟩))
def joinR2 (k : Int) (v1 : V) (l1 : List Ba) (v2 : V) (l2 : List Ba) (F : Fz) (M : Hp) (u : Value) (F' : Fz) (M' : Hp) : Prop :=
  ((absB k v1 l1 && absB k v2 l2) = true ∧ ∃ w, u = .tuple #[w, .int .i64 0] ∧ bothR15 k v1 l1 v2 l2 F M w F' M') ∨ ((absB k v1 l1 && absB k v2 l2) = false ∧ u = .tuple #[abV V.zero (.slice none 0 0), .int .i64 1] ∧ F' = F ∧ M' = M)
theorem k50 (k : Int) (v1 v2 : V) (u1 u2 : Value) (l1 l2 : List Ba) (h1 : RdG 7 Ba.cs F M u1 l1) (h2 : RdG 7 Ba.cs F M u2 l2) (hold : Old F M) :
    CallsA Try.prog 50 [.int .i64 k, abV v1 u1, abV v2 u2] F M (joinR2 k v1 l1 v2 l2 F M) := by
  refine callsA_of hm Try.func50 e50 (Nat.le_of_ble_eq_true rfl) ?_
  have h1' := h1
  have h2' := h2
  obtain ⟨_, a1, c1, _, rfl, _⟩ := h1
  obtain ⟨_, a2, c2, _, rfl, _⟩ := h2
  simp only [c50, go_sem, reduceCtorEq, reduceIte, Nat.reduceEqDiff, Nat.reduceAdd, Nat.reduceLeDiff, Nat.reduceMul, Int.reduceLT, Int.reduceLE, Int.reduceAdd, Int.reduceSub, Int.reduceMul, Int.reduceNeg, Int.reduceToNat, Int.reduceEq]
  intro r4 hF4 hM4
  simp only [go_sem, reduceCtorEq, reduceIte, Nat.reduceEqDiff, Nat.reduceAdd, Nat.reduceLeDiff, Nat.reduceMul, Int.reduceLT, Int.reduceLE, Int.reduceAdd, Int.reduceSub, Int.reduceMul, Int.reduceNeg, Int.reduceToNat, Int.reduceEq]
  intro r5 hF5 hM5
  have g5 := fresh_of hM5
  simp only [go_sem, reduceCtorEq, reduceIte, Nat.reduceEqDiff, Nat.reduceAdd, Nat.reduceLeDiff, Nat.reduceMul, Int.reduceLT, Int.reduceLE, Int.reduceAdd, Int.reduceSub, Int.reduceMul, Int.reduceNeg, Int.reduceToNat, Int.reduceEq, g5]
  intro r6 hF6 hM6
  have g6 := fresh_of hM6
  have g62 := fresh_of g6.2.2
  have kp0 : Keep M (((M.upd r4 ⟨abCs v1 (.slice a1 l1.length c1), 37, 7⟩).upd r5 ⟨abCs v2 (.slice a2 l2.length c2), 37, 7⟩).upd r6 ⟨[.int .i64 0, .bool false, .int .i64 0, .int .i64 0, .int .i64 0, .int .i64 0, .slice none 0 0], 37, 7⟩) := (((Keep.refl M).new hM4).new g5.2.2).new g62.2.2
  have old0 : Old F (((M.upd r4 ⟨abCs v1 (.slice a1 l1.length c1), 37, 7⟩).upd r5 ⟨abCs v2 (.slice a2 l2.length c2), 37, 7⟩).upd r6 ⟨[.int .i64 0, .bool false, .int .i64 0, .int .i64 0, .int .i64 0, .int .i64 0, .slice none 0 0], 37, 7⟩) := ((hold.upd hF4).upd hF5).upd hF6
  have f6 : (((M.upd r4 ⟨abCs v1 (.slice a1 l1.length c1), 37, 7⟩).upd r5 ⟨abCs v2 (.slice a2 l2.length c2), 37, 7⟩).upd r6 ⟨[.int .i64 0, .bool false, .int .i64 0, .int .i64 0, .int .i64 0, .int .i64 0, .slice none 0 0], 37, 7⟩) r6 = some ⟨[.int .i64 0, .bool false, .int .i64 0, .int .i64 0, .int .i64 0, .int .i64 0, .slice none 0 0], 37, 7⟩ := Hp.upd_same _ _ _
  have n6 : M r6 = none := g62.2.2
  have q1 := h1'.keep kp0 old0
  have q2 := h2'.keep kp0 old0
  simp only [go_sem, reduceCtorEq, reduceIte, Nat.reduceEqDiff, Nat.reduceAdd, Nat.reduceLeDiff, Nat.reduceMul, Int.reduceLT, Int.reduceLE, Int.reduceAdd, Int.reduceSub, Int.reduceMul, Int.reduceNeg, Int.reduceToNat, Int.reduceEq, g5, g6, g62]
  refine callK_same (k91 _ _ k v1 v2 _ _ l1 l2 q1 q2) ?_
  cases ha : (absB k v1 l1 && absB k v2 l2)
  · simp only [go_sem, reduceCtorEq, reduceIte, Nat.reduceEqDiff, Nat.reduceAdd, Nat.reduceLeDiff, Nat.reduceMul, Int.reduceLT, Int.reduceLE, Int.reduceAdd, Int.reduceSub, Int.reduceMul, Int.reduceNeg, Int.reduceToNat, Int.reduceEq, g5, g6, g62]
    exact endK_drop (by rw [Hp.upd_ne' g6.1, Hp.upd_ne' g62.1]; exact n6) (endK_drop (by rw [Hp.upd_ne' g5.1]; exact g5.2.2) (endK_drop hM4 (endK_same (.inr ⟨ha, rfl, rfl, rfl⟩))))
  have ha' := ha
  rw [Bool.and_eq_true] at ha
  simp only [go_sem, reduceCtorEq, reduceIte, Nat.reduceEqDiff, Nat.reduceAdd, Nat.reduceLeDiff, Nat.reduceMul, Int.reduceLT, Int.reduceLE, Int.reduceAdd, Int.reduceSub, Int.reduceMul, Int.reduceNeg, Int.reduceToNat, Int.reduceEq, g5, g6, g62]
  refine callK_of (k92 _ _ k v1 v2 _ _ l1 l2 q1 q2 old0 ha.1 ha.2) ?_
  generalize ((M.upd r4 ⟨abCs v1 (.slice a1 l1.length c1), 37, 7⟩).upd r5 ⟨abCs v2 (.slice a2 l2.length c2), 37, 7⟩).upd r6 ⟨[.int .i64 0, .bool false, .int .i64 0, .int .i64 0, .int .i64 0, .int .i64 0, .slice none 0 0], 37, 7⟩ = M1 at *
  rintro w G M2 ⟨v, l, hres, hel, w, rfl, hr⟩
  have mine := hr.mine kp0
  obtain ⟨hG, le, kq, oq, aq, cq, rfl, rdq⟩ := hr.le (f := Ba.cs) (fun x => rfl) (by omega)
  rw [hG]
  refine ⟨(fun h => by cases h), ?_⟩
  have f62 := kq _ _ f6
  obtain ⟨M5, k1, k2, hr5⟩ := mine.alone (kp0.trans kq)
  have n65 : M5 r6 = none := by
    obtain ⟨_, ⟨_, _, rfl⟩ | ⟨g', cap, _, q2, q3, _, rfl⟩⟩ := hr5
    · exact n6
    · have : ¬ r6 = g' := by
        rintro rfl
        have h1 := k1 _ _ (Hp.upd_same _ _ _)
        rw [f62] at h1
        simp at h1
      rw [Hp.upd_ne' this]; exact n6
  simp only [go_sem, reduceCtorEq, reduceIte, Nat.reduceEqDiff, Nat.reduceAdd, Nat.reduceLeDiff, Nat.reduceMul, Int.reduceLT, Int.reduceLE, Int.reduceAdd, Int.reduceSub, Int.reduceMul, Int.reduceNeg, Int.reduceToNat, Int.reduceEq, g5, g6, g62, f62]
  simp only [setH, go_sem, reduceCtorEq, reduceIte, Nat.reduceEqDiff, Nat.reduceAdd, Nat.reduceLeDiff, Nat.reduceMul, Int.reduceLT, Int.reduceLE, Int.reduceAdd, Int.reduceSub, Int.reduceMul, Int.reduceNeg, Int.reduceToNat, Int.reduceEq]
  exact endK_keep (k1.new n65) (.inl ⟨ha', _, rfl, v, l, hres, hel, _, rfl, hr5⟩)
def meetR2 (k : Int) (v1 : V) (l1 : List Ba) (v2 : V) (l2 : List Ba) (F : Fz) (M : Hp) (u : Value) (F' : Fz) (M' : Hp) : Prop :=
  ((absB k v1 l1 && absB k v2 l2) = true ∧ ∃ w, u = .tuple #[w, .int .i64 0] ∧ crossR15 k v1 l1 v2 l2 F M w F' M') ∨ ((absB k v1 l1 && absB k v2 l2) = false ∧ u = .tuple #[abV V.zero (.slice none 0 0), .int .i64 1] ∧ F' = F ∧ M' = M)
theorem k51 (k : Int) (v1 v2 : V) (u1 u2 : Value) (l1 l2 : List Ba) (h1 : RdG 7 Ba.cs F M u1 l1) (h2 : RdG 7 Ba.cs F M u2 l2) (hold : Old F M) :
    CallsA Try.prog 51 [.int .i64 k, abV v1 u1, abV v2 u2] F M (meetR2 k v1 l1 v2 l2 F M) := by
  refine callsA_of hm Try.func51 e51 (Nat.le_of_ble_eq_true rfl) ?_
  have h1' := h1
  have h2' := h2
  obtain ⟨_, a1, c1, _, rfl, _⟩ := h1
  obtain ⟨_, a2, c2, _, rfl, _⟩ := h2
  simp only [c51, go_sem, reduceCtorEq, reduceIte, Nat.reduceEqDiff, Nat.reduceAdd, Nat.reduceLeDiff, Nat.reduceMul, Int.reduceLT, Int.reduceLE, Int.reduceAdd, Int.reduceSub, Int.reduceMul, Int.reduceNeg, Int.reduceToNat, Int.reduceEq]
  intro r4 hF4 hM4
  simp only [go_sem, reduceCtorEq, reduceIte, Nat.reduceEqDiff, Nat.reduceAdd, Nat.reduceLeDiff, Nat.reduceMul, Int.reduceLT, Int.reduceLE, Int.reduceAdd, Int.reduceSub, Int.reduceMul, Int.reduceNeg, Int.reduceToNat, Int.reduceEq]
  intro r5 hF5 hM5
  have g5 := fresh_of hM5
  simp only [go_sem, reduceCtorEq, reduceIte, Nat.reduceEqDiff, Nat.reduceAdd, Nat.reduceLeDiff, Nat.reduceMul, Int.reduceLT, Int.reduceLE, Int.reduceAdd, Int.reduceSub, Int.reduceMul, Int.reduceNeg, Int.reduceToNat, Int.reduceEq, g5]
  intro r6 hF6 hM6
  have g6 := fresh_of hM6
  have g62 := fresh_of g6.2.2
  have kp0 : Keep M (((M.upd r4 ⟨abCs v1 (.slice a1 l1.length c1), 37, 7⟩).upd r5 ⟨abCs v2 (.slice a2 l2.length c2), 37, 7⟩).upd r6 ⟨[.int .i64 0, .bool false, .int .i64 0, .int .i64 0, .int .i64 0, .int .i64 0, .slice none 0 0], 37, 7⟩) := (((Keep.refl M).new hM4).new g5.2.2).new g62.2.2
  have old0 : Old F (((M.upd r4 ⟨abCs v1 (.slice a1 l1.length c1), 37, 7⟩).upd r5 ⟨abCs v2 (.slice a2 l2.length c2), 37, 7⟩).upd r6 ⟨[.int .i64 0, .bool false, .int .i64 0, .int .i64 0, .int .i64 0, .int .i64 0, .slice none 0 0], 37, 7⟩) := ((hold.upd hF4).upd hF5).upd hF6
  have f6 : (((M.upd r4 ⟨abCs v1 (.slice a1 l1.length c1), 37, 7⟩).upd r5 ⟨abCs v2 (.slice a2 l2.length c2), 37, 7⟩).upd r6 ⟨[.int .i64 0, .bool false, .int .i64 0, .int .i64 0, .int .i64 0, .int .i64 0, .slice none 0 0], 37, 7⟩) r6 = some ⟨[.int .i64 0, .bool false, .int .i64 0, .int .i64 0, .int .i64 0, .int .i64 0, .slice none 0 0], 37, 7⟩ := Hp.upd_same _ _ _
  have n6 : M r6 = none := g62.2.2
  have q1 := h1'.keep kp0 old0
  have q2 := h2'.keep kp0 old0
  simp only [go_sem, reduceCtorEq, reduceIte, Nat.reduceEqDiff, Nat.reduceAdd, Nat.reduceLeDiff, Nat.reduceMul, Int.reduceLT, Int.reduceLE, Int.reduceAdd, Int.reduceSub, Int.reduceMul, Int.reduceNeg, Int.reduceToNat, Int.reduceEq, g5, g6, g62]
  refine callK_same (k91 _ _ k v1 v2 _ _ l1 l2 q1 q2) ?_
  cases ha : (absB k v1 l1 && absB k v2 l2)
  · simp only [go_sem, reduceCtorEq, reduceIte, Nat.reduceEqDiff, Nat.reduceAdd, Nat.reduceLeDiff, Nat.reduceMul, Int.reduceLT, Int.reduceLE, Int.reduceAdd, Int.reduceSub, Int.reduceMul, Int.reduceNeg, Int.reduceToNat, Int.reduceEq, g5, g6, g62]
    exact endK_drop (by rw [Hp.upd_ne' g6.1, Hp.upd_ne' g62.1]; exact n6) (endK_drop (by rw [Hp.upd_ne' g5.1]; exact g5.2.2) (endK_drop hM4 (endK_same (.inr ⟨ha, rfl, rfl, rfl⟩))))
  have ha' := ha
  rw [Bool.and_eq_true] at ha
  simp only [go_sem, reduceCtorEq, reduceIte, Nat.reduceEqDiff, Nat.reduceAdd, Nat.reduceLeDiff, Nat.reduceMul, Int.reduceLT, Int.reduceLE, Int.reduceAdd, Int.reduceSub, Int.reduceMul, Int.reduceNeg, Int.reduceToNat, Int.reduceEq, g5, g6, g62]
  refine callK_of (k93 _ _ k v1 v2 _ _ l1 l2 q1 q2 old0 ha.1 ha.2) ?_
  generalize ((M.upd r4 ⟨abCs v1 (.slice a1 l1.length c1), 37, 7⟩).upd r5 ⟨abCs v2 (.slice a2 l2.length c2), 37, 7⟩).upd r6 ⟨[.int .i64 0, .bool false, .int .i64 0, .int .i64 0, .int .i64 0, .int .i64 0, .slice none 0 0], 37, 7⟩ = M1 at *
  rintro w G M2 ⟨v, l, hres, hel, w, rfl, hr⟩
  have mine := hr.mine kp0
  obtain ⟨hG, le, kq, oq, aq, cq, rfl, rdq⟩ := hr.le (f := Ba.cs) (fun x => rfl) (by omega)
  rw [hG]
  refine ⟨(fun h => by cases h), ?_⟩
  have f62 := kq _ _ f6
  obtain ⟨M5, k1, k2, hr5⟩ := mine.alone (kp0.trans kq)
  have n65 : M5 r6 = none := by
    obtain ⟨_, ⟨_, _, rfl⟩ | ⟨g', cap, _, q2, q3, _, rfl⟩⟩ := hr5
    · exact n6
    · have : ¬ r6 = g' := by
        rintro rfl
        have h1 := k1 _ _ (Hp.upd_same _ _ _)
        rw [f62] at h1
        simp at h1
      rw [Hp.upd_ne' this]; exact n6
  simp only [go_sem, reduceCtorEq, reduceIte, Nat.reduceEqDiff, Nat.reduceAdd, Nat.reduceLeDiff, Nat.reduceMul, Int.reduceLT, Int.reduceLE, Int.reduceAdd, Int.reduceSub, Int.reduceMul, Int.reduceNeg, Int.reduceToNat, Int.reduceEq, g5, g6, g62, f62]
  simp only [setH, go_sem, reduceCtorEq, reduceIte, Nat.reduceEqDiff, Nat.reduceAdd, Nat.reduceLeDiff, Nat.reduceMul, Int.reduceLT, Int.reduceLE, Int.reduceAdd, Int.reduceSub, Int.reduceMul, Int.reduceNeg, Int.reduceToNat, Int.reduceEq]
  exact endK_keep (k1.new n65) (.inl ⟨ha', _, rfl, v, l, hres, hel, _, rfl, hr5⟩)
end Go.Proofs.Try.K

/- Contracts: members of a set of scalars by the page; whether they lie in another. -/
namespace Go.Proofs.Try.K
open Go Go.Ax Go.Proofs.Try.S
set_option maxRecDepth 100000
set_option linter.unusedSimpArgs false
set_option linter.unusedVariables false
set_option maxHeartbeats 1000000
variable (F : Fz) (M : Hp)

/-- A row of numbers that a call made. -/
def IntRow (F : Fz) (M : Hp) (u : Value) (l : List Int) : Prop := (u = .slice none 0 0 ∧ l = []) ∨ ∃ g cap n, u = .slice (some ⟨g, 0, none⟩) l.length cap ∧ F g = none ∧ M g = some ⟨l.map intV, 3, n⟩
theorem IntRow.new {F : Fz} {M : Hp} {u : Value} {l : List Int} (h : IntRow F M u l) {r : Nat} {e : Ent} (hM : M r = none) : IntRow F (M.upd r e) u l := by
  rcases h with h | ⟨g, cap, n, h1, h2, h3⟩
  · exact .inl h
  · exact .inr ⟨g, cap, n, h1, h2, by rw [Hp.upd_ne' (ne_of_none hM h3).1]; exact h3⟩
theorem IntRow.frame {F : Fz} {M M' : Hp} {u : Value} {l : List Int} (h : IntRow F M u l) {e' : TypeId} (hfr : ∀ r x, M r = some x → ¬ x.elem = e' → M' r = some x) (hne : ¬ 3 = e') : IntRow F M' u l := by
  rcases h with h | ⟨g, cap, n, h1, h2, h3⟩
  · exact .inl h
  · exact .inr ⟨g, cap, n, h1, h2, hfr _ _ h3 hne⟩
theorem IntRow.shape {F : Fz} {M : Hp} {u : Value} {l : List Int} (h : IntRow F M u l) : ∃ a c, u = .slice a l.length c := by
  rcases h with ⟨h1, h2⟩ | ⟨g, cap, n, h1, h2, h3⟩
  · exact ⟨none, 0, by rw [h1, h2]; rfl⟩
  · exact ⟨_, cap, h1⟩
theorem IntRow.get {F : Fz} {M : Hp} {u : Value} {l : List Int} (h : IntRow F M u l) {i : Nat} (hi : i < l.length) : ∃ g cap, u = .slice (some ⟨g, 0, none⟩) l.length cap ∧ blk F M g = some (l.map intV) ∧ (l.map intV)[i]? = some (.int .i64 l[i]) := by
  rcases h with ⟨h1, h2⟩ | ⟨g, cap, n, h1, h2, h3⟩
  · rw [h2] at hi; simp at hi
  · exact ⟨g, cap, h1, blk_M h3, by simp [hi, intV]⟩
theorem someR.int {v : V} {F : Fz} {M : Hp} {u : Value} {F' : Fz} {M' : Hp} (h : someR v F M u F' M') : F' = F ∧ Le F M F M' ∧ Keep M M' ∧ (Old F M → Old F M') ∧ ∃ l : List Int, l.length ≤ 1000 ∧ (∀ y ∈ l, 0 ≤ y ∧ y ≤ mostV v.w ∧ v.has y = true) ∧ IntRow F M' u l := by
  obtain ⟨hF, l, hl, hm, hu⟩ := h
  refine ⟨hF, ?_⟩
  rcases hu with ⟨rfl, rfl, rfl⟩ | ⟨g, cap, hFg, hMg, rfl, rfl⟩
  · exact ⟨Le.refl _ _, Keep.refl _, fun h => h, [], by simp, by simp, .inl ⟨rfl, rfl⟩⟩
  · exact ⟨Le.upd hFg hMg, (Keep.refl _).new hMg, fun h => h.upd hFg, l, hl, hm, .inr ⟨g, cap, _, rfl, hFg, Hp.upd_same _ _ _⟩⟩
def membR (k : Int) (v : V) (l : List Ba) (F : Fz) (M : Hp) (u : Value) (F' : Fz) (M' : Hp) : Prop :=
  ∃ m : List Sc, m.length ≤ 7000 ∧ (∀ s ∈ m, memOf k v l s) ∧ rowR 4 Sc.cs 32 m F M u F' M'
structure MbI (k : Int) (v : V) (l : List Ba) (F0 : Fz) (M0 : Hp) (σ : Env) (F : Fz) (M : Hp) (top : Nat) : Prop where
  ff : F = F0
  kp : Keep M0 M
  old : Old F0 M
  st : ∃ (w : Value) (m : List Sc), Ax.look σ 9 = some w ∧ MineG 4 Sc.cs 32 F0 M0 M w m ∧ m.length ≤ top ∧ ∀ s ∈ m, memOf k v l s
def mbN (k : Int) (v : V) (l : List Ba) (F0 : Fz) (M0 : Hp) (q : Value) (ns : List Int) (n : Nat) (σ : Env) (F : Fz) (M : Hp) : Prop :=
  ∃ i : Nat, MbI k v l F0 M0 σ F M i ∧ i + n = ns.length ∧ Ax.look σ 11 = some (.int .i64 i) ∧ Ax.look σ 10 = some q ∧ IntRow F0 M q ns
structure MbO (k : Int) (v : V) (l : List Ba) (u : Value) (seed : Int) (F0 : Fz) (M0 : Hp) (r5 : Nat) (i : Nat) (top : Nat) (σ : Env) (F : Fz) (M : Hp) : Prop extends MbI k v l F0 M0 σ F M top where
  h2 : Ax.look σ 2 = some (.int .i64 16)
  h3 : Ax.look σ 3 = some (.int .i64 seed)
  h5 : Ax.look σ 5 = some (.pointer (some ⟨r5, 0, none⟩))
  f5 : M r5 = some ⟨abCs v u, 37, 7⟩
  h12 : Ax.look σ 12 = some (.int .i64 i)
def mbO (v : V) (l : List Ba) (u : Value) (seed : Int) (F0 : Fz) (M0 : Hp) (r5 : Nat) (n : Nat) (σ : Env) (F : Fz) (M : Hp) : Prop :=
  ∃ i : Nat, MbO 7 v l u seed F0 M0 r5 i (i * 1000) σ F M ∧ i + n = l.length
def mbJ (v : V) (l : List Ba) (u : Value) (seed : Int) (F0 : Fz) (M0 : Hp) (r5 : Nat) (i : Nat) (q : Value) (ns : List Int) (n : Nat) (σ : Env) (F : Fz) (M : Hp) : Prop :=
  ∃ j : Nat, MbO 7 v l u seed F0 M0 r5 i (i * 1000 + j) σ F M ∧ j + n = ns.length ∧ Ax.look σ 13 = some q ∧ Ax.look σ 14 = some (.int .i64 j) ∧ IntRow F0 M q ns
theorem k54 (k : Int) (v : V) (u : Value) (l : List Ba) (seed : Int) (h : RdG 7 Ba.cs F M u l) (hold : Old F M) (hok : absB k v l = true) :
    CallsA Try.prog 54 [.int .i64 k, abV v u, .int .i64 16, .int .i64 seed] F M (membR k v l F M) := by
  refine callsA_of hm Try.func54 e54 (Nat.le_of_ble_eq_true rfl) ?_
  have hp := abs_pre hok
  have h' := h
  obtain ⟨_, ad, cap, _, rfl, _⟩ := h
  simp only [c54, go_sem, reduceCtorEq, reduceIte, Nat.reduceEqDiff, Nat.reduceAdd, Nat.reduceLeDiff, Nat.reduceMul, Int.reduceLT, Int.reduceLE, Int.reduceAdd, Int.reduceSub, Int.reduceMul, Int.reduceNeg, Int.reduceToNat, Int.reduceEq]
  intro r5 hF5 hM5
  by_cases h7 : k = 7
  rotate_left
  · have hv := (hp.2.1 h7).1
    simp only [go_sem, reduceCtorEq, reduceIte, Nat.reduceEqDiff, Nat.reduceAdd, Nat.reduceLeDiff, Nat.reduceMul, Int.reduceLT, Int.reduceLE, Int.reduceAdd, Int.reduceSub, Int.reduceMul, Int.reduceNeg, Int.reduceToNat, Int.reduceEq, h7]
    refine callK_of (k39_gen _ _ v seed 16 5 8 (by decide) (by decide) (by decide) (by decide) (by decide) hv) ?_
    rintro q G M1 hq
    obtain ⟨hG, le, kq, oq, ns, hns, hmem, row⟩ := hq.int
    rw [hG]
    refine ⟨(fun h => by cases h), ?_⟩
    have kp1 : Keep M M1 := ((Keep.refl M).new hM5).trans kq
    have old1 := oq (hold.upd hF5)
    simp only [go_sem, reduceCtorEq, reduceIte, Nat.reduceEqDiff, Nat.reduceAdd, Nat.reduceLeDiff, Nat.reduceMul, Int.reduceLT, Int.reduceLE, Int.reduceAdd, Int.reduceSub, Int.reduceMul, Int.reduceNeg, Int.reduceToNat, Int.reduceEq]
    refine loop_of (mbN k v l F M q ns) ns.length ?_ ?_
    · exact ⟨0, ⟨rfl, kp1, old1, _, [], by simp only [go_sem, reduceCtorEq, reduceIte, Nat.reduceEqDiff], MineG.nil, by simp, by simp⟩, by omega, by simp only [go_sem, reduceCtorEq, reduceIte, Nat.reduceEqDiff] <;> rfl, by simp only [go_sem, reduceCtorEq, reduceIte, Nat.reduceEqDiff], row⟩
    clear row old1 kp1 oq kq le hq hG
    rintro n σ F' M2 ⟨i, s, hi, h11, h10, row⟩
    obtain ⟨w, m, h9, mine, hml, hmm⟩ := s.st
    obtain rfl := s.ff
    obtain ⟨aq, cq, eq⟩ := row.shape
    have h10' := h10
    rw [eq] at h10'
    by_cases hil : (i : Int) < ns.length
    rotate_left
    · simp only [go_sem, reduceCtorEq, reduceIte, Nat.reduceEqDiff, Nat.reduceAdd, Nat.reduceLeDiff, Nat.reduceMul, Int.reduceLT, Int.reduceLE, Int.reduceAdd, Int.reduceSub, Int.reduceMul, Int.reduceNeg, Int.reduceToNat, Int.reduceEq, h10', h9, h11, hil]
      obtain ⟨M5, k1, k2, hr⟩ := mine.alone s.kp
      exact ⟨F', M5, k1.wk F', m, by omega, hmm, hr⟩
    have hi0 : (0 : Int) ≤ i := by omega
    have hil' : i < ns.length := by omega
    have ei : IntKind.i64.wrap ((i : Int) + 1) = i + 1 := w64 (by omega) (by omega)
    obtain ⟨g, cg, eg, bg, dg⟩ := row.get hil'
    have hy := hmem ns[i] (List.getElem_mem _)
    generalize ns[i] = y at *
    have h10' := h10
    rw [eg] at h10'
    simp only [go_sem, reduceCtorEq, reduceIte, Nat.reduceEqDiff, Nat.reduceAdd, Nat.reduceLeDiff, Nat.reduceMul, Int.reduceLT, Int.reduceLE, Int.reduceAdd, Int.reduceSub, Int.reduceMul, Int.reduceNeg, Int.reduceToNat, Int.reduceEq, h10', h9, h11, hil, hi0, Int.toNat_natCast, Nat.mul_one, Nat.zero_add, bg, dg]
    intro rb hFb hMb
    simp only [go_sem, reduceCtorEq, reduceIte, Nat.reduceEqDiff, Nat.reduceAdd, Nat.reduceLeDiff, Nat.reduceMul, Int.reduceLT, Int.reduceLE, Int.reduceAdd, Int.reduceSub, Int.reduceMul, Int.reduceNeg, Int.reduceToNat, Int.reduceEq, h10', h9, h11]
    refine apMG_of (xs := m) (ys := [⟨false, y, 0, 0⟩]) (fun x => rfl) Sc.plain (by decide) (mine.fresh hMb) (s.kp.new (s.kp.free hMb)) ⟨rfl, .inr ⟨⟨rb, 0, none⟩, 1, rfl, .inr ⟨rb, 0, _, rfl, blk_upd_same, by simp [Sc.take4]⟩⟩⟩ (by simp) (by simp; omega) ?_
    rintro v' M5 _ hfr kp5 ho5 mine5
    simp only [go_sem, reduceCtorEq, reduceIte, Nat.reduceEqDiff, Nat.reduceAdd, Nat.reduceLeDiff, Nat.reduceMul, Int.reduceLT, Int.reduceLE, Int.reduceAdd, Int.reduceSub, Int.reduceMul, Int.reduceNeg, Int.reduceToNat, Int.reduceEq, h10', h9, h11, ei]
    refine ⟨n - 1, by omega, i + 1, ⟨rfl, kp5, ho5 (s.old.upd hFb), v', _, by simp only [go_sem, reduceCtorEq, reduceIte, Nat.reduceEqDiff], mine5, by simp; omega, fun t ht => ?_⟩, by omega, by simp only [go_sem, reduceCtorEq, reduceIte, Nat.reduceEqDiff]; rfl, by simp only [go_sem, reduceCtorEq, reduceIte, Nat.reduceEqDiff, h10', eg], (row.new hMb).frame hfr (by decide)⟩
    rcases List.mem_append.1 ht with ht | ht
    · exact hmm t ht
    · simp at ht; subst ht
      simp only [memOf, h7, if_false]
      exact ⟨trivial, trivial, trivial, hy.1, hy.2.1, hy.2.2⟩
  subst h7
  simp only [go_sem, reduceCtorEq, reduceIte, Nat.reduceEqDiff, Nat.reduceAdd, Nat.reduceLeDiff, Nat.reduceMul, Int.reduceLT, Int.reduceLE, Int.reduceAdd, Int.reduceSub, Int.reduceMul, Int.reduceNeg, Int.reduceToNat, Int.reduceEq]
  refine loop_of (mbO v l (.slice ad l.length cap) seed F M r5) l.length ?_ ?_
  · exact ⟨0, ⟨⟨rfl, (Keep.refl M).new hM5, hold.upd hF5, _, [], by simp only [go_sem, reduceCtorEq, reduceIte, Nat.reduceEqDiff], MineG.nil, by simp, by simp⟩, by simp only [go_sem, reduceCtorEq, reduceIte, Nat.reduceEqDiff], by simp only [go_sem, reduceCtorEq, reduceIte, Nat.reduceEqDiff], by simp only [go_sem, reduceCtorEq, reduceIte, Nat.reduceEqDiff], Hp.upd_same _ _ _, by simp only [go_sem, reduceCtorEq, reduceIte, Nat.reduceEqDiff] <;> rfl⟩, by omega⟩
  rintro n σ F' M2 ⟨i, s, hi⟩
  obtain ⟨w, m, h9, mine, hml, hmm⟩ := s.st
  obtain rfl := s.ff
  have b5 := blk_M (F := F') s.f5
  by_cases hil : (i : Int) < l.length
  rotate_left
  · simp only [go_sem, reduceCtorEq, reduceIte, Nat.reduceEqDiff, Nat.reduceAdd, Nat.reduceLeDiff, Nat.reduceMul, Int.reduceLT, Int.reduceLE, Int.reduceAdd, Int.reduceSub, Int.reduceMul, Int.reduceNeg, Int.reduceToNat, Int.reduceEq, s.h2, s.h3, s.h5, s.h12, h9, hil, b5]
    obtain ⟨M5, k1, k2, hr⟩ := mine.alone s.kp
    have := hp.1
    exact ⟨F', M5, k1.wk F', m, by omega, hmm, hr⟩
  have hi0 : (0 : Int) ≤ i := by omega
  have hil' : i < l.length := by omega
  have ei : IntKind.i64.wrap ((i : Int) + 1) = i + 1 := w64 (by omega) (by omega)
  obtain ⟨_, _, _, _, eu, hrd⟩ := h'.keep s.kp s.old
  cases eu
  rcases hrd with h | ⟨bb, o, cs, rfl, hb, hc⟩
  · rw [h] at hil'; simp at hil'
  obtain ⟨d1, d2⟩ := hc i hil'
  obtain ⟨e1, e2, e3, e4⟩ := ba_row d1 d2
  have hx := hp.2.2 l[i] (List.getElem_mem _)
  have hpt : ∀ y, l[i].v.has y = true → pointsB l l[i].b y = true := fun y hy => by
    unfold pointsB
    rw [List.any_eq_true]
    exact ⟨l[i], List.getElem_mem _, by simp [hy]⟩
  generalize hlx : l[i] = x at *
  simp only [go_sem, reduceCtorEq, reduceIte, Nat.reduceEqDiff, Nat.reduceAdd, Nat.reduceLeDiff, Nat.reduceMul, Int.reduceLT, Int.reduceLE, Int.reduceAdd, Int.reduceSub, Int.reduceMul, Int.reduceNeg, Int.reduceToNat, Int.reduceEq, s.h2, s.h3, s.h5, s.h12, h9, hil, hi0, Int.toNat_natCast, b5, hb, e3, e4]
  refine callK_of (k39_gen _ _ x.v seed 16 5 8 (by decide) (by decide) (by decide) (by decide) (by decide) hx.2.2.1) ?_
  rintro q G M3 hq
  obtain ⟨hG, le, kq, oq, ns, hns, hmem, row⟩ := hq.int
  rw [hG]
  refine ⟨(fun h => by cases h), ?_⟩
  simp only [go_sem, reduceCtorEq, reduceIte, Nat.reduceEqDiff, Nat.reduceAdd, Nat.reduceLeDiff, Nat.reduceMul, Int.reduceLT, Int.reduceLE, Int.reduceAdd, Int.reduceSub, Int.reduceMul, Int.reduceNeg, Int.reduceToNat, Int.reduceEq, s.h2, s.h3, s.h5, s.h12, h9]
  refine loop_of (mbJ v l (.slice (some ⟨bb, o, none⟩) l.length cap) seed F' M r5 i q ns) ns.length ?_ ?_
  · exact ⟨0, ⟨⟨rfl, s.kp.trans kq, oq s.old, w, m, by simp only [go_sem, reduceCtorEq, reduceIte, Nat.reduceEqDiff, h9], mine.keep kq, by omega, hmm⟩, by simp only [go_sem, reduceCtorEq, reduceIte, Nat.reduceEqDiff, s.h2], by simp only [go_sem, reduceCtorEq, reduceIte, Nat.reduceEqDiff, s.h3], by simp only [go_sem, reduceCtorEq, reduceIte, Nat.reduceEqDiff, s.h5], kq _ _ s.f5, by simp only [go_sem, reduceCtorEq, reduceIte, Nat.reduceEqDiff, s.h12]⟩, by omega, by simp only [go_sem, reduceCtorEq, reduceIte, Nat.reduceEqDiff], by simp only [go_sem, reduceCtorEq, reduceIte, Nat.reduceEqDiff] <;> rfl, row⟩
  clear row oq kq le hq hG mine hmm hml h9 b5 hb
  clear s
  clear m w
  rintro nj σ F2 M2 ⟨j, s, hj, h13, h14, row⟩
  obtain ⟨w, m, h9, mine, hml, hmm⟩ := s.st
  obtain rfl := s.ff
  have b5 := blk_M (F := F2) s.f5
  obtain ⟨aq, cq, eq⟩ := row.shape
  have h13' := h13
  rw [eq] at h13'
  by_cases hjl : (j : Int) < ns.length
  rotate_left
  · simp only [go_sem, reduceCtorEq, reduceIte, Nat.reduceEqDiff, Nat.reduceAdd, Nat.reduceLeDiff, Nat.reduceMul, Int.reduceLT, Int.reduceLE, Int.reduceAdd, Int.reduceSub, Int.reduceMul, Int.reduceNeg, Int.reduceToNat, Int.reduceEq, s.h2, s.h3, s.h5, s.h12, h9, h13', h14, hjl, ei]
    exact ⟨n - 1, by omega, i + 1, ⟨⟨rfl, s.kp, s.old, w, m, by simp only [go_sem, reduceCtorEq, reduceIte, Nat.reduceEqDiff, h9], mine, by omega, hmm⟩, by simp only [go_sem, reduceCtorEq, reduceIte, Nat.reduceEqDiff, s.h2], by simp only [go_sem, reduceCtorEq, reduceIte, Nat.reduceEqDiff, s.h3], by simp only [go_sem, reduceCtorEq, reduceIte, Nat.reduceEqDiff, s.h5], s.f5, by simp only [go_sem, reduceCtorEq, reduceIte, Nat.reduceEqDiff]; rfl⟩, by omega⟩
  have hj0 : (0 : Int) ≤ j := by omega
  have hjl' : j < ns.length := by omega
  have ej : IntKind.i64.wrap ((j : Int) + 1) = j + 1 := w64 (by omega) (by omega)
  obtain ⟨g, cg, eg, bg, dg⟩ := row.get hjl'
  have hy := hmem ns[j] (List.getElem_mem _)
  generalize ns[j] = y at *
  have h13' := h13
  rw [eg] at h13'
  obtain ⟨_, _, _, _, eu, hrd⟩ := h'.keep s.kp s.old
  cases eu
  rcases hrd with h | ⟨bb', o', cs', ea, hb', hc'⟩
  · rw [h] at hil'; simp at hil'
  cases ea
  by_cases hy32 : y ≤ 32
  rotate_left
  · simp only [go_sem, reduceCtorEq, reduceIte, Nat.reduceEqDiff, Nat.reduceAdd, Nat.reduceLeDiff, Nat.reduceMul, Int.reduceLT, Int.reduceLE, Int.reduceAdd, Int.reduceSub, Int.reduceMul, Int.reduceNeg, Int.reduceToNat, Int.reduceEq, s.h2, s.h3, s.h5, s.h12, h9, h13', h14, hjl, hj0, Int.toNat_natCast, Nat.mul_one, Nat.zero_add, bg, dg, hy32, ej]
    exact ⟨nj - 1, by omega, j + 1, ⟨⟨rfl, s.kp, s.old, w, m, by simp only [go_sem, reduceCtorEq, reduceIte, Nat.reduceEqDiff, h9], mine, by omega, hmm⟩, by simp only [go_sem, reduceCtorEq, reduceIte, Nat.reduceEqDiff, s.h2], by simp only [go_sem, reduceCtorEq, reduceIte, Nat.reduceEqDiff, s.h3], by simp only [go_sem, reduceCtorEq, reduceIte, Nat.reduceEqDiff, s.h5], s.f5, by simp only [go_sem, reduceCtorEq, reduceIte, Nat.reduceEqDiff, s.h12]⟩, by omega, by simp only [go_sem, reduceCtorEq, reduceIte, Nat.reduceEqDiff, h13', eg], by simp only [go_sem, reduceCtorEq, reduceIte, Nat.reduceEqDiff]; rfl, row⟩
  obtain ⟨d1', d2'⟩ := hc' i hil'
  rw [hlx] at d2'
  obtain ⟨e1', _, _, _⟩ := ba_row d1' d2'
  simp only [go_sem, reduceCtorEq, reduceIte, Nat.reduceEqDiff, Nat.reduceAdd, Nat.reduceLeDiff, Nat.reduceMul, Int.reduceLT, Int.reduceLE, Int.reduceAdd, Int.reduceSub, Int.reduceMul, Int.reduceNeg, Int.reduceToNat, Int.reduceEq, s.h2, s.h3, s.h5, s.h12, h9, h13', h14, hjl, hj0, hil, hi0, Int.toNat_natCast, Nat.mul_one, Nat.zero_add, Nat.add_zero, bg, dg, hy32, b5, hb', e1']
  intro rb hFb hMb
  have gb := ne_of_none hMb s.f5
  simp only [go_sem, reduceCtorEq, reduceIte, Nat.reduceEqDiff, Nat.reduceAdd, Nat.reduceLeDiff, Nat.reduceMul, Int.reduceLT, Int.reduceLE, Int.reduceAdd, Int.reduceSub, Int.reduceMul, Int.reduceNeg, Int.reduceToNat, Int.reduceEq, s.h2, s.h3, s.h5, s.h12, h9, h13', h14]
  refine apMG_of (xs := m) (ys := [⟨true, 0, x.b, y⟩]) (fun x => rfl) Sc.plain (by decide) (mine.fresh hMb) (s.kp.new (s.kp.free hMb)) ⟨rfl, .inr ⟨⟨rb, 0, none⟩, 1, rfl, .inr ⟨rb, 0, _, rfl, blk_upd_same, by simp [Sc.take4]⟩⟩⟩ (by simp) (by simp; omega) ?_
  rintro v' M5 _ hfr kp5 ho5 mine5
  have f55 := hfr _ _ (by rw [Hp.upd_ne' gb.1]; exact s.f5) (by simp)
  simp only [go_sem, reduceCtorEq, reduceIte, Nat.reduceEqDiff, Nat.reduceAdd, Nat.reduceLeDiff, Nat.reduceMul, Int.reduceLT, Int.reduceLE, Int.reduceAdd, Int.reduceSub, Int.reduceMul, Int.reduceNeg, Int.reduceToNat, Int.reduceEq, s.h2, s.h3, s.h5, s.h12, h9, h13', h14, ej]
  refine ⟨nj - 1, by omega, j + 1, ⟨⟨rfl, kp5, ho5 (s.old.upd hFb), v', _, by simp only [go_sem, reduceCtorEq, reduceIte, Nat.reduceEqDiff], mine5, by simp; omega, fun t ht => ?_⟩, by simp only [go_sem, reduceCtorEq, reduceIte, Nat.reduceEqDiff, s.h2], by simp only [go_sem, reduceCtorEq, reduceIte, Nat.reduceEqDiff, s.h3], by simp only [go_sem, reduceCtorEq, reduceIte, Nat.reduceEqDiff, s.h5], f55, by simp only [go_sem, reduceCtorEq, reduceIte, Nat.reduceEqDiff, s.h12]⟩, by omega, by simp only [go_sem, reduceCtorEq, reduceIte, Nat.reduceEqDiff, h13', eg], by simp only [go_sem, reduceCtorEq, reduceIte, Nat.reduceEqDiff]; rfl, (row.new hMb).frame hfr (by decide)⟩
  rcases List.mem_append.1 ht with ht | ht
  · exact hmm t ht
  · simp at ht; subst ht
    exact ⟨rfl, rfl, hy.1, hy32, hpt y hy.2.2⟩
structure WiI (k : Int) (v2 : V) (u2 : Value) (l2 : List Ba) (m : List Sc) (w : Value) (F0 : Fz) (M0 : Hp) (r6 : Nat) (n : Nat) (σ : Env) (F : Fz) (M : Hp) : Prop where
  ff : F = F0
  mm : M = M0
  h0 : Ax.look σ 0 = some (.int .i64 k)
  h6 : Ax.look σ 6 = some (.pointer (some ⟨r6, 0, none⟩))
  h9 : Ax.look σ 9 = some w
  st : ∃ j : Nat, j + n = m.length ∧ Ax.look σ 10 = some (.int .i64 j)
theorem k52 (k : Int) (v1 v2 : V) (u1 u2 : Value) (l1 l2 : List Ba) (seed : Int) (h1 : RdG 7 Ba.cs F M u1 l1) (h2 : RdG 7 Ba.cs F M u2 l2) (hold : Old F M) (ha : absB k v1 l1 = true) (hin : ∀ s, memOf k v1 l1 s → hasB k v2 l2 s = true) :
    CallsA Try.prog 52 [.int .i64 k, abV v1 u1, abV v2 u2, .int .i64 seed] F M (Same F M (.bool true)) := by
  refine callsA_of hm Try.func52 e52 (Nat.le_of_ble_eq_true rfl) ?_
  have h1' := h1
  have h2' := h2
  obtain ⟨_, a1, c1, _, rfl, _⟩ := h1
  obtain ⟨_, a2, c2, _, rfl, _⟩ := h2
  simp only [c52, go_sem, reduceCtorEq, reduceIte, Nat.reduceEqDiff, Nat.reduceAdd, Nat.reduceLeDiff, Nat.reduceMul, Int.reduceLT, Int.reduceLE, Int.reduceAdd, Int.reduceSub, Int.reduceMul, Int.reduceNeg, Int.reduceToNat, Int.reduceEq]
  intro r5 hF5 hM5
  simp only [go_sem, reduceCtorEq, reduceIte, Nat.reduceEqDiff, Nat.reduceAdd, Nat.reduceLeDiff, Nat.reduceMul, Int.reduceLT, Int.reduceLE, Int.reduceAdd, Int.reduceSub, Int.reduceMul, Int.reduceNeg, Int.reduceToNat, Int.reduceEq]
  intro r6 hF6 hM6
  have g6 := fresh_of hM6
  have kp0 : Keep M ((M.upd r5 ⟨abCs v1 (.slice a1 l1.length c1), 37, 7⟩).upd r6 ⟨abCs v2 (.slice a2 l2.length c2), 37, 7⟩) := ((Keep.refl M).new hM5).new g6.2.2
  have old0 : Old F ((M.upd r5 ⟨abCs v1 (.slice a1 l1.length c1), 37, 7⟩).upd r6 ⟨abCs v2 (.slice a2 l2.length c2), 37, 7⟩) := (hold.upd hF5).upd hF6
  have f6 : ((M.upd r5 ⟨abCs v1 (.slice a1 l1.length c1), 37, 7⟩).upd r6 ⟨abCs v2 (.slice a2 l2.length c2), 37, 7⟩) r6 = some ⟨abCs v2 (.slice a2 l2.length c2), 37, 7⟩ := Hp.upd_same _ _ _
  simp only [go_sem, reduceCtorEq, reduceIte, Nat.reduceEqDiff, Nat.reduceAdd, Nat.reduceLeDiff, Nat.reduceMul, Int.reduceLT, Int.reduceLE, Int.reduceAdd, Int.reduceSub, Int.reduceMul, Int.reduceNeg, Int.reduceToNat, Int.reduceEq, g6]
  refine callK_of (k54 _ _ k v1 _ l1 seed (h1'.keep kp0 old0) old0 ha) ?_
  generalize (M.upd r5 ⟨abCs v1 (.slice a1 l1.length c1), 37, 7⟩).upd r6 ⟨abCs v2 (.slice a2 l2.length c2), 37, 7⟩ = M1 at *
  rintro w G M2 ⟨m, hml, hmm, hr⟩
  obtain ⟨hG, le, kq, oq, a, c, rfl, rdq⟩ := hr.le (f := Sc.cs) (fun x => rfl) (by omega)
  rw [hG]
  refine ⟨(fun h => by cases h), ?_⟩
  have f62 := kq _ _ f6
  have b62 := blk_M (F := F) f62
  have q2 := h2'.keep (kp0.trans kq) (oq old0)
  simp only [go_sem, reduceCtorEq, reduceIte, Nat.reduceEqDiff, Nat.reduceAdd, Nat.reduceLeDiff, Nat.reduceMul, Int.reduceLT, Int.reduceLE, Int.reduceAdd, Int.reduceSub, Int.reduceMul, Int.reduceNeg, Int.reduceToNat, Int.reduceEq, g6]
  refine loop_of (WiI k v2 (.slice a2 l2.length c2) l2 m (.slice a m.length c) F M2 r6) m.length ?_ ?_
  · exact ⟨rfl, rfl, by simp only [go_sem, reduceCtorEq, reduceIte, Nat.reduceEqDiff], by simp only [go_sem, reduceCtorEq, reduceIte, Nat.reduceEqDiff], by simp only [go_sem, reduceCtorEq, reduceIte, Nat.reduceEqDiff], 0, by omega, by simp only [go_sem, reduceCtorEq, reduceIte, Nat.reduceEqDiff] <;> rfl⟩
  rintro n σ F' M3 s
  obtain ⟨j, hj, h10⟩ := s.st
  rw [s.ff, s.mm]
  by_cases hjl : (j : Int) < m.length
  rotate_left
  · simp only [go_sem, reduceCtorEq, reduceIte, Nat.reduceEqDiff, Nat.reduceAdd, Nat.reduceLeDiff, Nat.reduceMul, Int.reduceLT, Int.reduceLE, Int.reduceAdd, Int.reduceSub, Int.reduceMul, Int.reduceNeg, Int.reduceToNat, Int.reduceEq, s.h0, s.h6, s.h9, h10, hjl]
    exact endK_keep (kp0.trans kq) ⟨rfl, rfl, rfl⟩
  have hj0 : (0 : Int) ≤ j := by omega
  have hjl' : j < m.length := by omega
  have ej : IntKind.i64.wrap ((j : Int) + 1) = j + 1 := w64 (by omega) (by omega)
  obtain ⟨bb, o, cap, cs, eu, hb, d1, d2, _⟩ := sc_at rdq hjl'
  have h9 := s.h9
  rw [eu] at h9
  have hin' := hin _ (hmm m[j] (List.getElem_mem _))
  generalize m[j] = y at *
  simp only [go_sem, reduceCtorEq, reduceIte, Nat.reduceEqDiff, Nat.reduceAdd, Nat.reduceLeDiff, Nat.reduceMul, Int.reduceLT, Int.reduceLE, Int.reduceAdd, Int.reduceSub, Int.reduceMul, Int.reduceNeg, Int.reduceToNat, Int.reduceEq, s.h0, s.h6, h9, h10, hjl, hj0, Int.toNat_natCast, hb, d1, d2, b62]
  refine callK_same (k23 _ _ k v2 _ l2 y q2) ?_
  rw [hin']
  simp only [go_sem, reduceCtorEq, reduceIte, Nat.reduceEqDiff, Nat.reduceAdd, Nat.reduceLeDiff, Nat.reduceMul, Int.reduceLT, Int.reduceLE, Int.reduceAdd, Int.reduceSub, Int.reduceMul, Int.reduceNeg, Int.reduceToNat, Int.reduceEq, s.h0, s.h6, h9, h10, ej]
  exact ⟨n - 1, by omega, rfl, rfl, by simp only [go_sem, reduceCtorEq, reduceIte, Nat.reduceEqDiff, s.h0], by simp only [go_sem, reduceCtorEq, reduceIte, Nat.reduceEqDiff, s.h6], by simp only [go_sem, reduceCtorEq, reduceIte, Nat.reduceEqDiff, h9, eu], j + 1, by omega, by simp only [go_sem, reduceCtorEq, reduceIte, Nat.reduceEqDiff]; rfl⟩
end Go.Proofs.Try.K

/- Variables that are sets; what making and joining leaves in them. -/
namespace Go.Proofs.Try.K
open Go Go.Ax Go.Proofs.Try.S
set_option maxRecDepth 100000
set_option linter.unusedSimpArgs false
set_option linter.unusedVariables false

/-- A variable of the call's own that is a set. -/
def SetAt (F0 : Fz) (slot : Nat) (v : V) (l : List Ba) (σ : Env) (M : Hp) : Prop :=
  ∃ (r : Nat) (a : Option Addr) (n c : Nat), Ax.look σ slot = some (.pointer (some ⟨r, 0, none⟩)) ∧ M r = some ⟨abCs v (.slice a n c), 37, 7⟩ ∧ RdG 7 Ba.cs F0 M (.slice a n c) l
theorem SetAt.ext {F0 : Fz} {slot : Nat} {v : V} {l : List Ba} {σ σ' : Env} {M : Hp} (h : SetAt F0 slot v l σ M) (e : Ax.look σ' slot = Ax.look σ slot) : SetAt F0 slot v l σ' M := by
  obtain ⟨r, a, n, c, h1, h2, h3⟩ := h
  exact ⟨r, a, n, c, e.trans h1, h2, h3⟩
theorem SetAt.grow {F0 : Fz} {slot : Nat} {v : V} {l : List Ba} {σ : Env} {M M' : Hp} (h : SetAt F0 slot v l σ M) (kp : Keep M M') (o : Old F0 M') : SetAt F0 slot v l σ M' := by
  obtain ⟨r, a, n, c, h1, h2, h3⟩ := h
  exact ⟨r, a, n, c, h1, kp _ _ h2, h3.keep kp o⟩
theorem joinLe {k : Int} {v1 v2 : V} {l1 l2 : List Ba} {F : Fz} {M : Hp} {u : Value} {F' : Fz} {M' : Hp} (h : joinR2 k v1 l1 v2 l2 F M u F' M') (hab : (absB k v1 l1 && absB k v2 l2) = true) :
    F' = F ∧ Le F M F M' ∧ Keep M M' ∧ (Old F M → Old F M') ∧ ∃ v l a n c, u = .tuple #[abV v (.slice a n c), .int .i64 0] ∧ RdG 7 Ba.cs F M' (.slice a n c) l ∧ BothA k v1 l1 v2 l2 v l := by
  rcases h with ⟨_, w, rfl, v, l, hb, hl, w', rfl, hr⟩ | ⟨h, _⟩
  · obtain ⟨h1, h2, h3, h4, a, c, rfl, h5⟩ := hr.le (f := Ba.cs) (fun x => rfl) (by omega)
    exact ⟨h1, h2, h3, h4, v, l, a, _, c, rfl, h5, hb⟩
  · rw [hab] at h; cases h
theorem meetLe {k : Int} {v1 v2 : V} {l1 l2 : List Ba} {F : Fz} {M : Hp} {u : Value} {F' : Fz} {M' : Hp} (h : meetR2 k v1 l1 v2 l2 F M u F' M') (hab : (absB k v1 l1 && absB k v2 l2) = true) :
    F' = F ∧ Le F M F M' ∧ Keep M M' ∧ (Old F M → Old F M') ∧ ∃ v l a n c, u = .tuple #[abV v (.slice a n c), .int .i64 0] ∧ RdG 7 Ba.cs F M' (.slice a n c) l ∧ CrossA k v1 l1 v2 l2 v l := by
  rcases h with ⟨_, w, rfl, v, l, hb, hl, w', rfl, hr⟩ | ⟨h, _⟩
  · obtain ⟨h1, h2, h3, h4, a, c, rfl, h5⟩ := hr.le (f := Ba.cs) (fun x => rfl) (by omega)
    exact ⟨h1, h2, h3, h4, v, l, a, _, c, rfl, h5, hb⟩
  · rw [hab] at h; cases h
theorem joinNo {k : Int} {v1 v2 : V} {l1 l2 : List Ba} {F : Fz} {M : Hp} {u : Value} {F' : Fz} {M' : Hp} (h : joinR2 k v1 l1 v2 l2 F M u F' M') (hab : (absB k v1 l1 && absB k v2 l2) = false) :
    u = .tuple #[abV V.zero (.slice none 0 0), .int .i64 1] ∧ F' = F ∧ M' = M := by
  rcases h with ⟨h, _⟩ | ⟨_, h⟩
  · rw [hab] at h; cases h
  · exact h
theorem meetNo {k : Int} {v1 v2 : V} {l1 l2 : List Ba} {F : Fz} {M : Hp} {u : Value} {F' : Fz} {M' : Hp} (h : meetR2 k v1 l1 v2 l2 F M u F' M') (hab : (absB k v1 l1 && absB k v2 l2) = false) :
    u = .tuple #[abV V.zero (.slice none 0 0), .int .i64 1] ∧ F' = F ∧ M' = M := by
  rcases h with ⟨h, _⟩ | ⟨_, h⟩
  · rw [hab] at h; cases h
  · exact h

theorem oneLe {k : Int} {s : Sc} {F : Fz} {M : Hp} {u : Value} {F' : Fz} {M' : Hp} (h : oneR k s F M u F' M') (hs : sc6B k s = true) :
    F' = F ∧ Le F M F M' ∧ Keep M M' ∧ (Old F M → Old F M') ∧ ∃ a n c, u = .tuple #[abV (oneV k s) (.slice a n c), .int .i64 0] ∧ RdG 7 Ba.cs F M' (.slice a n c) (oneL k s) := by
  rcases h with ⟨_, w, rfl, ha⟩ | ⟨h, _⟩
  · obtain ⟨h1, h2, h3, h4, a, n, c, rfl, h5⟩ := ha.le
    exact ⟨h1, h2, h3, h4, a, n, c, rfl, h5 (by have := one_len (k := k) (s := s); simp only [oneL] at this; omega)⟩
  · rw [hs] at h; cases h
theorem allLe {k n : Int} {F : Fz} {M : Hp} {u : Value} {F' : Fz} {M' : Hp} (h : allR k n F M u F' M') (hs : (isS k && (decide (0 ≤ n) && decide (n ≤ 6))) = true) :
    F' = F ∧ Le F M F M' ∧ Keep M M' ∧ (Old F M → Old F M') ∧ ∃ a q c, u = .tuple #[abV (allV k) (.slice a q c), .int .i64 0] ∧ RdG 7 Ba.cs F M' (.slice a q c) (allL k n.toNat) := by
  rcases h with ⟨_, w, rfl, ha⟩ | ⟨h, _⟩
  · obtain ⟨h1, h2, h3, h4, a, q, c, rfl, h5⟩ := ha.le
    simp only [Bool.and_eq_true, decide_eq_true_eq] at hs
    exact ⟨h1, h2, h3, h4, a, q, c, rfl, h5 (by have := all_len (k := k) (n := n.toNat); simp only [allL] at this; omega)⟩
  · rw [hs] at h; cases h
end Go.Proofs.Try.K

/- Growing of sets of scalars: how it ranks; contracts of what makes it. -/
namespace Go.Proofs.Try.K
open Go Go.Ax Go.Proofs.Try.S
set_option maxRecDepth 100000
set_option linter.unusedSimpArgs false
set_option linter.unusedVariables false
set_option maxHeartbeats 1000000
variable (F : Fz) (M : Hp)

/-- The rank of a block's base. -/
def rkB (x : Ba) : Nat := if x.v.offs.length = 0 then 0 else if x.b = 0 then 1 else x.v.rank
def sumN (f : Nat → Nat) : Nat → Nat
  | 0 => 0
  | n + 1 => sumN f n + f n
theorem sumN_le {f g : Nat → Nat} : ∀ {n : Nat}, (∀ i, i < n → f i ≤ g i) → sumN f n ≤ sumN g n
  | 0, _ => Nat.le_refl _
  | n + 1, h => Nat.add_le_add (sumN_le (fun i hi => h i (by omega))) (h n (by omega))
theorem sumN_lt {f g : Nat → Nat} : ∀ {n : Nat}, (∀ i, i < n → f i ≤ g i) → (∃ i, i < n ∧ f i < g i) → sumN f n < sumN g n
  | 0, _, h => by obtain ⟨i, h, _⟩ := h; omega
  | n + 1, h, ⟨i, hi, hlt⟩ => by
    have h0 := h n (by omega)
    have h1 := sumN_le (n := n) (fun i hi => h i (by omega))
    by_cases e : i = n
    · subst e; simp only [sumN]; omega
    · have := sumN_lt (n := n) (fun i hi => h i (by omega)) ⟨i, by omega, hlt⟩
      simp only [sumN]; omega
theorem sumN_max {f : Nat → Nat} {b : Nat} (h : ∀ i, f i ≤ b) : ∀ n, sumN f n ≤ n * b
  | 0 => by simp [sumN]
  | n + 1 => by
    have := sumN_max h n
    have := h n
    simp only [sumN, Nat.succ_mul]; omega
def phiL (l : List Ba) : Nat := sumN (fun b => rkB (ofB l b)) 7
def phiA (k : Int) (v : V) (l : List Ba) : Nat := if k = 7 then phiL l else v.rank
theorem rkB_le (x : Ba) : rkB x ≤ 9 := by
  unfold rkB
  have := rank_le x.v
  split
  · omega
  · split <;> omega
theorem phiA_le (k : Int) (v : V) (l : List Ba) : phiA k v l ≤ 63 := by
  unfold phiA
  split
  · exact sumN_max (fun i => rkB_le _) 7
  · have := rank_le v; omega
theorem offs_some {v : V} (h : v.ok = true) : 0 < v.offs.length ↔ ∃ o, 0 ≤ o ∧ o ≤ 32 ∧ v.has o = true := by
  constructor
  · intro hl
    obtain ⟨o, ho⟩ := List.exists_mem_of_length_pos hl
    exact ⟨o, (mem_offs h).1 ho⟩
  · rintro ⟨o, ho⟩
    exact List.length_pos_of_mem ((mem_offs h).2 ho)
/-- A block's base, grown by another. -/
structure OutB (x y z : Ba) : Prop where
  b : z.b = x.b
  ok : z.v.ok = true
  w : z.v.w = 8
  left : ∀ o, 0 ≤ o → o ≤ 32 → x.v.has o = true → z.v.has o = true
  right : ∀ o, 0 ≤ o → o ≤ 32 → y.v.has o = true → z.v.has o = true
  null : x.b = 0 → ∀ o, 0 ≤ o → o ≤ 255 → z.v.has o = true → o = 0
  rank : rkB x ≤ rkB z
  more : ∀ o, 0 ≤ o → o ≤ 32 → y.v.has o = true → ¬ x.v.has o = true → rkB x < rkB z
structure PreO (x y : Ba) : Prop extends PreB x y where
  nx : x.b = 0 → ∀ o, 0 ≤ o → o ≤ 255 → x.v.has o = true → o = 0
  ny : x.b = 0 → ∀ o, 0 ≤ o → o ≤ 255 → y.v.has o = true → o = 0
theorem outB_null {x y z : Ba} (hp : PreO x y) (h0 : x.b = 0) (h : BothB x y z) : OutB x y z := by
  have hz0 : z.b = 0 := by rw [h.b, h0]
  have hzn : ∀ o, 0 ≤ o → o ≤ 255 → z.v.has o = true → o = 0 := h.one 0 (fun o o0 o1 ho => by
    rcases ho with ho | ho
    · exact hp.nx h0 o o0 (by omega) ho
    · exact hp.ny h0 o o0 (by omega) ho)
  have hone : ∀ o, 0 ≤ o → o ≤ 32 → z.v.has o = true → rkB z = 1 := fun o o0 o1 ho => by
    have := (offs_some h.ok).2 ⟨o, o0, o1, ho⟩
    unfold rkB
    rw [if_neg (by omega), if_pos hz0]
  refine ⟨h.b, h.ok, h.w, fun o o0 o1 ho => h.all o o0 o1 (.inl ho), fun o o0 o1 ho => h.all o o0 o1 (.inr ho), fun _ => hzn, ?_, fun o o0 o1 ho hn => ?_⟩
  · by_cases hx : 0 < x.v.offs.length
    · obtain ⟨o, o0, o1, ho⟩ := (offs_some hp.okx).1 hx
      rw [hone o o0 o1 (h.all o o0 o1 (.inl ho))]
      unfold rkB
      rw [if_neg (by omega), if_pos h0]; omega
    · unfold rkB
      rw [if_pos (by omega)]; omega
  · have e0 := hp.ny h0 o o0 (by omega) ho
    have hx : ¬ 0 < x.v.offs.length := fun hx => by
      obtain ⟨o', a0, a1, a2⟩ := (offs_some hp.okx).1 hx
      have := hp.nx h0 o' a0 (by omega) a2
      rw [this, ← e0] at a2
      exact hn a2
    rw [hone o o0 o1 (h.all o o0 o1 (.inr ho))]
    unfold rkB
    rw [if_pos (by omega)]; omega
theorem outB_num {x y : Ba} {p : V} (hp : PreO x y) (h0 : ¬ x.b = 0) (h : PackR y.v.offs p) : OutB x y ⟨x.b, x.v.out p⟩ := by
  have os := out_spec hp.okx h.ok (by rw [h.w, hp.wx])
  have hm : mostV x.v.w = 255 := by rw [hp.wx]; decide
  have hmp : mostV p.w = 255 := by rw [h.w]; decide
  have hleft : ∀ o, 0 ≤ o → o ≤ 32 → x.v.has o = true → (x.v.out p).has o = true := fun o o0 o1 ho => os.left o o0 (by omega) ho
  have hright : ∀ o, 0 ≤ o → o ≤ 32 → y.v.has o = true → (x.v.out p).has o = true := fun o o0 o1 ho => os.right o o0 (by omega) (h.all o ((mem_offs hp.oky).2 ⟨o0, o1, ho⟩))
  have hrk : ∀ o, 0 ≤ o → o ≤ 32 → (x.v.out p).has o = true → rkB ⟨x.b, x.v.out p⟩ = (x.v.out p).rank ∧ 1 ≤ (x.v.out p).rank := fun o o0 o1 ho => by
    have h1 := (offs_some os.ok).2 ⟨o, o0, o1, ho⟩
    refine ⟨?_, rank_pos (fun hv => ?_)⟩
    · unfold rkB
      rw [if_neg (by show ¬ (x.v.out p).offs.length = 0; omega), if_neg h0]
    · have := void_has os.ok hv o o0 (by rw [os.w, hm]; omega)
      rw [this] at ho; cases ho
  refine ⟨rfl, os.ok, by show (x.v.out p).w = 8; rw [os.w, hp.wx], hleft, hright, fun h => absurd h h0, ?_, fun o o0 o1 ho hn => ?_⟩
  · by_cases hx : 0 < x.v.offs.length
    · obtain ⟨o, o0, o1, ho⟩ := (offs_some hp.okx).1 hx
      rw [(hrk o o0 o1 (hleft o o0 o1 ho)).1]
      unfold rkB
      rw [if_neg (by omega), if_neg h0]
      by_cases e : x.v.out p = x.v
      · rw [e]; omega
      · have := out_rank hp.okx h.ok (by rw [h.w, hp.wx]) e
        omega
    · unfold rkB
      rw [if_pos (by omega)]; omega
  · have hz := hright o o0 o1 ho
    obtain ⟨q1, q2⟩ := hrk o o0 o1 hz
    rw [q1]
    have e : ¬ x.v.out p = x.v := fun e => by rw [e] at hz; exact hn hz
    have := out_rank hp.okx h.ok (by rw [h.w, hp.wx]) e
    by_cases hx : 0 < x.v.offs.length
    · unfold rkB
      rw [if_neg (by omega), if_neg h0]
      exact this
    · unfold rkB
      rw [if_pos (by omega)]; omega
theorem ofB_pre2 {l1 l2 : List Ba} (h1 : ptrsB l1 = true) (h2 : ptrsB l2 = true) (b : Int) : PreO (ofB l1 b) (ofB l2 b) := by
  refine { toPreB := ofB_pre h1 h2 b, nx := fun h => ?_, ny := fun h => ?_ }
  · rw [ofB_b] at h; exact (ofB_ok h1 b).2.2 h
  · rw [ofB_b] at h; exact (ofB_ok h2 b).2.2 h
theorem outB_each {l1 l2 : List Ba} {z : Nat → Ba} (hz : ∀ b : Nat, b < 7 → OutB (ofB l1 b) (ofB l2 b) (z b)) : EachR z :=
  ⟨fun i hi => by rw [(hz i hi).b, ofB_b], fun i hi => ⟨(hz i hi).ok, (hz i hi).w⟩, (hz 0 (by omega)).null (by rw [ofB_b]; rfl)⟩
theorem rk_nothing (b : Int) : rkB ⟨b, V.nothing 8⟩ = 0 := by
  have : (V.nothing 8).offs.length = 0 := by decide
  unfold rkB
  rw [if_pos this]
theorem rk_each {z : Nat → Ba} (he : EachR z) {b : Nat} (hb : b < 7) : rkB (ofB (eachL z 7) b) = rkB (z b) := by
  unfold ofB
  split
  · rename_i x hx
    have h1 := List.find?_some hx
    have h2 := List.mem_of_find?_eq_some hx
    unfold eachL at h2
    rw [List.mem_filter, List.mem_map] at h2
    obtain ⟨⟨i, hi, rfl⟩, _⟩ := h2
    rw [List.mem_range] at hi
    simp only [decide_eq_true_eq, he.b i hi] at h1
    have : i = b := by omega
    rw [this]
  · rename_i hx
    rw [rk_nothing]
    by_cases ho : 0 < (z b).v.offs.length
    · have := List.find?_eq_none.1 hx (z b) (by
        unfold eachL
        rw [List.mem_filter, List.mem_map]
        exact ⟨⟨b, by simpa using hb, rfl⟩, by simpa using ho⟩)
      simp [he.b b hb] at this
    · unfold rkB
      rw [if_pos (by omega)]
/-- A set, grown by another. -/
structure WideA (k : Int) (v1 : V) (l1 : List Ba) (v2 : V) (l2 : List Ba) (v : V) (l : List Ba) : Prop where
  may : absB k v l = true
  left : ∀ s, memOf k v1 l1 s → hasB k v l s = true
  right : ∀ s, memOf k v2 l2 s → hasB k v l s = true
  same : underB k v2 l2 v1 l1 = true → v = v1 ∧ l = l1
  rank : phiA k v1 l1 + (if (decide (v = v1) && decide (l = l1)) = true then 0 else 1) ≤ phiA k v l
theorem wideA_same {k : Int} {v1 v2 : V} {l1 l2 : List Ba} (h1 : absB k v1 l1 = true) (h2 : absB k v2 l2 = true) (hu : underB k v2 l2 v1 l1 = true) : WideA k v1 l1 v2 l2 v1 l1 :=
  ⟨h1, fun s hs => memOf_has hs, fun s hs => under_has h2 h1 hu hs, fun _ => ⟨rfl, rfl⟩, by simp⟩
theorem wideA_num {k : Int} {v1 v2 : V} (h7 : ¬ k = 7) (hk : 0 < wK k) (ok1 : v1.ok = true) (ok2 : v2.ok = true) (w1 : v1.w = wK k) (w2 : v2.w = wK k) : WideA k v1 [] v2 [] (v1.out v2) [] := by
  have os := out_spec ok1 ok2 (by rw [w1, w2])
  refine ⟨?_, fun s hs => ?_, fun s hs => ?_, fun hu => ?_, ?_⟩
  · simp only [absB, h7, if_false, os.ok, os.w, w1]; simp [hk]
  · simp only [memOf, h7, if_false] at hs
    simp only [hasB, h7, if_false]
    exact os.left _ hs.2.2.2.1 hs.2.2.2.2.1 hs.2.2.2.2.2
  · simp only [memOf, h7, if_false] at hs
    simp only [hasB, h7, if_false]
    have := hs.2.2.2.2.1
    exact os.right _ hs.2.2.2.1 hs.2.2.2.2.1 hs.2.2.2.2.2
  · simp only [underB, h7, if_false] at hu
    exact ⟨by unfold V.out; rw [if_pos hu], rfl⟩
  · simp only [phiA, h7, if_false]
    by_cases e : v1.out v2 = v1
    · rw [e]; simp
    · have := out_rank ok1 ok2 (by rw [w1, w2]) e
      simp [e]; omega
theorem wideA_ptr {l1 l2 : List Ba} (h1 : ptrsB l1 = true) (h2 : ptrsB l2 = true) {z : Nat → Ba} (hz : ∀ b : Nat, b < 7 → OutB (ofB l1 b) (ofB l2 b) (z b)) (hu : underB 7 V.zero l2 V.zero l1 = false) : WideA 7 V.zero l1 V.zero l2 V.zero (eachL z 7) := by
  have he := outB_each hz
  refine ⟨?_, fun s hs => ?_, fun s hs => ?_, fun h => (by rw [hu] at h; cases h), ?_⟩
  · simp only [absB, if_true, eachL_base he]; decide
  · simp only [memOf, if_true] at hs
    obtain ⟨_, _, o0, o1, hp⟩ := hs
    obtain ⟨b0, b1⟩ := points_in h1 hp
    obtain ⟨b, hb⟩ : ∃ b : Nat, s.b = b := ⟨s.b.toNat, by omega⟩
    simp only [hasB, if_true, hb]
    rw [eachL_of he (by omega) o0 o1]
    rw [points_of h1, hb] at hp
    exact (hz b (by omega)).left _ o0 o1 hp
  · simp only [memOf, if_true] at hs
    obtain ⟨_, _, o0, o1, hp⟩ := hs
    obtain ⟨b0, b1⟩ := points_in h2 hp
    obtain ⟨b, hb⟩ : ∃ b : Nat, s.b = b := ⟨s.b.toNat, by omega⟩
    simp only [hasB, if_true, hb]
    rw [eachL_of he (by omega) o0 o1]
    rw [points_of h2, hb] at hp
    exact (hz b (by omega)).right _ o0 o1 hp
  · have hlt : phiL l1 < phiL (eachL z 7) := by
      refine sumN_lt (fun i hi => ?_) ?_
      · rw [rk_each he hi]; exact (hz i hi).rank
      · have hok : ∀ x ∈ l2, x.v.ok = true := fun x hx => (baseB_ok ((okAt_base h2).1 x hx)).1
        simp only [underB, if_true, Bool.not_eq_false', List.any_eq_true] at hu
        obtain ⟨s, hs, hn⟩ := hu
        obtain ⟨_, _, o0, o1, hp⟩ := (mem_memB hok).1 hs
        obtain ⟨b0, b1⟩ := points_in h2 hp
        obtain ⟨b, hb⟩ : ∃ b : Nat, s.b = b := ⟨s.b.toNat, by omega⟩
        refine ⟨b, by omega, ?_⟩
        rw [rk_each he (by omega)]
        simp only [o1, decide_true, Bool.true_and, Bool.not_eq_true'] at hn
        rw [points_of h2, hb] at hp
        rw [points_of h1, hb] at hn
        exact (hz b (by omega)).more _ o0 o1 hp (by rw [hn]; simp)
    simp only [phiA, if_true]
    split <;> omega
end Go.Proofs.Try.K

/- Contracts: sets of scalars grown. -/
namespace Go.Proofs.Try.K
open Go Go.Ax Go.Proofs.Try.S
set_option maxRecDepth 100000
set_option linter.unusedSimpArgs false
set_option linter.unusedVariables false
set_option maxHeartbeats 1000000
variable (F : Fz) (M : Hp)

theorem out_do : DoC 135 OutB PreO := by
  intro F M x y hold hpre
  refine callsA_of hm Try.func135 e135 (Nat.le_of_ble_eq_true rfl) ?_
  simp only [c135, go_sem, reduceCtorEq, reduceIte, Nat.reduceEqDiff, Nat.reduceAdd, Nat.reduceLeDiff, Nat.reduceMul, Int.reduceLT, Int.reduceLE, Int.reduceAdd, Int.reduceSub, Int.reduceMul, Int.reduceNeg, Int.reduceToNat, Int.reduceEq]
  intro r2 hF2 hM2
  simp only [go_sem, reduceCtorEq, reduceIte, Nat.reduceEqDiff, Nat.reduceAdd, Nat.reduceLeDiff, Nat.reduceMul, Int.reduceLT, Int.reduceLE, Int.reduceAdd, Int.reduceSub, Int.reduceMul, Int.reduceNeg, Int.reduceToNat, Int.reduceEq]
  intro r3 hF3 hM3
  have g3 := fresh_of hM3
  simp only [go_sem, reduceCtorEq, reduceIte, Nat.reduceEqDiff, Nat.reduceAdd, Nat.reduceLeDiff, Nat.reduceMul, Int.reduceLT, Int.reduceLE, Int.reduceAdd, Int.reduceSub, Int.reduceMul, Int.reduceNeg, Int.reduceToNat, Int.reduceEq, g3]
  intro r4 hF4 hM4
  have g4 := fresh_of hM4
  have g42 := fresh_of g4.2.2
  have kp0 : Keep M (((M.upd r2 ⟨x.cs, 87, 7⟩).upd r3 ⟨y.cs, 87, 7⟩).upd r4 ⟨[.int .i64 0, .int .i64 0, .bool false, .int .i64 0, .int .i64 0, .int .i64 0, .int .i64 0], 87, 7⟩) := (((Keep.refl M).new hM2).new g3.2.2).new g42.2.2
  have f2 : (((M.upd r2 ⟨x.cs, 87, 7⟩).upd r3 ⟨y.cs, 87, 7⟩).upd r4 ⟨[.int .i64 0, .int .i64 0, .bool false, .int .i64 0, .int .i64 0, .int .i64 0, .int .i64 0], 87, 7⟩) r2 = some ⟨x.cs, 87, 7⟩ := by
    rw [Hp.upd_ne' g42.2.1, Hp.upd_ne' g3.2.1]; exact Hp.upd_same _ _ _
  have f3 : (((M.upd r2 ⟨x.cs, 87, 7⟩).upd r3 ⟨y.cs, 87, 7⟩).upd r4 ⟨[.int .i64 0, .int .i64 0, .bool false, .int .i64 0, .int .i64 0, .int .i64 0, .int .i64 0], 87, 7⟩) r3 = some ⟨y.cs, 87, 7⟩ := by
    rw [Hp.upd_ne' g4.2.1]; exact Hp.upd_same _ _ _
  have f4 : (((M.upd r2 ⟨x.cs, 87, 7⟩).upd r3 ⟨y.cs, 87, 7⟩).upd r4 ⟨[.int .i64 0, .int .i64 0, .bool false, .int .i64 0, .int .i64 0, .int .i64 0, .int .i64 0], 87, 7⟩) r4 = some ⟨[.int .i64 0, .int .i64 0, .bool false, .int .i64 0, .int .i64 0, .int .i64 0, .int .i64 0], 87, 7⟩ := Hp.upd_same _ _ _
  have n4 : M r4 = none := g42.2.2
  have n2 : M r2 = none := hM2
  have n24 : ¬ r2 = r4 := g42.2.1
  have n42 : ¬ r4 = r2 := fun h => n24 h.symm
  have hol1 := x.v.offs_len
  have hol2 := y.v.offs_len
  by_cases h0 : x.b = 0
  · simp only [go_sem, reduceCtorEq, reduceIte, Nat.reduceEqDiff, Nat.reduceAdd, Nat.reduceLeDiff, Nat.reduceMul, Int.reduceLT, Int.reduceLE, Int.reduceAdd, Int.reduceSub, Int.reduceMul, Int.reduceNeg, Int.reduceToNat, Int.reduceEq, g3, g4, g42, h0]
    refine callK_of (k108 _ _ x hpre.okx) ?_
    generalize ((M.upd r2 ⟨x.cs, 87, 7⟩).upd r3 ⟨y.cs, 87, 7⟩).upd r4 ⟨[.int .i64 0, .int .i64 0, .bool false, .int .i64 0, .int .i64 0, .int .i64 0, .int .i64 0], 87, 7⟩ = M1 at *
    rintro q G M2 hq
    obtain ⟨hG, le, kq, oq, aq, cq, rfl, rdq⟩ := hq.le intC_len (by omega)
    rw [hG] at hq ⊢
    refine ⟨fun _ => le, ?_⟩
    have mine1 := hq.mine kp0
    simp only [go_sem, reduceCtorEq, reduceIte, Nat.reduceEqDiff, Nat.reduceAdd, Nat.reduceLeDiff, Nat.reduceMul, Int.reduceLT, Int.reduceLE, Int.reduceAdd, Int.reduceSub, Int.reduceMul, Int.reduceNeg, Int.reduceToNat, Int.reduceEq, g3, g4, g42]
    refine callK_of (k108 _ _ y hpre.oky) ?_
    rintro q2 G M3 hq2
    obtain ⟨hG, le2, kq2, oq2, aq2, cq2, rfl, rdq2⟩ := hq2.le intC_len (by omega)
    rw [hG] at hq2 ⊢
    refine ⟨fun _ => le2, ?_⟩
    have mine2 := mine1.keep kq2
    simp only [go_sem, reduceCtorEq, reduceIte, Nat.reduceEqDiff, Nat.reduceAdd, Nat.reduceLeDiff, Nat.reduceMul, Int.reduceLT, Int.reduceLE, Int.reduceAdd, Int.reduceSub, Int.reduceMul, Int.reduceNeg, Int.reduceToNat, Int.reduceEq, g3, g4, g42]
    refine apMG_any (xs := x.v.offs) (ys := y.v.offs) intC_len intC_plain (by decide) mine2 ((kp0.trans kq).trans kq2) (hq2.own.src intC_len) (by omega) ?_
    rintro v' M5 hfr kp5 ho5 mine5
    have f45 : M5 r4 = some ⟨[.int .i64 0, .int .i64 0, .bool false, .int .i64 0, .int .i64 0, .int .i64 0, .int .i64 0], 87, 7⟩ := hfr _ _ (kq2 _ _ (kq _ _ f4)) (by simp)
    simp only [go_sem, reduceCtorEq, reduceIte, Nat.reduceEqDiff, Nat.reduceAdd, Nat.reduceLeDiff, Nat.reduceMul, Int.reduceLT, Int.reduceLE, Int.reduceAdd, Int.reduceSub, Int.reduceMul, Int.reduceNeg, Int.reduceToNat, Int.reduceEq, g3, g4, g42]
    refine callK_of (k128 _ _ v' (x.v.offs ++ y.v.offs) 0 (mine5.own.rd intC_len (by simp; omega)) (fun n hn => ?_)) ?_
    · rcases List.mem_append.1 hn with h | h
      · have := (mem_offs hpre.okx).1 h; omega
      · have := (mem_offs hpre.oky).1 h; omega
    rintro w G M6 ⟨hG, hM6, v, rfl, pk⟩
    rw [hG, hM6]
    refine ⟨fun _ => Le.refl _ _, ?_⟩
    simp only [go_sem, reduceCtorEq, reduceIte, Nat.reduceEqDiff, Nat.reduceAdd, Nat.reduceLeDiff, Nat.reduceMul, Int.reduceLT, Int.reduceLE, Int.reduceAdd, Int.reduceSub, Int.reduceMul, Int.reduceNeg, Int.reduceToNat, Int.reduceEq, g3, g4, g42, f45]
    simp only [setH, go_sem, reduceCtorEq, reduceIte, Nat.reduceEqDiff, Nat.reduceAdd, Nat.reduceLeDiff, Nat.reduceMul, Int.reduceLT, Int.reduceLE, Int.reduceAdd, Int.reduceSub, Int.reduceMul, Int.reduceNeg, Int.reduceToNat, Int.reduceEq]
    refine endK_keep (kp5.new n4) ⟨rfl, rfl, ⟨0, v⟩, rfl, outB_null hpre h0 ⟨h0.symm, pk.ok, pk.w, fun o o0 o1 ho => ?_, fun n0 ha o o0 o1 ho => ?_⟩⟩
    · refine pk.all o (List.mem_append.2 ?_)
      rcases ho with ho | ho
      · exact .inl ((mem_offs hpre.okx).2 ⟨o0, o1, ho⟩)
      · exact .inr ((mem_offs hpre.oky).2 ⟨o0, o1, ho⟩)
    · refine pk.one n0 (fun n hn => ?_) o o0 o1 ho
      rcases List.mem_append.1 hn with h | h
      · have := (mem_offs hpre.okx).1 h; exact ha n this.1 this.2.1 (.inl this.2.2)
      · have := (mem_offs hpre.oky).1 h; exact ha n this.1 this.2.1 (.inr this.2.2)
  · simp only [go_sem, reduceCtorEq, reduceIte, Nat.reduceEqDiff, Nat.reduceAdd, Nat.reduceLeDiff, Nat.reduceMul, Int.reduceLT, Int.reduceLE, Int.reduceAdd, Int.reduceSub, Int.reduceMul, Int.reduceNeg, Int.reduceToNat, Int.reduceEq, g3, g4, g42, h0]
    refine callK_of (k108 _ _ y hpre.oky) ?_
    generalize ((M.upd r2 ⟨x.cs, 87, 7⟩).upd r3 ⟨y.cs, 87, 7⟩).upd r4 ⟨[.int .i64 0, .int .i64 0, .bool false, .int .i64 0, .int .i64 0, .int .i64 0, .int .i64 0], 87, 7⟩ = M1 at *
    rintro q G M2 hq
    obtain ⟨hG, le, kq, oq, aq, cq, rfl, rdq⟩ := hq.le intC_len (by omega)
    rw [hG]
    refine ⟨fun _ => le, ?_⟩
    have f22 := kq _ _ f2
    have f42 := kq _ _ f4
    have b22 := blk_M (F := F) f22
    have kp2 := kp0.trans kq
    simp only [go_sem, reduceCtorEq, reduceIte, Nat.reduceEqDiff, Nat.reduceAdd, Nat.reduceLeDiff, Nat.reduceMul, Int.reduceLT, Int.reduceLE, Int.reduceAdd, Int.reduceSub, Int.reduceMul, Int.reduceNeg, Int.reduceToNat, Int.reduceEq, g3, g4, g42, b22]
    refine callK_of (k128 _ _ _ y.v.offs y.b rdq (fun n hn => ?_)) ?_
    · have := (mem_offs hpre.oky).1 hn; omega
    rintro w G M6 ⟨hG, hM6, p, rfl, pk⟩
    rw [hG, hM6]
    refine ⟨fun _ => Le.refl _ _, ?_⟩
    simp only [go_sem, reduceCtorEq, reduceIte, Nat.reduceEqDiff, Nat.reduceAdd, Nat.reduceLeDiff, Nat.reduceMul, Int.reduceLT, Int.reduceLE, Int.reduceAdd, Int.reduceSub, Int.reduceMul, Int.reduceNeg, Int.reduceToNat, Int.reduceEq, g3, g4, g42, b22]
    change Go.Ax.oK _ _ _ _ _ _ _ _ (some p.val)
    simp only [go_sem, reduceCtorEq, reduceIte, Nat.reduceEqDiff, Nat.reduceAdd, Nat.reduceLeDiff, Nat.reduceMul, Int.reduceLT, Int.reduceLE, Int.reduceAdd, Int.reduceSub, Int.reduceMul, Int.reduceNeg, Int.reduceToNat, Int.reduceEq, g3, g4, g42, b22]
    refine callK_same (k134 _ _ x.v p hpre.okx pk.ok) ?_
    have es : ∀ z : V, List.take 1 x.cs ++ z.cs = (Ba.mk x.b z).cs := fun _ => rfl
    simp only [go_sem, reduceCtorEq, reduceIte, Nat.reduceEqDiff, Nat.reduceAdd, Nat.reduceLeDiff, Nat.reduceMul, Int.reduceLT, Int.reduceLE, Int.reduceAdd, Int.reduceSub, Int.reduceMul, Int.reduceNeg, Int.reduceToNat, Int.reduceEq, g3, g4, g42, b22, f22, f42, n42, es]
    simp only [setH, go_sem, reduceCtorEq, reduceIte, Nat.reduceEqDiff, Nat.reduceAdd, Nat.reduceLeDiff, Nat.reduceMul, Int.reduceLT, Int.reduceLE, Int.reduceAdd, Int.reduceSub, Int.reduceMul, Int.reduceNeg, Int.reduceToNat, Int.reduceEq, n24, n42, f42, es]
    exact endK_keep ((kp2.new n2).new n4) ⟨rfl, rfl, ⟨x.b, x.v.out p⟩, rfl, outB_num hpre h0 pk⟩
def outR15 (k : Int) (v1 : V) (u1 : Value) (l1 : List Ba) (v2 : V) (l2 : List Ba) (F : Fz) (M : Hp) (u : Value) (F' : Fz) (M' : Hp) : Prop :=
  ∃ v l, WideA k v1 l1 v2 l2 v l ∧ l.length ≤ 7 ∧ ((F' = F ∧ M' = M ∧ v = v1 ∧ l = l1 ∧ u = abV v1 u1) ∨ cpR v l F M u F' M')
theorem k96 (k : Int) (v1 v2 : V) (u1 u2 : Value) (l1 l2 : List Ba) (h1 : RdG 7 Ba.cs F M u1 l1) (h2 : RdG 7 Ba.cs F M u2 l2) (hold : Old F M) (ha : absB k v1 l1 = true) (hb : absB k v2 l2 = true) :
    CallsA Try.prog 96 [.int .i64 k, abV v1 u1, abV v2 u2] F M (outR15 k v1 u1 l1 v2 l2 F M) := by
  refine callsA_of hm Try.func96 e96 (Nat.le_of_ble_eq_true rfl) ?_
  have h1' := h1
  have h2' := h2
  obtain ⟨_, a1, c1, _, rfl, _⟩ := h1
  obtain ⟨_, a2, c2, _, rfl, _⟩ := h2
  simp only [c96, go_sem, reduceCtorEq, reduceIte, Nat.reduceEqDiff, Nat.reduceAdd, Nat.reduceLeDiff, Nat.reduceMul, Int.reduceLT, Int.reduceLE, Int.reduceAdd, Int.reduceSub, Int.reduceMul, Int.reduceNeg, Int.reduceToNat, Int.reduceEq]
  intro r4 hF4 hM4
  simp only [go_sem, reduceCtorEq, reduceIte, Nat.reduceEqDiff, Nat.reduceAdd, Nat.reduceLeDiff, Nat.reduceMul, Int.reduceLT, Int.reduceLE, Int.reduceAdd, Int.reduceSub, Int.reduceMul, Int.reduceNeg, Int.reduceToNat, Int.reduceEq]
  intro r5 hF5 hM5
  have g5 := fresh_of hM5
  simp only [go_sem, reduceCtorEq, reduceIte, Nat.reduceEqDiff, Nat.reduceAdd, Nat.reduceLeDiff, Nat.reduceMul, Int.reduceLT, Int.reduceLE, Int.reduceAdd, Int.reduceSub, Int.reduceMul, Int.reduceNeg, Int.reduceToNat, Int.reduceEq, g5]
  intro r6 hF6 hM6
  have g6 := fresh_of hM6
  have g62 := fresh_of g6.2.2
  have kp0 : Keep M (((M.upd r4 ⟨abCs v1 (.slice a1 l1.length c1), 37, 7⟩).upd r5 ⟨abCs v2 (.slice a2 l2.length c2), 37, 7⟩).upd r6 ⟨[.int .i64 0, .bool false, .int .i64 0, .int .i64 0, .int .i64 0, .int .i64 0, .slice none 0 0], 37, 7⟩) := (((Keep.refl M).new hM4).new g5.2.2).new g62.2.2
  have old0 : Old F (((M.upd r4 ⟨abCs v1 (.slice a1 l1.length c1), 37, 7⟩).upd r5 ⟨abCs v2 (.slice a2 l2.length c2), 37, 7⟩).upd r6 ⟨[.int .i64 0, .bool false, .int .i64 0, .int .i64 0, .int .i64 0, .int .i64 0, .slice none 0 0], 37, 7⟩) := ((hold.upd hF4).upd hF5).upd hF6
  have f6 : (((M.upd r4 ⟨abCs v1 (.slice a1 l1.length c1), 37, 7⟩).upd r5 ⟨abCs v2 (.slice a2 l2.length c2), 37, 7⟩).upd r6 ⟨[.int .i64 0, .bool false, .int .i64 0, .int .i64 0, .int .i64 0, .int .i64 0, .slice none 0 0], 37, 7⟩) r6 = some ⟨[.int .i64 0, .bool false, .int .i64 0, .int .i64 0, .int .i64 0, .int .i64 0, .slice none 0 0], 37, 7⟩ := Hp.upd_same _ _ _
  have n6 : M r6 = none := g62.2.2
  have q1 := h1'.keep kp0 old0
  have q2 := h2'.keep kp0 old0
  simp only [go_sem, reduceCtorEq, reduceIte, Nat.reduceEqDiff, Nat.reduceAdd, Nat.reduceLeDiff, Nat.reduceMul, Int.reduceLT, Int.reduceLE, Int.reduceAdd, Int.reduceSub, Int.reduceMul, Int.reduceNeg, Int.reduceToNat, Int.reduceEq, g5, g6, g62]
  refine callK_same (k94 _ _ k v2 v1 _ _ l2 l1 q2 q1 old0 hb ha) ?_
  cases hu : underB k v2 l2 v1 l1
  rotate_left
  · have hle := (abs_pre ha).1
    simp only [go_sem, reduceCtorEq, reduceIte, Nat.reduceEqDiff, Nat.reduceAdd, Nat.reduceLeDiff, Nat.reduceMul, Int.reduceLT, Int.reduceLE, Int.reduceAdd, Int.reduceSub, Int.reduceMul, Int.reduceNeg, Int.reduceToNat, Int.reduceEq, g5, g6, g62]
    exact endK_drop (by rw [Hp.upd_ne' g6.1, Hp.upd_ne' g62.1]; exact n6) (endK_drop (by rw [Hp.upd_ne' g5.1]; exact g5.2.2) (endK_drop hM4 (endK_same ⟨v1, l1, wideA_same ha hb hu, hle, .inl ⟨rfl, rfl, rfl, rfl, rfl⟩⟩)))
  rcases abs_pair ha hb with ⟨h7, e1, e2, p1, p2⟩ | ⟨h7, hk, ok1, ok2, w1, w2, e1, e2⟩
  rotate_left
  · subst e1 e2
    simp only [go_sem, reduceCtorEq, reduceIte, Nat.reduceEqDiff, Nat.reduceAdd, Nat.reduceLeDiff, Nat.reduceMul, Int.reduceLT, Int.reduceLE, Int.reduceAdd, Int.reduceSub, Int.reduceMul, Int.reduceNeg, Int.reduceToNat, Int.reduceEq, g5, g6, g62, h7]
    refine callK_same (k134 _ _ v1 v2 ok1 ok2) ?_
    simp only [go_sem, reduceCtorEq, reduceIte, Nat.reduceEqDiff, Nat.reduceAdd, Nat.reduceLeDiff, Nat.reduceMul, Int.reduceLT, Int.reduceLE, Int.reduceAdd, Int.reduceSub, Int.reduceMul, Int.reduceNeg, Int.reduceToNat, Int.reduceEq, g5, g6, g62, h7]
    refine callK_same (k99 _ _ (v1.out v2)) ?_
    simp only [go_sem, reduceCtorEq, reduceIte, Nat.reduceEqDiff, Nat.reduceAdd, Nat.reduceLeDiff, Nat.reduceMul, Int.reduceLT, Int.reduceLE, Int.reduceAdd, Int.reduceSub, Int.reduceMul, Int.reduceNeg, Int.reduceToNat, Int.reduceEq, g5, g6, g62]
    exact endK_drop (by rw [Hp.upd_ne' g6.1, Hp.upd_ne' g62.1]; exact n6) (endK_drop (by rw [Hp.upd_ne' g5.1]; exact g5.2.2) (endK_drop hM4 (endK_same ⟨v1.out v2, [], wideA_num h7 hk ok1 ok2 w1 w2, by simp, .inr ⟨_, rfl, rfl, .inl ⟨rfl, rfl, rfl⟩⟩⟩)))
  subst h7 e1 e2
  have hpre : ∀ b : Nat, b < 7 → PreO (ofB l1 b) (ofB l2 b) := fun b _ => ofB_pre2 p1 p2 b
  simp only [go_sem, reduceCtorEq, reduceIte, Nat.reduceEqDiff, Nat.reduceAdd, Nat.reduceLeDiff, Nat.reduceMul, Int.reduceLT, Int.reduceLE, Int.reduceAdd, Int.reduceSub, Int.reduceMul, Int.reduceNeg, Int.reduceToNat, Int.reduceEq, g5, g6, g62]
  refine callK_of (k126 _ _ 135 OutB PreO out_do (fun x y z h => h.ok) _ _ l1 l2 (h1'.keep kp0 old0) (h2'.keep kp0 old0) old0 hpre) ?_
  generalize ((M.upd r4 ⟨abCs V.zero (.slice a1 l1.length c1), 37, 7⟩).upd r5 ⟨abCs V.zero (.slice a2 l2.length c2), 37, 7⟩).upd r6 ⟨[.int .i64 0, .bool false, .int .i64 0, .int .i64 0, .int .i64 0, .int .i64 0, .slice none 0 0], 37, 7⟩ = M1 at *
  rintro w G M2 ⟨z, hz, hr⟩
  have hel := eachL_len z 7
  have hres := wideA_ptr p1 p2 hz hu
  generalize eachL z 7 = l at *
  have mine := hr.mine kp0
  obtain ⟨hG, le, kq, oq, aq, cq, rfl, rdq⟩ := hr.le (f := Ba.cs) (fun x => rfl) (by omega)
  rw [hG]
  refine ⟨(fun h => by cases h), ?_⟩
  have f62 := kq _ _ f6
  obtain ⟨M5, k1, k2, hr5⟩ := mine.alone (kp0.trans kq)
  have n65 : M5 r6 = none := by
    obtain ⟨_, ⟨_, _, rfl⟩ | ⟨g', cap, _, q2, q3, _, rfl⟩⟩ := hr5
    · exact n6
    · have : ¬ r6 = g' := by
        rintro rfl
        have h1 := k1 _ _ (Hp.upd_same _ _ _)
        rw [f62] at h1
        simp at h1
      rw [Hp.upd_ne' this]; exact n6
  simp only [go_sem, reduceCtorEq, reduceIte, Nat.reduceEqDiff, Nat.reduceAdd, Nat.reduceLeDiff, Nat.reduceMul, Int.reduceLT, Int.reduceLE, Int.reduceAdd, Int.reduceSub, Int.reduceMul, Int.reduceNeg, Int.reduceToNat, Int.reduceEq, g5, g6, g62, f62]
  simp only [setH, go_sem, reduceCtorEq, reduceIte, Nat.reduceEqDiff, Nat.reduceAdd, Nat.reduceLeDiff, Nat.reduceMul, Int.reduceLT, Int.reduceLE, Int.reduceAdd, Int.reduceSub, Int.reduceMul, Int.reduceNeg, Int.reduceToNat, Int.reduceEq]
  exact endK_keep (k1.new n65) ⟨V.zero, l, hres, hel, .inr ⟨_, rfl, hr5⟩⟩
theorem k133 (u : Value) (l : List Ba) (h : RdG 7 Ba.cs F M u l) (hold : Old F M) (hl : l.length ≤ 100000) :
    CallsA Try.prog 133 [u] F M (rowR 7 Ba.cs 87 l F M) := by
  refine callsA_of hm Try.func133 e133 (Nat.le_of_ble_eq_true rfl) ?_
  have h' := h
  obtain ⟨_, ad, cap, _, rfl, hrd⟩ := h
  cases ad with
  | none =>
    have : l = [] := by
      rcases hrd with h | ⟨b, o, cs, h, _⟩
      · exact h
      · cases h
    subst this
    simp only [c133, go_sem, reduceCtorEq, reduceIte, Nat.reduceEqDiff, Nat.reduceAdd, Nat.reduceLeDiff, Nat.reduceMul, Int.reduceLT, Int.reduceLE, Int.reduceAdd, Int.reduceSub, Int.reduceMul, Int.reduceNeg, Int.reduceToNat, Int.reduceEq, Option.isNone_none, Option.isNone_some]
    exact endK_same ⟨rfl, .inl ⟨rfl, rfl, rfl⟩⟩
  | some ad =>
    simp only [c133, go_sem, reduceCtorEq, reduceIte, Nat.reduceEqDiff, Nat.reduceAdd, Nat.reduceLeDiff, Nat.reduceMul, Int.reduceLT, Int.reduceLE, Int.reduceAdd, Int.reduceSub, Int.reduceMul, Int.reduceNeg, Int.reduceToNat, Int.reduceEq, Option.isNone_none, Option.isNone_some]
    intro rb hFb hMb
    simp only [go_sem, reduceCtorEq, reduceIte, Nat.reduceEqDiff, Nat.reduceAdd, Nat.reduceLeDiff, Nat.reduceMul, Int.reduceLT, Int.reduceLE, Int.reduceAdd, Int.reduceSub, Int.reduceMul, Int.reduceNeg, Int.reduceToNat, Int.reduceEq]
    have kp1 : Keep M (M.upd rb ⟨[], 87, 0⟩) := (Keep.refl M).new hMb
    have mine1 : MineG 7 Ba.cs 87 F M (M.upd rb ⟨[], 87, 0⟩) (.slice (some ⟨rb, 0, none⟩) ([] : List Ba).length 0) [] :=
      ⟨.inr ⟨rb, 0, rfl, hFb, Hp.upd_same _ _ _, by simp, by decide⟩, fun g n c h => by cases h; exact hMb⟩
    refine apMG_any (xs := []) (ys := l) (fun x => rfl) Ba.plain (by decide) mine1 kp1 (RdG.src (fun x => rfl) (h'.keep kp1 (hold.upd hFb)) (fun h => by cases h)) (by simp; omega) ?_
    rintro v' M5 hfr kp5 ho5 mine5
    rw [List.nil_append] at mine5
    simp only [go_sem, reduceCtorEq, reduceIte, Nat.reduceEqDiff, Nat.reduceAdd, Nat.reduceLeDiff, Nat.reduceMul, Int.reduceLT, Int.reduceLE, Int.reduceAdd, Int.reduceSub, Int.reduceMul, Int.reduceNeg, Int.reduceToNat, Int.reduceEq]
    exact mine5.done kp5
theorem k95 (v : V) (u : Value) (l : List Ba) (h : RdG 7 Ba.cs F M u l) (hold : Old F M) (hl : l.length ≤ 100000) : CallsA Try.prog 95 [abV v u] F M (cpR v l F M) := by
  refine callsA_of hm Try.func95 e95 (Nat.le_of_ble_eq_true rfl) ?_
  have h' := h
  obtain ⟨_, ad, cap, _, rfl, _⟩ := h
  simp only [c95, go_sem, reduceCtorEq, reduceIte, Nat.reduceEqDiff, Nat.reduceAdd, Nat.reduceLeDiff, Nat.reduceMul, Int.reduceLT, Int.reduceLE, Int.reduceAdd, Int.reduceSub, Int.reduceMul, Int.reduceNeg, Int.reduceToNat, Int.reduceEq]
  intro r1 hF1 hM1
  simp only [go_sem, reduceCtorEq, reduceIte, Nat.reduceEqDiff, Nat.reduceAdd, Nat.reduceLeDiff, Nat.reduceMul, Int.reduceLT, Int.reduceLE, Int.reduceAdd, Int.reduceSub, Int.reduceMul, Int.reduceNeg, Int.reduceToNat, Int.reduceEq]
  intro r2 hF2 hM2
  have g2 := fresh_of hM2
  have kp0 : Keep M ((M.upd r1 ⟨abCs v (.slice ad l.length cap), 37, 7⟩).upd r2 ⟨[.int .i64 0, .bool false, .int .i64 0, .int .i64 0, .int .i64 0, .int .i64 0, .slice none 0 0], 37, 7⟩) := ((Keep.refl M).new hM1).new g2.2.2
  have old0 : Old F ((M.upd r1 ⟨abCs v (.slice ad l.length cap), 37, 7⟩).upd r2 ⟨[.int .i64 0, .bool false, .int .i64 0, .int .i64 0, .int .i64 0, .int .i64 0, .slice none 0 0], 37, 7⟩) := (hold.upd hF1).upd hF2
  have f2 : ((M.upd r1 ⟨abCs v (.slice ad l.length cap), 37, 7⟩).upd r2 ⟨[.int .i64 0, .bool false, .int .i64 0, .int .i64 0, .int .i64 0, .int .i64 0, .slice none 0 0], 37, 7⟩) r2 = some ⟨[.int .i64 0, .bool false, .int .i64 0, .int .i64 0, .int .i64 0, .int .i64 0, .slice none 0 0], 37, 7⟩ := Hp.upd_same _ _ _
  have n2 : M r2 = none := g2.2.2
  simp only [go_sem, reduceCtorEq, reduceIte, Nat.reduceEqDiff, Nat.reduceAdd, Nat.reduceLeDiff, Nat.reduceMul, Int.reduceLT, Int.reduceLE, Int.reduceAdd, Int.reduceSub, Int.reduceMul, Int.reduceNeg, Int.reduceToNat, Int.reduceEq, g2]
  refine callK_of (k133 _ _ _ l (h'.keep kp0 old0) old0 hl) ?_
  generalize (M.upd r1 ⟨abCs v (.slice ad l.length cap), 37, 7⟩).upd r2 ⟨[.int .i64 0, .bool false, .int .i64 0, .int .i64 0, .int .i64 0, .int .i64 0, .slice none 0 0], 37, 7⟩ = M1 at *
  rintro w G M2 hr
  have mine := hr.mine kp0
  obtain ⟨hG, le, kq, oq, aq, cq, rfl, rdq⟩ := hr.le (f := Ba.cs) (fun x => rfl) (by omega)
  rw [hG]
  refine ⟨fun _ => le, ?_⟩
  have f22 := kq _ _ f2
  obtain ⟨M5, k1, k2, hr5⟩ := mine.alone (kp0.trans kq)
  have n25 : M5 r2 = none := by
    obtain ⟨_, ⟨_, _, rfl⟩ | ⟨g', cap, _, q2, q3, _, rfl⟩⟩ := hr5
    · exact n2
    · have : ¬ r2 = g' := by
        rintro rfl
        have h1 := k1 _ _ (Hp.upd_same _ _ _)
        rw [f22] at h1
        simp at h1
      rw [Hp.upd_ne' this]; exact n2
  simp only [go_sem, reduceCtorEq, reduceIte, Nat.reduceEqDiff, Nat.reduceAdd, Nat.reduceLeDiff, Nat.reduceMul, Int.reduceLT, Int.reduceLE, Int.reduceAdd, Int.reduceSub, Int.reduceMul, Int.reduceNeg, Int.reduceToNat, Int.reduceEq, g2, f22]
  simp only [setH, go_sem, reduceCtorEq, reduceIte, Nat.reduceEqDiff, Nat.reduceAdd, Nat.reduceLeDiff, Nat.reduceMul, Int.reduceLT, Int.reduceLE, Int.reduceAdd, Int.reduceSub, Int.reduceMul, Int.reduceNeg, Int.reduceToNat, Int.reduceEq]
  exact endK_keep (k1.new n25) ⟨_, rfl, hr5⟩
end Go.Proofs.Try.K

/- Contracts: growing asked; the page's own set of one scalar. -/
namespace Go.Proofs.Try.K
open Go Go.Ax Go.Proofs.Try.S
set_option maxRecDepth 100000
set_option linter.unusedSimpArgs false
set_option linter.unusedVariables false
set_option maxHeartbeats 1000000
variable (F : Fz) (M : Hp)

def wideR15 (k : Int) (v1 : V) (l1 : List Ba) (v2 : V) (l2 : List Ba) (F : Fz) (M : Hp) (u : Value) (F' : Fz) (M' : Hp) : Prop :=
  ((absB k v1 l1 && absB k v2 l2) = true ∧ ∃ w, u = .tuple #[w, .int .i64 0] ∧ ∃ v l, WideA k v1 l1 v2 l2 v l ∧ l.length ≤ 7 ∧ cpR v l F M w F' M') ∨ ((absB k v1 l1 && absB k v2 l2) = false ∧ u = .tuple #[abV V.zero (.slice none 0 0), .int .i64 1] ∧ F' = F ∧ M' = M)
theorem k55 (k : Int) (v1 v2 : V) (u1 u2 : Value) (l1 l2 : List Ba) (h1 : RdG 7 Ba.cs F M u1 l1) (h2 : RdG 7 Ba.cs F M u2 l2) (hold : Old F M) :
    CallsA Try.prog 55 [.int .i64 k, abV v1 u1, abV v2 u2] F M (wideR15 k v1 l1 v2 l2 F M) := by
  refine callsA_of hm Try.func55 e55 (Nat.le_of_ble_eq_true rfl) ?_
  have h1' := h1
  have h2' := h2
  obtain ⟨_, a1, c1, _, rfl, _⟩ := h1
  obtain ⟨_, a2, c2, _, rfl, _⟩ := h2
  simp only [c55, go_sem, reduceCtorEq, reduceIte, Nat.reduceEqDiff, Nat.reduceAdd, Nat.reduceLeDiff, Nat.reduceMul, Int.reduceLT, Int.reduceLE, Int.reduceAdd, Int.reduceSub, Int.reduceMul, Int.reduceNeg, Int.reduceToNat, Int.reduceEq]
  intro r4 hF4 hM4
  simp only [go_sem, reduceCtorEq, reduceIte, Nat.reduceEqDiff, Nat.reduceAdd, Nat.reduceLeDiff, Nat.reduceMul, Int.reduceLT, Int.reduceLE, Int.reduceAdd, Int.reduceSub, Int.reduceMul, Int.reduceNeg, Int.reduceToNat, Int.reduceEq]
  intro r5 hF5 hM5
  have g5 := fresh_of hM5
  simp only [go_sem, reduceCtorEq, reduceIte, Nat.reduceEqDiff, Nat.reduceAdd, Nat.reduceLeDiff, Nat.reduceMul, Int.reduceLT, Int.reduceLE, Int.reduceAdd, Int.reduceSub, Int.reduceMul, Int.reduceNeg, Int.reduceToNat, Int.reduceEq, g5]
  intro r6 hF6 hM6
  have g6 := fresh_of hM6
  have g62 := fresh_of g6.2.2
  have kp0 : Keep M (((M.upd r4 ⟨abCs v1 (.slice a1 l1.length c1), 37, 7⟩).upd r5 ⟨abCs v2 (.slice a2 l2.length c2), 37, 7⟩).upd r6 ⟨[.int .i64 0, .bool false, .int .i64 0, .int .i64 0, .int .i64 0, .int .i64 0, .slice none 0 0], 37, 7⟩) := (((Keep.refl M).new hM4).new g5.2.2).new g62.2.2
  have old0 : Old F (((M.upd r4 ⟨abCs v1 (.slice a1 l1.length c1), 37, 7⟩).upd r5 ⟨abCs v2 (.slice a2 l2.length c2), 37, 7⟩).upd r6 ⟨[.int .i64 0, .bool false, .int .i64 0, .int .i64 0, .int .i64 0, .int .i64 0, .slice none 0 0], 37, 7⟩) := ((hold.upd hF4).upd hF5).upd hF6
  have f6 : (((M.upd r4 ⟨abCs v1 (.slice a1 l1.length c1), 37, 7⟩).upd r5 ⟨abCs v2 (.slice a2 l2.length c2), 37, 7⟩).upd r6 ⟨[.int .i64 0, .bool false, .int .i64 0, .int .i64 0, .int .i64 0, .int .i64 0, .slice none 0 0], 37, 7⟩) r6 = some ⟨[.int .i64 0, .bool false, .int .i64 0, .int .i64 0, .int .i64 0, .int .i64 0, .slice none 0 0], 37, 7⟩ := Hp.upd_same _ _ _
  have n6 : M r6 = none := g62.2.2
  have q1 := h1'.keep kp0 old0
  have q2 := h2'.keep kp0 old0
  simp only [go_sem, reduceCtorEq, reduceIte, Nat.reduceEqDiff, Nat.reduceAdd, Nat.reduceLeDiff, Nat.reduceMul, Int.reduceLT, Int.reduceLE, Int.reduceAdd, Int.reduceSub, Int.reduceMul, Int.reduceNeg, Int.reduceToNat, Int.reduceEq, g5, g6, g62]
  refine callK_same (k91 _ _ k v1 v2 _ _ l1 l2 q1 q2) ?_
  cases ha : (absB k v1 l1 && absB k v2 l2)
  · simp only [go_sem, reduceCtorEq, reduceIte, Nat.reduceEqDiff, Nat.reduceAdd, Nat.reduceLeDiff, Nat.reduceMul, Int.reduceLT, Int.reduceLE, Int.reduceAdd, Int.reduceSub, Int.reduceMul, Int.reduceNeg, Int.reduceToNat, Int.reduceEq, g5, g6, g62]
    exact endK_drop (by rw [Hp.upd_ne' g6.1, Hp.upd_ne' g62.1]; exact n6) (endK_drop (by rw [Hp.upd_ne' g5.1]; exact g5.2.2) (endK_drop hM4 (endK_same (.inr ⟨ha, rfl, rfl, rfl⟩))))
  have ha' := ha
  rw [Bool.and_eq_true] at ha
  simp only [go_sem, reduceCtorEq, reduceIte, Nat.reduceEqDiff, Nat.reduceAdd, Nat.reduceLeDiff, Nat.reduceMul, Int.reduceLT, Int.reduceLE, Int.reduceAdd, Int.reduceSub, Int.reduceMul, Int.reduceNeg, Int.reduceToNat, Int.reduceEq, g5, g6, g62]
  refine callK_of (k96 _ _ k v1 v2 _ _ l1 l2 q1 q2 old0 ha.1 ha.2) ?_
  generalize ((M.upd r4 ⟨abCs v1 (.slice a1 l1.length c1), 37, 7⟩).upd r5 ⟨abCs v2 (.slice a2 l2.length c2), 37, 7⟩).upd r6 ⟨[.int .i64 0, .bool false, .int .i64 0, .int .i64 0, .int .i64 0, .int .i64 0, .slice none 0 0], 37, 7⟩ = M1 at *
  rintro w G M2 ⟨v, l, hres, hel, hw⟩
  obtain ⟨w', M2', hw1, hw2, rdw, kq, oq, hG⟩ : ∃ w' M2', w = abV v w' ∧ M2 = M2' ∧ RdG 7 Ba.cs F M2' w' l ∧ Keep M1 M2' ∧ Old F M2' ∧ G = F := by
    rcases hw with ⟨h1, h2, h3, h4, h5⟩ | ⟨w', h1, hr⟩
    · subst h3 h4
      exact ⟨_, _, h5, rfl, by rw [h2]; exact q1, by rw [h2]; exact Keep.refl _, by rw [h2]; exact old0, h1⟩
    · obtain ⟨hG, le, kq, oq, aq, cq, h2, rdq⟩ := hr.le (f := Ba.cs) (fun x => rfl) (by omega)
      exact ⟨_, _, h1, rfl, by rw [h2]; exact rdq, kq, oq old0, hG⟩
  rw [hw1, hw2, hG]
  clear hw1 hw2 hw hG
  refine ⟨(fun h => by cases h), ?_⟩
  have f62 := kq _ _ f6
  simp only [go_sem, reduceCtorEq, reduceIte, Nat.reduceEqDiff, Nat.reduceAdd, Nat.reduceLeDiff, Nat.reduceMul, Int.reduceLT, Int.reduceLE, Int.reduceAdd, Int.reduceSub, Int.reduceMul, Int.reduceNeg, Int.reduceToNat, Int.reduceEq, g5, g6, g62]
  refine callK_of (k95 _ _ v _ l rdw oq (by omega)) ?_
  rintro w G M3 ⟨w3, rfl, hr⟩
  have mine := hr.mine (kp0.trans kq)
  obtain ⟨hG, le, kq3, oq3, aq, cq, rfl, rdq⟩ := hr.le (f := Ba.cs) (fun x => rfl) (by omega)
  rw [hG]
  refine ⟨(fun h => by cases h), ?_⟩
  have f63 := kq3 _ _ f62
  obtain ⟨M5, k1, k2, hr5⟩ := mine.alone ((kp0.trans kq).trans kq3)
  have n65 : M5 r6 = none := by
    obtain ⟨_, ⟨_, _, rfl⟩ | ⟨g', cap, _, q2, q3, _, rfl⟩⟩ := hr5
    · exact n6
    · have : ¬ r6 = g' := by
        rintro rfl
        have h1 := k1 _ _ (Hp.upd_same _ _ _)
        rw [f63] at h1
        simp at h1
      rw [Hp.upd_ne' this]; exact n6
  simp only [go_sem, reduceCtorEq, reduceIte, Nat.reduceEqDiff, Nat.reduceAdd, Nat.reduceLeDiff, Nat.reduceMul, Int.reduceLT, Int.reduceLE, Int.reduceAdd, Int.reduceSub, Int.reduceMul, Int.reduceNeg, Int.reduceToNat, Int.reduceEq, g5, g6, g62, f63]
  simp only [setH, go_sem, reduceCtorEq, reduceIte, Nat.reduceEqDiff, Nat.reduceAdd, Nat.reduceLeDiff, Nat.reduceMul, Int.reduceLT, Int.reduceLE, Int.reduceAdd, Int.reduceSub, Int.reduceMul, Int.reduceNeg, Int.reduceToNat, Int.reduceEq]
  exact endK_keep (k1.new n65) (.inl ⟨ha', _, rfl, v, l, hres, hel, _, rfl, hr5⟩)
theorem k56 (k : Int) (s : Sc) : CallsA Try.prog 56 [.int .i64 k, s.val] F M (cpR (if k = 7 then V.zero else V.just (wK k) s.n) (oneL k s) F M) := by
  refine callsA_of hm Try.func56 e56 (Nat.le_of_ble_eq_true rfl) ?_
  simp only [c56, go_sem, reduceCtorEq, reduceIte, Nat.reduceEqDiff, Nat.reduceAdd, Nat.reduceLeDiff, Nat.reduceMul, Int.reduceLT, Int.reduceLE, Int.reduceAdd, Int.reduceSub, Int.reduceMul, Int.reduceNeg, Int.reduceToNat, Int.reduceEq]
  intro r3 hF3 hM3
  simp only [go_sem, reduceCtorEq, reduceIte, Nat.reduceEqDiff, Nat.reduceAdd, Nat.reduceLeDiff, Nat.reduceMul, Int.reduceLT, Int.reduceLE, Int.reduceAdd, Int.reduceSub, Int.reduceMul, Int.reduceNeg, Int.reduceToNat, Int.reduceEq]
  intro r4 hF4 hM4
  have g4 := fresh_of hM4
  by_cases h7 : k = 7
  · subst h7
    simp only [go_sem, reduceCtorEq, reduceIte, Nat.reduceEqDiff, Nat.reduceAdd, Nat.reduceLeDiff, Nat.reduceMul, Int.reduceLT, Int.reduceLE, Int.reduceAdd, Int.reduceSub, Int.reduceMul, Int.reduceNeg, Int.reduceToNat, Int.reduceEq, g4]
    refine callK_same (k82 _ _ 8 s.o) ?_
    simp only [go_sem, reduceCtorEq, reduceIte, Nat.reduceEqDiff, Nat.reduceAdd, Nat.reduceLeDiff, Nat.reduceMul, Int.reduceLT, Int.reduceLE, Int.reduceAdd, Int.reduceSub, Int.reduceMul, Int.reduceNeg, Int.reduceToNat, Int.reduceEq, g4]
    intro rb hFb hMb
    have gb := fresh_of hMb
    have gb2 := fresh_of gb.2.2
    simp only [go_sem, reduceCtorEq, reduceIte, Nat.reduceEqDiff, Nat.reduceAdd, Nat.reduceLeDiff, Nat.reduceMul, Int.reduceLT, Int.reduceLE, Int.reduceAdd, Int.reduceSub, Int.reduceMul, Int.reduceNeg, Int.reduceToNat, Int.reduceEq, g4, gb, gb2]
    have kp : ∀ e, Keep M (((M.upd r3 ⟨s.cs, 32, 4⟩).upd r4 e).upd rb ⟨(oneL 7 s).flatMap Ba.cs, 87, 1 * 7⟩) := fun e => (((Keep.refl M).new hM3).new g4.2.2).new gb2.2.2
    have hk := fun e => (kp e).one (Hp.upd_same _ _ _)
    have el : (oneL 7 s).flatMap Ba.cs = (Ba.mk s.b (V.just 8 s.o)).cs := by simp [oneL]
    rw [← el]
    exact endK_keep (hk _) ⟨_, rfl, rfl, .inr ⟨rb, 1, hFb, gb2.2.2, rfl, ⟨by simp [oneL], by decide⟩, rfl⟩⟩
  · simp only [go_sem, reduceCtorEq, reduceIte, Nat.reduceEqDiff, Nat.reduceAdd, Nat.reduceLeDiff, Nat.reduceMul, Int.reduceLT, Int.reduceLE, Int.reduceAdd, Int.reduceSub, Int.reduceMul, Int.reduceNeg, Int.reduceToNat, Int.reduceEq, g4, h7]
    refine callK_same (k46 _ _ k) ?_
    simp only [go_sem, reduceCtorEq, reduceIte, Nat.reduceEqDiff, Nat.reduceAdd, Nat.reduceLeDiff, Nat.reduceMul, Int.reduceLT, Int.reduceLE, Int.reduceAdd, Int.reduceSub, Int.reduceMul, Int.reduceNeg, Int.reduceToNat, Int.reduceEq, g4]
    refine callK_same (k82 _ _ (wK k) s.n) ?_
    simp only [go_sem, reduceCtorEq, reduceIte, Nat.reduceEqDiff, Nat.reduceAdd, Nat.reduceLeDiff, Nat.reduceMul, Int.reduceLT, Int.reduceLE, Int.reduceAdd, Int.reduceSub, Int.reduceMul, Int.reduceNeg, Int.reduceToNat, Int.reduceEq, g4]
    refine endK_keep (M := M) (((Keep.refl M).new hM3).new g4.2.2) ⟨_, rfl, rfl, .inl ⟨by simp [oneL, h7], rfl, rfl⟩⟩
end Go.Proofs.Try.K
