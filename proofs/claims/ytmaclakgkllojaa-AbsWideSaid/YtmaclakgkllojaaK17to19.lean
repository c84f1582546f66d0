/- Parts K17to19: the machine's runs of small codes, contracts of functions, plain facts. -/
import Derived.Test.YtmaclakgkllojaaProg
import Derived.Test.YtmaclakgkllojaaK12to16
namespace Go.Proofs.Try.S
open Go Go.Ax Go.Ax.N
set_option maxRecDepth 100000

/-- cellar/cellarlaw3.Within -/
def c38 : SF := ⟨25, [.t 6], (.seq (.ops [k 3 (.bx 34 (t 0)),
 k 4 (.bx 34 (t 1)),
 o 6 (.mv (b false))])
 (.seq (.ops [o 9 (.ld true 6 (t 3)),
 o 10 (.mv (t 2)),
 k 11 (.ca (.func 39) [(t 9), (i 24), (t 10)]),
 o 7 (.mv (t 11))])
 (.seq (.seq (.ops [o 8 (.mv (i 0))])
 (.block 0 (.loop (.seq (.seq (.ops [o 12 (.mv (t 8)),
 o 13 (.mv (t 7)),
 o 14 (.ln (t 13)),
 o 15 (.bin .lss (t 12) (t 14))])
 (.cond (t 15)
 .skip
 (.exit 0)))
 (.seq (.block 1 (.seq (.opq [o 18 (.ld true 6 (t 4)),
 o 19 (.mv (t 7)),
 o 20 (.mv (t 8)),
 o 21 (.ia 1 (t 19) (t 20)),
 o 22 (.ld false 1 (t 21)),
 k 23 (.ca (.func 40) [(t 18), (t 22)]),
 o 24 (.un .not (t 23))])
 (.cond (t 24)
 (.seq (.ops [o 6 (.mv (b false))])
 .ret)
 .skip)))
 (.ops [o 16 (.mv (t 8)),
 o 17 (.bin .add (t 16) (i 1)),
 o 8 (.mv (t 17))]))))))
 (.seq (.ops [o 6 (.mv (b true))])
 .ret))))⟩
theorem e38 : slimF Try.prog Try.f38 [[(0, []), (1, []), (2, []), (3, []), (4, []), (5, []), (6, [])]] = some c38 := by kernel_rfl
/-- cellar/cellarref1.Some -/
def c39 : SF := ⟨95, [.t 6], (.seq (.ops [k 3 (.bx 34 (t 0)),
 o 6 (.mv (.const (.slice none 0 0)))])
 (.seq (.ops [k 7 (.al 25 [.slice none 0 0])])
 (.seq (.ops [o 12 (.ld true 6 (t 3)),
 k 13 (.ca (.func 78) [(t 12), (t 7)]),
 k 8 (.al 97 [.int .i64 0, .bool false, .int .i64 0, .int .i64 0, .int .i64 0, .int .i64 0, .pointer none]),
 kn (.st [] 7 (t 8) (t 13))])
 (.seq (.seq (.ops [o 14 (.ld true 7 (t 8)),
 k 15 (.ca (.func 79) [(t 14), (i 0)]),
 o 16 (.un .not (t 15))])
 (.cond (t 16)
 (.seq (.ops [o 6 (.mv (.const (.slice none 0 0)))])
 .ret)
 .skip))
 (.seq (.seq (.ops [o 9 (.mv (i 0))])
 (.block 0 (.loop (.seq (.seq (.ops [o 17 (.mv (t 9)),
 o 18 (.mv (t 1)),
 o 19 (.bin .quo (t 18) (i 3)),
 o 20 (.bin .lss (t 17) (t 19))])
 (.cond (t 20)
 .skip
 (.exit 0)))
 (.seq (.block 1 (.seq (.opq [o 23 (.ld false 1 (t 7)),
 o 24 (.ln (t 23)),
 o 25 (.bin .gtr (t 24) (i 0)),
 o 26 (.mv (t 25)),
 og 27 26 true (.ld true 7 (t 8)),
 og 28 26 true (.ld false 1 (t 7)),
 og 29 26 true (.ld false 1 (t 7)),
 og 30 26 true (.ln (t 29)),
 og 31 26 true (.bin .sub (t 30) (i 1)),
 og 32 26 true (.ia 1 (t 28) (t 31)),
 og 33 26 true (.ld false 1 (t 32)),
 og 34 26 true (.bin .add (t 33) (i 1)),
 ⟨some 35, some (26, true), .ca (.func 79) [(t 27), (t 34)]⟩,
 og 36 26 true (.un .not (t 35)),
 o 37 (.pick (t 26) (t 36) (b false))])
 (.cond (t 37)
 (.seq (.ops [o 38 (.ld false 1 (t 7)),
 o 6 (.mv (t 38))])
 .ret)
 .skip)))
 (.ops [o 21 (.mv (t 9)),
 o 22 (.bin .add (t 21) (i 1)),
 o 9 (.mv (t 22))]))))))
 (.seq (.seq (.ops [o 10 (.mv (i 1))])
 (.block 2 (.loop (.seq (.seq (.ops [o 39 (.mv (t 10)),
 o 40 (.mv (t 1)),
 o 41 (.bin .quo (t 40) (i 2)),
 o 42 (.bin .lss (t 39) (t 41))])
 (.cond (t 42)
 .skip
 (.exit 2)))
 (.seq (.block 3 (.opd [o 45 (.ld true 7 (t 8)),
 o 46 (.mv (t 2)),
 o 47 (.bin .mul (t 46) (i 7919)),
 o 48 (.mv (t 10)),
 o 49 (.fa 0 (t 3)),
 o 50 (.ld false 1 (t 49)),
 o 51 (.bin .shl (i 1) (t 50)),
 o 52 (.mv (t 1)),
 o 53 (.bin .quo (t 52) (i 2)),
 o 54 (.bin .quo (t 51) (t 53)),
 o 55 (.bin .mul (t 48) (t 54)),
 o 56 (.bin .add (t 47) (t 55)),
 o 57 (.fa 0 (t 3)),
 o 58 (.ld false 1 (t 57)),
 k 59 (.ca (.func 57) [(t 56), (t 58)]),
 k 60 (.cq (.func 79) [(t 45), (t 59)])]))
 (.ops [o 43 (.mv (t 10)),
 o 44 (.bin .add (t 43) (i 1)),
 o 10 (.mv (t 44))]))))))
 (.seq (.ops [o 61 (.fa 0 (t 3)),
 o 62 (.ld false 1 (t 61)),
 o 63 (.bin .sub (t 62) (i 1)),
 o 64 (.bin .shl (i 1) (t 63)),
 o 11 (.mv (t 64))])
 (.seq (.ops [o 65 (.ld true 7 (t 8)),
 o 66 (.mv (t 11)),
 k 67 (.ca (.func 79) [(t 65), (t 66)])])
 (.seq (.opq [o 68 (.ld true 7 (t 8)),
 o 69 (.fa 0 (t 3)),
 o 70 (.ld false 1 (t 69)),
 o 71 (.bin .shl (i 1) (t 70)),
 o 72 (.bin .sub (t 71) (i 1)),
 k 73 (.ca (.func 79) [(t 68), (t 72)])])
 (.seq (.ops [o 74 (.ld true 7 (t 8)),
 o 75 (.fa 2 (t 3)),
 o 76 (.ld false 1 (t 75)),
 k 77 (.ca (.func 79) [(t 74), (t 76)])])
 (.seq (.seq (.ops [o 78 (.ld true 6 (t 3)),
 o 79 (.fa 3 (t 3)),
 o 80 (.ld false 1 (t 79)),
 k 81 (.ca (.func 40) [(t 78), (t 80)])])
 (.cond (t 81)
 (.ops [o 82 (.ld true 7 (t 8)),
 o 83 (.fa 3 (t 3)),
 o 84 (.ld false 1 (t 83)),
 k 85 (.ca (.func 79) [(t 82), (t 84)])])
 .skip))
 (.seq (.seq (.ops [o 86 (.ld true 6 (t 3)),
 o 87 (.mv (t 11)),
 o 88 (.bin .sub (t 87) (i 1)),
 k 89 (.ca (.func 40) [(t 86), (t 88)])])
 (.cond (t 89)
 (.ops [o 90 (.ld true 7 (t 8)),
 o 91 (.mv (t 11)),
 o 92 (.bin .sub (t 91) (i 1)),
 k 93 (.ca (.func 79) [(t 90), (t 92)])])
 .skip))
 (.seq (.ops [o 94 (.ld false 1 (t 7)),
 o 6 (.mv (t 94))])
 .ret)))))))))))))⟩
theorem e39 : slimF Try.prog Try.f39 [[(0, []), (1, []), (2, []), (3, []), (4, []), (5, []), (6, []), (7, []), (8, []), (9, []), (10, []), (11, []), (12, []), (13, []), (14, [])], [(0, []), (1, []), (2, []), (3, []), (4, []), (5, []), (6, []), (7, []), (8, []), (9, []), (10, []), (11, []), (12, []), (13, []), (14, []), (15, [0])], [(0, []), (1, []), (2, []), (3, []), (4, []), (5, [])]] = some c39 := by kernel_rfl
/-- cellar/cellarref1.Wrap -/
def c57 : SF := ⟨10, [.t 4], (.seq (.ops [o 4 (.mv (i 0))])
 (.seq (.ops [o 5 (.mv (t 0)),
 o 6 (.mv (t 1)),
 o 7 (.bin .shl (i 1) (t 6)),
 o 8 (.bin .sub (t 7) (i 1)),
 o 9 (.bin .and (t 5) (t 8)),
 o 4 (.mv (t 9))])
 .ret))⟩
theorem e57 : slimF Try.prog Try.f57 [] = some c57 := by kernel_rfl
/-- cellar/cellarref1.gather -/
def c78 : SF := ⟨8, [.c true 7 4], (.seq (.ops [k 2 (.bx 34 (t 0)),
 k 4 (.al 97 [.int .i64 0, .bool false, .int .i64 0, .int .i64 0, .int .i64 0, .int .i64 0, .pointer none])])
 (.seq (.ops [o 5 (.ld true 6 (t 2)),
 o 6 (.mv (t 1)),
 o 7 (.bd [.int .i64 0, .bool false, .int .i64 0, .int .i64 0, .int .i64 0, .int .i64 0, .pointer none] [(0, 6, (t 5)), (6, 1, (t 6))]),
 kn (.st [] 7 (t 4) (t 7))])
 .ret))⟩
theorem e78 : slimF Try.prog Try.f78 [] = some c78 := by kernel_rfl
/-- (cellar/cellarref1.adder).next -/
def c79 : SF := ⟨29, [.t 4], (.seq (.ops [k 2 (.bx 97 (t 0)),
 o 4 (.mv (b false))])
 (.seq (.ops [o 6 (.fa 0 (t 2)),
 o 7 (.ld true 6 (t 6)),
 o 8 (.mv (t 1)),
 k 9 (.ca (.func 41) [(t 7), (t 8)]),
 o 5 (.mv (t 9))])
 (.seq (.seq (.ops [o 10 (.mv (t 5)),
 o 11 (.bin .lss (t 10) (i 0))])
 (.cond (t 11)
 (.seq (.ops [o 4 (.mv (b false))])
 .ret)
 .skip))
 (.seq (.seq (.ops [o 12 (.fa 6 (t 2)),
 o 13 (.ld false 1 (t 12)),
 o 14 (.nc (t 13)),
 o 15 (.ld false 1 (t 14)),
 o 16 (.mv (t 5)),
 k 17 (.ca (.func 119) [(t 15), (t 16)]),
 o 18 (.bin .lss (t 17) (i 0))])
 (.cond (t 18)
 (.opq [o 19 (.fa 6 (t 2)),
 o 20 (.ld false 1 (t 19)),
 o 21 (.fa 6 (t 2)),
 o 22 (.ld false 1 (t 21)),
 o 23 (.nc (t 22)),
 o 24 (.ld false 1 (t 23)),
 o 25 (.mv (t 5)),
 k 26 (.bs 3 1 [.int .i64 0] [(0, 1, (t 25))]),
 k 27 (.ap 3 1 8 (t 24) (t 26)),
 o 28 (.nc (t 20)),
 kn (.st [] 1 (t 28) (t 27))])
 .skip))
 (.seq (.ops [o 4 (.mv (b true))])
 .ret)))))⟩
theorem e79 : slimF Try.prog Try.f79 [[(0, []), (1, []), (2, []), (3, []), (4, []), (5, []), (6, []), (7, []), (8, []), (9, []), (10, [])]] = some c79 := by kernel_rfl
/-- cellar/cellarref1.Just -/
def c82 : SF := ⟨10, [.c true 6 4], (.seq (.ops [k 4 (.al 34 [.int .i64 0, .bool false, .int .i64 0, .int .i64 0, .int .i64 0, .int .i64 0])])
 (.seq (.ops [o 5 (.mv (t 0)),
 o 6 (.mv (t 1)),
 o 7 (.mv (t 1)),
 o 8 (.mv (t 1)),
 o 9 (.bd [.int .i64 0, .bool false, .int .i64 0, .int .i64 0, .int .i64 0, .int .i64 0] [(0, 1, (t 5)), (2, 1, (t 6)), (3, 1, (t 7)), (5, 1, (t 8))]),
 kn (.st [] 6 (t 4) (t 9))])
 .ret))⟩
theorem e82 : slimF Try.prog Try.f82 [] = some c82 := by kernel_rfl
/-- cellar/cellarref0.In -/
def c119 : SF := ⟨19, [.t 4], (.seq (.ops [o 4 (.mv (i 0))])
 (.seq (.seq (.ops [o 5 (.mv (i 0))])
 (.block 0 (.loop (.seq (.seq (.ops [o 6 (.mv (t 5)),
 o 7 (.mv (t 0)),
 o 8 (.ln (t 7)),
 o 9 (.bin .lss (t 6) (t 8))])
 (.cond (t 9)
 .skip
 (.exit 0)))
 (.seq (.block 1 (.seq (.ops [o 12 (.mv (t 0)),
 o 13 (.mv (t 5)),
 o 14 (.ia 1 (t 12) (t 13)),
 o 15 (.ld false 1 (t 14)),
 o 16 (.mv (t 1)),
 o 17 (.bin .eql (t 15) (t 16))])
 (.cond (t 17)
 (.seq (.ops [o 18 (.mv (t 5)),
 o 4 (.mv (t 18))])
 .ret)
 .skip)))
 (.ops [o 10 (.mv (t 5)),
 o 11 (.bin .add (t 10) (i 1)),
 o 5 (.mv (t 11))]))))))
 (.seq (.ops [o 4 (.mv (i (-1)))])
 .ret)))⟩
theorem e119 : slimF Try.prog Try.f119 [] = some c119 := by kernel_rfl
end Go.Proofs.Try.S
/- Contracts: is it there; the page's gathering of some members. -/
namespace Go.Proofs.Try.K
open Go Go.Ax Go.Proofs.Try.S
set_option maxRecDepth 100000
set_option linter.unusedSimpArgs false
set_option linter.unusedVariables false
set_option maxHeartbeats 4000000
variable (F : Fz) (M : Hp)

def in79 (v : Value) (l : List Int) (n : Int) (F : Fz) (M : Hp) (m : Nat) (σ : Env) (F' : Fz) (M' : Hp) : Prop :=
  F' = F ∧ M' = M ∧ Ax.look σ 0 = some v ∧ Ax.look σ 1 = some (.int .i64 n) ∧ ∃ i : Nat, i + m = l.length ∧ Ax.look σ 5 = some (.int .i64 i) ∧ n ∉ l.take i
theorem k119 (v : Value) (l : List Int) (n : Int) (hl : l.length ≤ 100000)
    (h : v = .slice none 0 0 ∧ l = [] ∨ ∃ g cap, v = .slice (some ⟨g, 0, none⟩) l.length cap ∧ blk F M g = some (l.map intV)) :
    CallsA Try.prog 119 [v, .int .i64 n] F M fun u F' M' => F' = F ∧ M' = M ∧ ∃ z, u = .int .i64 z ∧ (z < 0 ↔ n ∉ l) := by
  refine callsA_of hm Try.func119 e119 (Nat.le_of_ble_eq_true rfl) ?_
  simp only [c119, go_sem, reduceCtorEq, reduceIte, Nat.reduceEqDiff, Nat.reduceAdd, Nat.reduceLeDiff, Nat.reduceMul, Int.reduceLT, Int.reduceLE, Int.reduceAdd, Int.reduceSub, Int.reduceMul, Int.reduceNeg, Int.reduceToNat, Int.reduceEq]
  rcases h with ⟨rfl, rfl⟩ | ⟨g, cap, rfl, hb⟩
  · refine loop_of (fun m σ F' M' => F' = F ∧ M' = M ∧ Ax.look σ 0 = some (.slice none 0 0) ∧ Ax.look σ 5 = some (.int .i64 0)) 0 ?_ ?_
    · exact ⟨rfl, rfl, by simp only [go_sem, reduceCtorEq, reduceIte, Nat.reduceEqDiff], by simp only [go_sem, reduceCtorEq, reduceIte, Nat.reduceEqDiff]⟩
    · rintro m σ F' M' ⟨rfl, rfl, h0, h5⟩
      simp only [go_sem, reduceCtorEq, reduceIte, Nat.reduceEqDiff, Nat.reduceAdd, Nat.reduceLeDiff, Nat.reduceMul, Int.reduceLT, Int.reduceLE, Int.reduceAdd, Int.reduceSub, Int.reduceMul, Int.reduceNeg, Int.reduceToNat, Int.reduceEq, h0, h5]
      exact endK_same ⟨rfl, rfl, -1, rfl, by simp⟩
  · refine loop_of (in79 (.slice (some ⟨g, 0, none⟩) l.length cap) l n F M) l.length ?_ ?_
    · exact ⟨rfl, rfl, by simp only [go_sem, reduceCtorEq, reduceIte, Nat.reduceEqDiff], by simp only [go_sem, reduceCtorEq, reduceIte, Nat.reduceEqDiff], 0, by omega, by simp only [go_sem, reduceCtorEq, reduceIte, Nat.reduceEqDiff] <;> rfl, by simp⟩
    · rintro m σ F' M' ⟨rfl, rfl, h0, h1, i, hi, h5, hn⟩
      by_cases hil : (i : Int) < l.length
      · have hi0 : (0 : Int) ≤ i := by omega
        have hil' : i < l.length := by omega
        have hget := get_ints hil'
        have ei : IntKind.i64.wrap ((i : Int) + 1) = i + 1 := w64 (by omega) (by omega)
        by_cases he : l[i] = n
        · simp only [go_sem, reduceCtorEq, reduceIte, Nat.reduceEqDiff, Nat.reduceAdd, Nat.reduceLeDiff, Nat.reduceMul, Int.reduceLT, Int.reduceLE, Int.reduceAdd, Int.reduceSub, Int.reduceMul, Int.reduceNeg, Int.reduceToNat, Int.reduceEq, h0, h1, h5, hil, hi0, Int.toNat_natCast, Nat.mul_one, hget, hb, he]
          refine endK_same ⟨rfl, rfl, i, rfl, ?_⟩
          constructor
          · intro h; omega
          · intro h; exact absurd (he ▸ List.getElem_mem hil') h
        · simp only [go_sem, reduceCtorEq, reduceIte, Nat.reduceEqDiff, Nat.reduceAdd, Nat.reduceLeDiff, Nat.reduceMul, Int.reduceLT, Int.reduceLE, Int.reduceAdd, Int.reduceSub, Int.reduceMul, Int.reduceNeg, Int.reduceToNat, Int.reduceEq, h0, h1, h5, hil, hi0, Int.toNat_natCast, Nat.mul_one, hget, hb, he, ei]
          refine ⟨m - 1, by omega, rfl, rfl, by simp only [go_sem, reduceCtorEq, reduceIte, Nat.reduceEqDiff, h0], by simp only [go_sem, reduceCtorEq, reduceIte, Nat.reduceEqDiff, h1], i + 1, by omega, by simp only [go_sem, reduceCtorEq, reduceIte, Nat.reduceEqDiff]; rfl, by
            rw [List.take_succ_eq_append_getElem hil']
            simp only [List.mem_append, List.mem_singleton, not_or]
            exact ⟨hn, fun e => he e.symm⟩⟩
      · simp only [go_sem, reduceCtorEq, reduceIte, Nat.reduceEqDiff, Nat.reduceAdd, Nat.reduceLeDiff, Nat.reduceMul, Int.reduceLT, Int.reduceLE, Int.reduceAdd, Int.reduceSub, Int.reduceMul, Int.reduceNeg, Int.reduceToNat, Int.reduceEq, h0, h1, h5, hil]
        have : l.take i = l := List.take_of_length_le (by omega)
        rw [this] at hn
        exact endK_same ⟨rfl, rfl, -1, rfl, by simp [hn]⟩

def nextP (v : V) (n : Int) (l : List Int) (sl : Value) (p : Nat) (F : Fz) (M : Hp) (u : Value) (F' : Fz) (M' : Hp) : Prop :=
  F' = F ∧ ((v.nextR n < 0 ∧ u = .bool false ∧ M' = M) ∨ (0 ≤ v.nextR n ∧ u = .bool true ∧ ((v.nextR n ∈ l ∧ M' = M) ∨
    ∃ g cap, F g = none ∧ (M g = none ∨ ∃ c, sl = .slice (some ⟨g, 0, none⟩) l.length c) ∧ ¬ g = p ∧ l.length + 1 ≤ cap ∧ cap ≤ maxLen ∧
      M' = (M.upd p ⟨[.slice (some ⟨g, 0, none⟩) (l.length + 1) cap], 25, 1⟩).upd g ⟨(l ++ [v.nextR n]).map intV, 3, cap * 1⟩)))
theorem k79 (v : V) (n : Int) (hw0 : 0 ≤ v.w) (hw : v.w ≤ 62) (p : Nat) (sl : Value) (l : List Int) (hl : l.length ≤ 1000)
    (hp : M p = some ⟨[sl], 25, 1⟩)
    (h : sl = .slice none 0 0 ∧ l = [] ∨ ∃ g cap, sl = .slice (some ⟨g, 0, none⟩) l.length cap ∧ F g = none ∧ M g = some ⟨l.map intV, 3, cap * 1⟩ ∧ l.length ≤ cap ∧ cap ≤ maxLen ∧ ¬ g = p) :
    CallsA Try.prog 79 [.agg (v.cs ++ [Value.pointer (some ⟨p, 0, none⟩)]).toArray, .int .i64 n] F M (nextP v n l sl p F M) := by
  refine callsA_of hm Try.func79 e79 (Nat.le_of_ble_eq_true rfl) ?_
  simp only [c79, go_sem, reduceCtorEq, reduceIte, Nat.reduceEqDiff, Nat.reduceAdd, Nat.reduceLeDiff, Nat.reduceMul, Int.reduceLT, Int.reduceLE, Int.reduceAdd, Int.reduceSub, Int.reduceMul, Int.reduceNeg, Int.reduceToNat, Int.reduceEq]
  intro r hF hM
  have q1 := ne_of_none hM hp
  have bp := blk_M (F := F) hp
  simp only [go_sem, reduceCtorEq, reduceIte, Nat.reduceEqDiff, Nat.reduceAdd, Nat.reduceLeDiff, Nat.reduceMul, Int.reduceLT, Int.reduceLE, Int.reduceAdd, Int.reduceSub, Int.reduceMul, Int.reduceNeg, Int.reduceToNat, Int.reduceEq]
  refine callK_same (k41 F _ v n hw0 hw) ?_
  by_cases hx : v.nextR n < 0
  · simp only [go_sem, reduceCtorEq, reduceIte, Nat.reduceEqDiff, Nat.reduceAdd, Nat.reduceLeDiff, Nat.reduceMul, Int.reduceLT, Int.reduceLE, Int.reduceAdd, Int.reduceSub, Int.reduceMul, Int.reduceNeg, Int.reduceToNat, Int.reduceEq, hx]
    exact endK_drop hM (endK_same ⟨rfl, .inl ⟨hx, rfl, rfl⟩⟩)
  have hx0 : 0 ≤ v.nextR n := by omega
  simp only [go_sem, reduceCtorEq, reduceIte, Nat.reduceEqDiff, Nat.reduceAdd, Nat.reduceLeDiff, Nat.reduceMul, Int.reduceLT, Int.reduceLE, Int.reduceAdd, Int.reduceSub, Int.reduceMul, Int.reduceNeg, Int.reduceToNat, Int.reduceEq, hx, q1, bp]
  have hrow : sl = .slice none 0 0 ∧ l = [] ∨ ∃ g cap, sl = .slice (some ⟨g, 0, none⟩) l.length cap ∧ blk F (M.upd r ⟨v.cs ++ [Value.pointer (some ⟨p, 0, none⟩)], 97, 7⟩) g = some (l.map intV) := by
    rcases h with h | ⟨g, cap, h1, h2, h3, _⟩
    · exact .inl h
    · refine .inr ⟨g, cap, h1, ?_⟩
      rw [blk_upd_ne (ne_of_none hM h3).1]
      exact blk_M h3
  refine callK_of (k119 F _ sl l (v.nextR n) (by omega) hrow) ?_
  rintro u G M' ⟨hG, rfl, z, rfl, hz⟩
  rw [hG]
  refine ⟨(fun h => by cases h), ?_⟩
  by_cases hin : v.nextR n ∈ l
  · have hz' : ¬ z < 0 := fun h => hz.1 h hin
    simp only [go_sem, reduceCtorEq, reduceIte, Nat.reduceEqDiff, Nat.reduceAdd, Nat.reduceLeDiff, Nat.reduceMul, Int.reduceLT, Int.reduceLE, Int.reduceAdd, Int.reduceSub, Int.reduceMul, Int.reduceNeg, Int.reduceToNat, Int.reduceEq, hz']
    exact endK_drop hM (endK_same ⟨rfl, .inr ⟨hx0, rfl, .inl ⟨hin, rfl⟩⟩⟩)
  have hz' : z < 0 := hz.2 hin
  simp only [go_sem, reduceCtorEq, reduceIte, Nat.reduceEqDiff, Nat.reduceAdd, Nat.reduceLeDiff, Nat.reduceMul, Int.reduceLT, Int.reduceLE, Int.reduceAdd, Int.reduceSub, Int.reduceMul, Int.reduceNeg, Int.reduceToNat, Int.reduceEq, hz', q1, bp]
  intro rt hFt hMt
  have t1 := fresh_of hMt
  have q2 := ne_of_none t1.2.2 hp
  simp only [go_sem, reduceCtorEq, reduceIte, Nat.reduceEqDiff, Nat.reduceAdd, Nat.reduceLeDiff, Nat.reduceMul, Int.reduceLT, Int.reduceLE, Int.reduceAdd, Int.reduceSub, Int.reduceMul, Int.reduceNeg, Int.reduceToNat, Int.reduceEq, q1, q2, t1, bp]
  have own : Own ((M.upd r ⟨v.cs ++ [Value.pointer (some ⟨p, 0, none⟩)], 97, 7⟩).upd rt ⟨[.int .i64 (v.nextR n)], 3, 1⟩) 3 1 sl l.length (l.map intV) := by
    refine ⟨by simp, ?_⟩
    rcases h with ⟨h1, h2⟩ | ⟨g, cap, h1, h2, h3, h4, h5, _⟩
    · exact .inl ⟨h1, by rw [h2]; rfl⟩
    · exact .inr ⟨g, cap, h1, by rw [Hp.upd_ne' (ne_of_none t1.2.2 h3).1, Hp.upd_ne' (ne_of_none hM h3).1]; exact h3, h4, h5⟩
  refine apK_of (n := l.length) (xs := l.map intV) (m := 1) (ys := [v.nextR n].map intV) own ⟨rfl, .inr ⟨⟨rt, 0, none⟩, 1, rfl, .inr ⟨rt, 0, _, rfl, blk_upd_same, rfl⟩⟩⟩ (plain_ints _) (by simp only [maxLen]; omega) (by omega) ?_
  rintro v' M3 (⟨_, h0, _⟩ | ⟨g', cap', hg', rfl, hc3, hc4, rfl⟩)
  · cases h0
  rw [← List.map_append]
  have key : F g' = none ∧ (M g' = none ∨ ∃ c, sl = .slice (some ⟨g', 0, none⟩) l.length c) ∧ ¬ g' = p := by
    rcases hg' with ⟨c, hx⟩ | ⟨hx, hy⟩
    · rcases h with ⟨h1, _⟩ | ⟨g, cap, h1, h2, h3, h4, h5, h6⟩
      · rw [h1] at hx; cases hx
      · rw [h1] at hx; cases hx
        exact ⟨h2, .inr ⟨_, h1⟩, h6⟩
    · have y1 := fresh_of hy
      have y2 := fresh_of y1.2.2
      exact ⟨hx, .inl y2.2.2, (ne_of_none y2.2.2 hp).2⟩
  have kp : ¬ p = g' := fun e => key.2.2 e.symm
  simp only [go_sem, reduceCtorEq, reduceIte, Nat.reduceEqDiff, Nat.reduceAdd, Nat.reduceLeDiff, Nat.reduceMul, Int.reduceLT, Int.reduceLE, Int.reduceAdd, Int.reduceSub, Int.reduceMul, Int.reduceNeg, Int.reduceToNat, Int.reduceEq, q1, q2, t1, bp, kp, hp]
  refine endK_keep ?_ ⟨rfl, .inr ⟨hx0, rfl, .inr ⟨g', cap', key.1, key.2.1, key.2.2, hc3, hc4, rfl⟩⟩⟩
  refine Keep.both (Keep.new (Keep.new (Keep.refl _) ?_) ?_)
  · show (M.upd p _) r = none
    rw [upd_none]; exact ⟨q1.2, hM⟩
  · show (M.upd p _) rt = none
    rw [upd_none]; exact ⟨q2.2, t1.2.2⟩
end Go.Proofs.Try.K

/- Contract: some members, as the page gathers them. -/
namespace Go.Proofs.Try.K
open Go Go.Ax Go.Proofs.Try.S
set_option maxRecDepth 100000
set_option linter.unusedSimpArgs false
set_option linter.unusedVariables false
set_option maxHeartbeats 8000000
variable (F : Fz) (M : Hp)

theorem k57 (n w : Int) (h0 : 0 ≤ w) (h1 : w ≤ 62) : CallsA Try.prog 57 [.int .i64 n, .int .i64 w] F M (Same F M (.int .i64 (n % 2 ^ w.toNat))) := by
  refine callsA_of hm Try.func57 e57 (Nat.le_of_ble_eq_true rfl) ?_
  have : ¬ w < 0 := by omega
  simp only [c57, go_sem, reduceCtorEq, reduceIte, Nat.reduceEqDiff, Nat.reduceAdd, Nat.reduceLeDiff, Nat.reduceMul, Int.reduceLT, Int.reduceLE, Int.reduceAdd, Int.reduceSub, Int.reduceMul, Int.reduceNeg, Int.reduceToNat, Int.reduceEq, this, shl1 h0 h1, most_wrap h0 h1, band_mostV n h1]
  exact endK_same ⟨rfl, rfl, rfl⟩
theorem k82 (w n : Int) : CallsA Try.prog 82 [.int .i64 w, .int .i64 n] F M (Same F M (V.just w n).val) := by
  refine callsA_of hm Try.func82 e82 (Nat.le_of_ble_eq_true rfl) ?_
  simp only [c82, go_sem, reduceCtorEq, reduceIte, Nat.reduceEqDiff, Nat.reduceAdd, Nat.reduceLeDiff, Nat.reduceMul, Int.reduceLT, Int.reduceLE, Int.reduceAdd, Int.reduceSub, Int.reduceMul, Int.reduceNeg, Int.reduceToNat, Int.reduceEq]
  intro r hF hM
  simp only [go_sem, reduceCtorEq, reduceIte, Nat.reduceEqDiff, Nat.reduceAdd, Nat.reduceLeDiff, Nat.reduceMul, Int.reduceLT, Int.reduceLE, Int.reduceAdd, Int.reduceSub, Int.reduceMul, Int.reduceNeg, Int.reduceToNat, Int.reduceEq]
  exact endK_drop hM (endK_same ⟨rfl, rfl, rfl⟩)
def addV (v : V) (p : Nat) : Value := .agg (v.cs ++ [Value.pointer (some ⟨p, 0, none⟩)]).toArray
theorem k78 (v : V) (p : Nat) : CallsA Try.prog 78 [v.val, .pointer (some ⟨p, 0, none⟩)] F M (Same F M (addV v p)) := by
  refine callsA_of hm Try.func78 e78 (Nat.le_of_ble_eq_true rfl) ?_
  simp only [c78, go_sem, reduceCtorEq, reduceIte, Nat.reduceEqDiff, Nat.reduceAdd, Nat.reduceLeDiff, Nat.reduceMul, Int.reduceLT, Int.reduceLE, Int.reduceAdd, Int.reduceSub, Int.reduceMul, Int.reduceNeg, Int.reduceToNat, Int.reduceEq]
  intro r hF hM
  simp only [go_sem, reduceCtorEq, reduceIte, Nat.reduceEqDiff, Nat.reduceAdd, Nat.reduceLeDiff, Nat.reduceMul, Int.reduceLT, Int.reduceLE, Int.reduceAdd, Int.reduceSub, Int.reduceMul, Int.reduceNeg, Int.reduceToNat, Int.reduceEq]
  intro r1 hF1 hM1
  have g := fresh_of hM1
  simp only [go_sem, reduceCtorEq, reduceIte, Nat.reduceEqDiff, Nat.reduceAdd, Nat.reduceLeDiff, Nat.reduceMul, Int.reduceLT, Int.reduceLE, Int.reduceAdd, Int.reduceSub, Int.reduceMul, Int.reduceNeg, Int.reduceToNat, Int.reduceEq, g]
  exact endK_drop hM1 (endK_drop hM (endK_same ⟨rfl, rfl, rfl⟩))

structure SomeS (v : V) (F : Fz) (M : Hp) (r3 p r8 : Nat) (M' : Hp) (sl : Value) (l : List Int) : Prop where
  keep : Keep M M'
  f3 : M' r3 = some ⟨v.cs, 34, 6⟩
  fp : M' p = some ⟨[sl], 25, 1⟩
  f8 : M' r8 = some ⟨v.cs ++ [Value.pointer (some ⟨p, 0, none⟩)], 97, 7⟩
  np : M p = none
  n3 : ¬ r3 = p
  n8 : ¬ r8 = p
  row : sl = .slice none 0 0 ∧ l = [] ∨ ∃ g cap, sl = .slice (some ⟨g, 0, none⟩) l.length cap ∧ F g = none ∧ M' g = some ⟨l.map intV, 3, cap * 1⟩ ∧ l.length ≤ cap ∧ cap ≤ maxLen ∧ ¬ g = p ∧ M g = none ∧ ¬ r3 = g ∧ ¬ r8 = g
  mem : ∀ y ∈ l, 0 ≤ y ∧ y ≤ mostV v.w ∧ v.has y = true
theorem SomeS.next {v : V} {F : Fz} {M : Hp} {r3 p r8 : Nat} {M' : Hp} {sl : Value} {l : List Int} (hv : v.ok = true) (s : SomeS v F M r3 p r8 M' sl l) {n : Int} (hn : 0 ≤ n) {u : Value} {F' : Fz} {M2 : Hp}
    (h : nextP v n l sl p F M' u F' M2) : F' = F ∧ ∃ sl' l', SomeS v F M r3 p r8 M2 sl' l' ∧ l'.length ≤ l.length + 1 ∧ ((u = .bool true ∧ l' ≠ []) ∨ (u = .bool false ∧ l' = l)) := by
  obtain ⟨hF, ⟨h1, h2, rfl⟩ | ⟨h1, h2, ⟨h3, rfl⟩ | ⟨g, cap, g1, g2, g3, g4, g5, rfl⟩⟩⟩ := h
  · exact ⟨hF, sl, l, s, by omega, .inr ⟨h2, rfl⟩⟩
  · exact ⟨hF, sl, l, s, by omega, .inl ⟨h2, fun e => by rw [e] at h3; cases h3⟩⟩
  · refine ⟨hF, .slice (some ⟨g, 0, none⟩) (l.length + 1) cap, l ++ [v.nextR n], ?_, by simp, .inl ⟨h2, by simp⟩⟩
    have key : M g = none ∧ ¬ r3 = g ∧ ¬ r8 = g := by
      rcases g2 with g2 | ⟨c, g2⟩
      · exact ⟨s.keep.free g2, (ne_of_none g2 s.f3).1, (ne_of_none g2 s.f8).1⟩
      · rcases s.row with ⟨e, _⟩ | ⟨g', cap', e, _, _, _, _, _, k1, k2, k3⟩
        · rw [e] at g2; cases g2
        · rw [e] at g2; cases g2; exact ⟨k1, k2, k3⟩
    have gp : ¬ p = g := fun e => g3 e.symm
    refine ⟨(s.keep.new s.np).new key.1, ?_, ?_, ?_, s.np, s.n3, s.n8, .inr ⟨g, cap, by simp, g1, Hp.upd_same _ _ _, by simp; omega, g5, g3, key.1, key.2.1, key.2.2⟩, ?_⟩
    · rw [Hp.upd_ne' key.2.1, Hp.upd_ne' s.n3]; exact s.f3
    · rw [Hp.upd_ne' gp]; exact Hp.upd_same _ _ _
    · rw [Hp.upd_ne' key.2.2, Hp.upd_ne' s.n8]; exact s.f8
    · intro y hy
      rcases List.mem_append.1 hy with hy | hy
      · exact s.mem y hy
      · have e : y = v.nextR n := by simpa using hy
        rw [e]
        rcases nextR_spec hv hn with ⟨q1, q2, q3, q4, _⟩ | ⟨q1, _⟩
        · exact ⟨q1, q3, q4⟩
        · omega
theorem SomeS.rowN {v : V} {F : Fz} {M : Hp} {r3 p r8 : Nat} {M' : Hp} {sl : Value} {l : List Int} (s : SomeS v F M r3 p r8 M' sl l) :
    sl = .slice none 0 0 ∧ l = [] ∨ ∃ g cap, sl = .slice (some ⟨g, 0, none⟩) l.length cap ∧ F g = none ∧ M' g = some ⟨l.map intV, 3, cap * 1⟩ ∧ l.length ≤ cap ∧ cap ≤ maxLen ∧ ¬ g = p := by
  rcases s.row with h | ⟨g, cap, h1, h2, h3, h4, h5, h6, _⟩
  · exact .inl h
  · exact .inr ⟨g, cap, h1, h2, h3, h4, h5, h6⟩
def someR (v : V) (F : Fz) (M : Hp) (u : Value) (F' : Fz) (M' : Hp) : Prop :=
  F' = F ∧ ∃ l : List Int, l.length ≤ 1000 ∧ (∀ y ∈ l, 0 ≤ y ∧ y ≤ mostV v.w ∧ v.has y = true) ∧ (u = .slice none 0 0 ∧ l = [] ∧ M' = M ∨
    ∃ g cap, F g = none ∧ M g = none ∧ u = .slice (some ⟨g, 0, none⟩) l.length cap ∧ M' = M.upd g ⟨l.map intV, 3, cap * 1⟩)
/-- As someR; it has one, if the set has. -/
def someN (v : V) (F : Fz) (M : Hp) (u : Value) (F' : Fz) (M' : Hp) : Prop :=
  F' = F ∧ ∃ l : List Int, (l.length ≤ 1000 ∧ (l = [] → v.nextR 0 < 0)) ∧ (∀ y ∈ l, 0 ≤ y ∧ y ≤ mostV v.w ∧ v.has y = true) ∧ (u = .slice none 0 0 ∧ l = [] ∧ M' = M ∨
    ∃ g cap, F g = none ∧ M g = none ∧ u = .slice (some ⟨g, 0, none⟩) l.length cap ∧ M' = M.upd g ⟨l.map intV, 3, cap * 1⟩)
theorem someN.some {v : V} {F : Fz} {M : Hp} {u : Value} {F' : Fz} {M' : Hp} (h : someN v F M u F' M') : someR v F M u F' M' := by
  obtain ⟨h1, l, h2, h3, h4⟩ := h
  exact ⟨h1, l, h2.1, h3, h4⟩
theorem SomeS.done {v : V} {F : Fz} {M : Hp} {r3 p r8 : Nat} {M' : Hp} {sl : Value} {l : List Int} (s : SomeS v F M r3 p r8 M' sl l) (hne : l ≠ []) (hl : l.length ≤ 1000) : endK F M' (someN v F M) sl := by
  rcases s.row with ⟨h1, h2⟩ | ⟨g, cap, h1, h2, h3, h4, h5, h6, h7, _⟩
  · exact absurd h2 hne
  · exact endK_keep (s.keep.one h3) ⟨rfl, l, ⟨hl, fun h => absurd h hne⟩, s.mem, .inr ⟨g, cap, h2, h7, h1, rfl⟩⟩

def loopI (N : Int) (v : V) (F0 : Fz) (M : Hp) (r3 p r8 : Nat) (seed : Int) (slot c0 total : Nat) (m : Nat) (σ : Env) (F : Fz) (M' : Hp) : Prop :=
  F = F0 ∧ ∃ sl l, SomeS v F0 M r3 p r8 M' sl l ∧ l ≠ [] ∧ Ax.look σ 1 = some (.int .i64 N) ∧ Ax.look σ 2 = some (.int .i64 seed) ∧ Ax.look σ 3 = some (.pointer (some ⟨r3, 0, none⟩)) ∧ Ax.look σ 7 = some (.pointer (some ⟨p, 0, none⟩)) ∧
  Ax.look σ 8 = some (.pointer (some ⟨r8, 0, none⟩)) ∧ ∃ i : Nat, i + m = total ∧ Ax.look σ slot = some (.int .i64 i) ∧ l.length ≤ c0 + i
theorem k39_genN (v : V) (seed N : Int) (d e : Nat) (d3 : N.tdiv 3 = d) (d2 : N.tdiv 2 = e) (hd : d ≤ 100) (he : 2 ≤ e) (he1 : e ≤ 100) (hv : v.ok = true) :
    CallsA Try.prog 39 [v.val, .int .i64 N, .int .i64 seed] F M (someN v F M) := by
  refine callsA_of hm Try.func39 e39 (Nat.le_of_ble_eq_true rfl) ?_
  have hi := ok_in hv
  have hl := isW_le hi.w
  have hb := hi.big
  have n3 : ¬ (3 : Int) = 0 := by decide
  have wd : IntKind.i64.wrap (d : Int) = d := w64 (by omega) (by omega)
  have we : IntKind.i64.wrap (e : Int) = e := w64 (by omega) (by omega)
  have w0 : ¬ v.w < 0 := by omega
  simp only [c39, go_sem, reduceCtorEq, reduceIte, Nat.reduceEqDiff, Nat.reduceAdd, Nat.reduceLeDiff, Nat.reduceMul, Int.reduceLT, Int.reduceLE, Int.reduceAdd, Int.reduceSub, Int.reduceMul, Int.reduceNeg, Int.reduceToNat, Int.reduceEq]
  intro r3 hF3 hM3
  simp only [go_sem, reduceCtorEq, reduceIte, Nat.reduceEqDiff, Nat.reduceAdd, Nat.reduceLeDiff, Nat.reduceMul, Int.reduceLT, Int.reduceLE, Int.reduceAdd, Int.reduceSub, Int.reduceMul, Int.reduceNeg, Int.reduceToNat, Int.reduceEq]
  intro p hFp hMp
  have gp := fresh_of hMp
  simp only [go_sem, reduceCtorEq, reduceIte, Nat.reduceEqDiff, Nat.reduceAdd, Nat.reduceLeDiff, Nat.reduceMul, Int.reduceLT, Int.reduceLE, Int.reduceAdd, Int.reduceSub, Int.reduceMul, Int.reduceNeg, Int.reduceToNat, Int.reduceEq, gp]
  refine callK_same (k78 F _ v p) ?_
  simp only [go_sem, reduceCtorEq, reduceIte, Nat.reduceEqDiff, Nat.reduceAdd, Nat.reduceLeDiff, Nat.reduceMul, Int.reduceLT, Int.reduceLE, Int.reduceAdd, Int.reduceSub, Int.reduceMul, Int.reduceNeg, Int.reduceToNat, Int.reduceEq, gp]
  intro r8 hF8 hM8
  have g8 := fresh_of hM8
  have g83 := fresh_of g8.2.2
  simp only [addV, go_sem, reduceCtorEq, reduceIte, Nat.reduceEqDiff, Nat.reduceAdd, Nat.reduceLeDiff, Nat.reduceMul, Int.reduceLT, Int.reduceLE, Int.reduceAdd, Int.reduceSub, Int.reduceMul, Int.reduceNeg, Int.reduceToNat, Int.reduceEq, gp, g8, g83]
  have s : SomeS v F M r3 p r8 (((M.upd r3 ⟨v.cs, 34, 6⟩).upd p ⟨[.slice none 0 0], 25, 1⟩).upd r8 ⟨v.cs ++ [Value.pointer (some ⟨p, 0, none⟩)], 97, 7⟩) (.slice none 0 0) [] := by
    refine ⟨(((Keep.refl M).new hM3).new gp.2.2).new g83.2.2, ?_, ?_, Hp.upd_same _ _ _, gp.2.2, gp.2.1, g8.1, .inl ⟨rfl, rfl⟩, by simp⟩
    · rw [Hp.upd_ne' g83.2.1, Hp.upd_ne' gp.2.1]; exact Hp.upd_same _ _ _
    · rw [Hp.upd_ne' g8.2.1]; exact Hp.upd_same _ _ _
  refine callK_of (k79 F _ v 0 hl.1 hl.2 p (.slice none 0 0) [] (by simp) s.fp s.rowN) ?_
  rintro u G M1 hq
  have hq0 : u = .bool false → v.nextR 0 < 0 := by
    obtain ⟨_, ⟨h, _⟩ | ⟨_, h, _⟩⟩ := hq
    · exact fun _ => h
    · rintro rfl; cases h
  obtain ⟨hG, sl, l, s1, hl1, hu⟩ := s.next hv (Int.le_refl _) hq
  rw [hG]
  refine ⟨(fun h => by cases h), ?_⟩
  rcases hu with ⟨rfl, hne⟩ | ⟨rfl, rfl⟩
  rotate_left
  · simp only [go_sem, reduceCtorEq, reduceIte, Nat.reduceEqDiff, Nat.reduceAdd, Nat.reduceLeDiff, Nat.reduceMul, Int.reduceLT, Int.reduceLE, Int.reduceAdd, Int.reduceSub, Int.reduceMul, Int.reduceNeg, Int.reduceToNat, Int.reduceEq]
    refine endK_keep s1.keep ⟨rfl, [], ⟨by simp, fun _ => hq0 rfl⟩, by simp, .inl ⟨rfl, rfl, rfl⟩⟩
  simp only [go_sem, reduceCtorEq, reduceIte, Nat.reduceEqDiff, Nat.reduceAdd, Nat.reduceLeDiff, Nat.reduceMul, Int.reduceLT, Int.reduceLE, Int.reduceAdd, Int.reduceSub, Int.reduceMul, Int.reduceNeg, Int.reduceToNat, Int.reduceEq]
  clear hq s
  refine loop_of (loopI N v F M r3 p r8 seed 9 1 d) d ?_ ?_
  · exact ⟨rfl, sl, l, s1, hne, by simp only [go_sem, reduceCtorEq, reduceIte, Nat.reduceEqDiff], by simp only [go_sem, reduceCtorEq, reduceIte, Nat.reduceEqDiff], by simp only [go_sem, reduceCtorEq, reduceIte, Nat.reduceEqDiff], by simp only [go_sem, reduceCtorEq, reduceIte, Nat.reduceEqDiff], by simp only [go_sem, reduceCtorEq, reduceIte, Nat.reduceEqDiff], 0, by omega, by simp only [go_sem, reduceCtorEq, reduceIte, Nat.reduceEqDiff] <;> rfl, by simpa using hl1⟩
  clear hne hl1 s1 hM8 g8 g83 hMp
  clear sl l
  rintro m σ F' M' ⟨rfl, sl, l, s, hne, h1, h2, h3, h7, h8, i, hi', h9, hll⟩
  have b3 := blk_M (F := F') s.f3
  have bp := blk_M (F := F') s.fp
  have b8 := blk_M (F := F') s.f8
  by_cases hi8 : (i : Int) < d
  · rcases s.row with ⟨_, e⟩ | ⟨g, cap, rfl, q2, q3, _⟩
    · exact absurd e hne
    have bg := blk_M (F := F') q3
    have hpos : 0 < l.length := by cases l with | nil => exact absurd rfl hne | cons _ _ => simp
    have c1 : (0 : Int) < l.length := by omega
    have c2 : IntKind.i64.wrap ((l.length : Int) - 1) = l.length - 1 := w64 (by omega) (by omega)
    have c3 : (0 : Int) ≤ (l.length : Int) - 1 := by omega
    have c4 : (l.length : Int) - 1 < l.length := by omega
    have c5 : ((l.length : Int) - 1).toNat = l.length - 1 := by omega
    have hget := get_ints (l := l) (i := l.length - 1) (by omega)
    have hm := s.mem l[l.length - 1] (List.getElem_mem _)
    have c6 : IntKind.i64.wrap (l[l.length - 1] + 1) = l[l.length - 1] + 1 := w64 (by omega) (by omega)
    have ei : IntKind.i64.wrap ((i : Int) + 1) = i + 1 := w64 (by omega) (by omega)
    simp only [go_sem, reduceCtorEq, reduceIte, Nat.reduceEqDiff, Nat.reduceAdd, Nat.reduceLeDiff, Nat.reduceMul, Int.reduceLT, Int.reduceLE, Int.reduceAdd, Int.reduceSub, Int.reduceMul, Int.reduceNeg, Int.reduceToNat, Int.reduceEq, h1, h2, h3, h7, h8, h9, b3, bp, b8, bg, d3, wd, n3, hi8, c1, c2, c3, c4, c5, c6, hget, Nat.mul_one, not_false_eq_true]
    refine callK_of (k79 F' _ v (l[l.length - 1] + 1) hl.1 hl.2 p (.slice (some ⟨g, 0, none⟩) l.length cap) l (by omega) s.fp s.rowN) ?_
    rintro u G M1 hq
    obtain ⟨hG, sl1, l1, s1, hl1, hu⟩ := s.next hv (by omega) hq
    rw [hG]
    refine ⟨(fun h => by cases h), ?_⟩
    have b3' := blk_M (F := F') s1.f3
    have bp' := blk_M (F := F') s1.fp
    have b8' := blk_M (F := F') s1.f8
    rcases hu with ⟨rfl, hne1⟩ | ⟨rfl, rfl⟩
    · simp only [go_sem, reduceCtorEq, reduceIte, Nat.reduceEqDiff, Nat.reduceAdd, Nat.reduceLeDiff, Nat.reduceMul, Int.reduceLT, Int.reduceLE, Int.reduceAdd, Int.reduceSub, Int.reduceMul, Int.reduceNeg, Int.reduceToNat, Int.reduceEq, h1, h2, h3, h7, h8, h9, ei]
      exact ⟨m - 1, by omega, rfl, sl1, l1, s1, hne1, by simp only [go_sem, reduceCtorEq, reduceIte, Nat.reduceEqDiff, h1], by simp only [go_sem, reduceCtorEq, reduceIte, Nat.reduceEqDiff, h2], by simp only [go_sem, reduceCtorEq, reduceIte, Nat.reduceEqDiff, h3], by simp only [go_sem, reduceCtorEq, reduceIte, Nat.reduceEqDiff, h7], by simp only [go_sem, reduceCtorEq, reduceIte, Nat.reduceEqDiff, h8], i + 1, by omega, by simp only [go_sem, reduceCtorEq, reduceIte, Nat.reduceEqDiff]; rfl, by omega⟩
    · simp only [go_sem, reduceCtorEq, reduceIte, Nat.reduceEqDiff, Nat.reduceAdd, Nat.reduceLeDiff, Nat.reduceMul, Int.reduceLT, Int.reduceLE, Int.reduceAdd, Int.reduceSub, Int.reduceMul, Int.reduceNeg, Int.reduceToNat, Int.reduceEq, h1, h2, h3, h7, h8, h9, bp']
      exact s1.done hne (by omega)
  · simp only [go_sem, reduceCtorEq, reduceIte, Nat.reduceEqDiff, Nat.reduceAdd, Nat.reduceLeDiff, Nat.reduceMul, Int.reduceLT, Int.reduceLE, Int.reduceAdd, Int.reduceSub, Int.reduceMul, Int.reduceNeg, Int.reduceToNat, Int.reduceEq, h1, h2, h3, h7, h8, h9, d3, wd, n3, hi8, not_false_eq_true]
    refine loop_of (loopI N v F' M r3 p r8 seed 10 (d + 1) e) (e - 1) ?_ ?_
    · exact ⟨rfl, sl, l, s, hne, by simp only [go_sem, reduceCtorEq, reduceIte, Nat.reduceEqDiff, h1], by simp only [go_sem, reduceCtorEq, reduceIte, Nat.reduceEqDiff, h2], by simp only [go_sem, reduceCtorEq, reduceIte, Nat.reduceEqDiff, h3], by simp only [go_sem, reduceCtorEq, reduceIte, Nat.reduceEqDiff, h7], by simp only [go_sem, reduceCtorEq, reduceIte, Nat.reduceEqDiff, h8], 1, by omega, by simp only [go_sem, reduceCtorEq, reduceIte, Nat.reduceEqDiff] <;> rfl, by omega⟩
    clear b3 bp b8 h1 h2 h3 h7 h8 h9 s hne hll hi8 hi'
    clear sl l
    rintro m σ F'' M'' ⟨rfl, sl, l, s, hne, h1, h2, h3, h7, h8, j, hj, h10, hll⟩
    have b3 := blk_M (F := F'') s.f3
    have bp := blk_M (F := F'') s.fp
    have b8 := blk_M (F := F'') s.f8
    have n12 : ¬ (e : Int) = 0 := by omega
    have n2 : ¬ (2 : Int) = 0 := by decide
    by_cases hj12 : (j : Int) < e
    · have ej : IntKind.i64.wrap ((j : Int) + 1) = j + 1 := w64 (by omega) (by omega)
      simp only [go_sem, reduceCtorEq, reduceIte, Nat.reduceEqDiff, Nat.reduceAdd, Nat.reduceLeDiff, Nat.reduceMul, Int.reduceLT, Int.reduceLE, Int.reduceAdd, Int.reduceSub, Int.reduceMul, Int.reduceNeg, Int.reduceToNat, Int.reduceEq, h1, h2, h3, h7, h8, h10, d2, we, hj12, n12, n2, not_false_eq_true, b3, bp, b8, w0, shl1 hl.1 hl.2]
      refine callK_same (k57 _ _ _ v.w hl.1 hl.2) ?_
      simp only [go_sem, reduceCtorEq, reduceIte, Nat.reduceEqDiff, Nat.reduceAdd, Nat.reduceLeDiff, Nat.reduceMul, Int.reduceLT, Int.reduceLE, Int.reduceAdd, Int.reduceSub, Int.reduceMul, Int.reduceNeg, Int.reduceToNat, Int.reduceEq, h1, h2, h3, h7, h8, h10, b3, bp, b8]
      refine callQ_of (k79 _ _ v _ hl.1 hl.2 p sl l (by omega) s.fp s.rowN) ?_
      rintro u G M1 hq
      obtain ⟨hG, sl1, l1, s1, hl1, hu⟩ := s.next hv (Int.emod_nonneg _ (by omega)) hq
      rw [hG]
      have hne1 : l1 ≠ [] := by
        rcases hu with ⟨_, h⟩ | ⟨_, h⟩
        · exact h
        · rw [h]; exact hne
      simp only [go_sem, reduceCtorEq, reduceIte, Nat.reduceEqDiff, Nat.reduceAdd, Nat.reduceLeDiff, Nat.reduceMul, Int.reduceLT, Int.reduceLE, Int.reduceAdd, Int.reduceSub, Int.reduceMul, Int.reduceNeg, Int.reduceToNat, Int.reduceEq, h1, h2, h3, h7, h8, h10, ej]
      exact ⟨m - 1, by omega, rfl, sl1, l1, s1, hne1, by simp only [go_sem, reduceCtorEq, reduceIte, Nat.reduceEqDiff, h1], by simp only [go_sem, reduceCtorEq, reduceIte, Nat.reduceEqDiff, h2], by simp only [go_sem, reduceCtorEq, reduceIte, Nat.reduceEqDiff, h3], by simp only [go_sem, reduceCtorEq, reduceIte, Nat.reduceEqDiff, h7], by simp only [go_sem, reduceCtorEq, reduceIte, Nat.reduceEqDiff, h8], j + 1, by omega, by simp only [go_sem, reduceCtorEq, reduceIte, Nat.reduceEqDiff]; rfl, by omega⟩
    · have p1 : IntKind.i64.wrap (v.w - 1) = v.w - 1 := w64 (by omega) (by omega)
      have hw8 : 8 ≤ v.w := by have := hi.w; simp [isW] at this; omega
      have p2 : ¬ v.w - 1 < 0 := by omega
      have p3 : shlv .i64 1 (v.w - 1) = 2 ^ (v.w - 1).toNat := shl1 (by omega) (by omega)
      have hpow := pow_le62 (w := v.w - 1) (by omega)
      have hhalf : 0 ≤ (2 : Int) ^ (v.w - 1).toNat := by omega
      have hhalf1 : 0 ≤ (2 : Int) ^ (v.w - 1).toNat - 1 := by omega
      have p4 : IntKind.i64.wrap ((2 : Int) ^ (v.w - 1).toNat - 1) = 2 ^ (v.w - 1).toNat - 1 := w64 (by omega) (by omega)
      generalize (2 : Int) ^ (v.w - 1).toNat = half at *
      have hlow := hi.low
      have hhigh := hi.high
      simp only [go_sem, reduceCtorEq, reduceIte, Nat.reduceEqDiff, Nat.reduceAdd, Nat.reduceLeDiff, Nat.reduceMul, Int.reduceLT, Int.reduceLE, Int.reduceAdd, Int.reduceSub, Int.reduceMul, Int.reduceNeg, Int.reduceToNat, Int.reduceEq, h1, h2, h3, h7, h8, h10, b3, bp, b8, w0, p1, p2, p3, p4, shl1 hl.1 hl.2, most_wrap hl.1 hl.2, not_false_eq_true, d2, we, n2, hj12]
      replace hll : l.length ≤ 890 := by omega
      refine callK_of (k79 _ _ v half hl.1 hl.2 p _ _ (by omega) s.fp s.rowN) ?_
      rintro u G M1 hq
      obtain ⟨hG, sl1, l1, s1, hl1, hu⟩ := s.next hv (hhalf) hq
      rw [hG]
      refine ⟨(fun h => by cases h), ?_⟩
      have hne : l1 ≠ [] := by
        rcases hu with ⟨_, h⟩ | ⟨_, h⟩
        · exact h
        · rw [h]; exact hne
      replace hll : l1.length ≤ 891 := by omega
      clear hu hq hG hl1 s b3 bp b8
      have s := s1
      clear s1
      have b3 := blk_M (F := F'') s.f3
      have bp := blk_M (F := F'') s.fp
      have b8 := blk_M (F := F'') s.f8
      simp only [go_sem, reduceCtorEq, reduceIte, Nat.reduceEqDiff, Nat.reduceAdd, Nat.reduceLeDiff, Nat.reduceMul, Int.reduceLT, Int.reduceLE, Int.reduceAdd, Int.reduceSub, Int.reduceMul, Int.reduceNeg, Int.reduceToNat, Int.reduceEq, h1, h2, h3, h7, h8, h10, b3, bp, b8, w0, p1, p2, p3, p4, shl1 hl.1 hl.2, most_wrap hl.1 hl.2, not_false_eq_true]
      refine callK_of (k79 _ _ v (mostV v.w) hl.1 hl.2 p _ _ (by omega) s.fp s.rowN) ?_
      rintro u G M1 hq
      obtain ⟨hG, sl1, l1, s1, hl1, hu⟩ := s.next hv (by omega) hq
      rw [hG]
      refine ⟨(fun h => by cases h), ?_⟩
      have hne : l1 ≠ [] := by
        rcases hu with ⟨_, h⟩ | ⟨_, h⟩
        · exact h
        · rw [h]; exact hne
      replace hll : l1.length ≤ 892 := by omega
      clear hu hq hG hl1 s b3 bp b8
      have s := s1
      clear s1
      have b3 := blk_M (F := F'') s.f3
      have bp := blk_M (F := F'') s.fp
      have b8 := blk_M (F := F'') s.f8
      simp only [go_sem, reduceCtorEq, reduceIte, Nat.reduceEqDiff, Nat.reduceAdd, Nat.reduceLeDiff, Nat.reduceMul, Int.reduceLT, Int.reduceLE, Int.reduceAdd, Int.reduceSub, Int.reduceMul, Int.reduceNeg, Int.reduceToNat, Int.reduceEq, h1, h2, h3, h7, h8, h10, b3, bp, b8, w0, p1, p2, p3, p4, shl1 hl.1 hl.2, most_wrap hl.1 hl.2, not_false_eq_true]
      refine callK_of (k79 _ _ v v.low hl.1 hl.2 p _ _ (by omega) s.fp s.rowN) ?_
      rintro u G M1 hq
      obtain ⟨hG, sl1, l1, s1, hl1, hu⟩ := s.next hv (hlow.1) hq
      rw [hG]
      refine ⟨(fun h => by cases h), ?_⟩
      have hne : l1 ≠ [] := by
        rcases hu with ⟨_, h⟩ | ⟨_, h⟩
        · exact h
        · rw [h]; exact hne
      replace hll : l1.length ≤ 893 := by omega
      clear hu hq hG hl1 s b3 bp b8
      have s := s1
      clear s1
      have b3 := blk_M (F := F'') s.f3
      have bp := blk_M (F := F'') s.fp
      have b8 := blk_M (F := F'') s.f8
      simp only [go_sem, reduceCtorEq, reduceIte, Nat.reduceEqDiff, Nat.reduceAdd, Nat.reduceLeDiff, Nat.reduceMul, Int.reduceLT, Int.reduceLE, Int.reduceAdd, Int.reduceSub, Int.reduceMul, Int.reduceNeg, Int.reduceToNat, Int.reduceEq, h1, h2, h3, h7, h8, h10, b3, bp, b8, w0, p1, p2, p3, p4, shl1 hl.1 hl.2, most_wrap hl.1 hl.2, not_false_eq_true]
      refine callK_same (k40 _ _ v v.high) ?_
      cases hh1 : v.has v.high
      · simp only [go_sem, reduceCtorEq, reduceIte, Nat.reduceEqDiff, Nat.reduceAdd, Nat.reduceLeDiff, Nat.reduceMul, Int.reduceLT, Int.reduceLE, Int.reduceAdd, Int.reduceSub, Int.reduceMul, Int.reduceNeg, Int.reduceToNat, Int.reduceEq, h1, h2, h3, h7, h8, h10, b3, bp, b8, w0, p1, p2, p3, p4, shl1 hl.1 hl.2, most_wrap hl.1 hl.2, not_false_eq_true]
        refine callK_same (k40 _ _ v (half - 1)) ?_
        cases hh2 : v.has (half - 1)
        · simp only [go_sem, reduceCtorEq, reduceIte, Nat.reduceEqDiff, Nat.reduceAdd, Nat.reduceLeDiff, Nat.reduceMul, Int.reduceLT, Int.reduceLE, Int.reduceAdd, Int.reduceSub, Int.reduceMul, Int.reduceNeg, Int.reduceToNat, Int.reduceEq, h1, h2, h3, h7, h8, h10, b3, bp, b8, w0, p1, p2, p3, p4, shl1 hl.1 hl.2, most_wrap hl.1 hl.2, not_false_eq_true]
          exact s.done hne (by omega)
        · simp only [go_sem, reduceCtorEq, reduceIte, Nat.reduceEqDiff, Nat.reduceAdd, Nat.reduceLeDiff, Nat.reduceMul, Int.reduceLT, Int.reduceLE, Int.reduceAdd, Int.reduceSub, Int.reduceMul, Int.reduceNeg, Int.reduceToNat, Int.reduceEq, h1, h2, h3, h7, h8, h10, b3, bp, b8, w0, p1, p2, p3, p4, shl1 hl.1 hl.2, most_wrap hl.1 hl.2, not_false_eq_true]
          refine callK_of (k79 _ _ v (half - 1) hl.1 hl.2 p _ _ (by omega) s.fp s.rowN) ?_
          rintro u G M1 hq
          obtain ⟨hG, sl1, l1, s1, hl1, hu⟩ := s.next hv (by omega) hq
          rw [hG]
          refine ⟨(fun h => by cases h), ?_⟩
          have hne : l1 ≠ [] := by
            rcases hu with ⟨_, h⟩ | ⟨_, h⟩
            · exact h
            · rw [h]; exact hne
          replace hll : l1.length ≤ 894 := by omega
          clear hu hq hG hl1 s b3 bp b8
          have s := s1
          clear s1
          have b3 := blk_M (F := F'') s.f3
          have bp := blk_M (F := F'') s.fp
          have b8 := blk_M (F := F'') s.f8
          simp only [go_sem, reduceCtorEq, reduceIte, Nat.reduceEqDiff, Nat.reduceAdd, Nat.reduceLeDiff, Nat.reduceMul, Int.reduceLT, Int.reduceLE, Int.reduceAdd, Int.reduceSub, Int.reduceMul, Int.reduceNeg, Int.reduceToNat, Int.reduceEq, h1, h2, h3, h7, h8, h10, b3, bp, b8, w0, p1, p2, p3, p4, shl1 hl.1 hl.2, most_wrap hl.1 hl.2, not_false_eq_true]
          exact s.done hne (by omega)
      · simp only [go_sem, reduceCtorEq, reduceIte, Nat.reduceEqDiff, Nat.reduceAdd, Nat.reduceLeDiff, Nat.reduceMul, Int.reduceLT, Int.reduceLE, Int.reduceAdd, Int.reduceSub, Int.reduceMul, Int.reduceNeg, Int.reduceToNat, Int.reduceEq, h1, h2, h3, h7, h8, h10, b3, bp, b8, w0, p1, p2, p3, p4, shl1 hl.1 hl.2, most_wrap hl.1 hl.2, not_false_eq_true]
        refine callK_of (k79 _ _ v v.high hl.1 hl.2 p _ _ (by omega) s.fp s.rowN) ?_
        rintro u G M1 hq
        obtain ⟨hG, sl1, l1, s1, hl1, hu⟩ := s.next hv (hhigh.1) hq
        rw [hG]
        refine ⟨(fun h => by cases h), ?_⟩
        have hne : l1 ≠ [] := by
          rcases hu with ⟨_, h⟩ | ⟨_, h⟩
          · exact h
          · rw [h]; exact hne
        replace hll : l1.length ≤ 894 := by omega
        clear hu hq hG hl1 s b3 bp b8
        have s := s1
        clear s1
        have b3 := blk_M (F := F'') s.f3
        have bp := blk_M (F := F'') s.fp
        have b8 := blk_M (F := F'') s.f8
        simp only [go_sem, reduceCtorEq, reduceIte, Nat.reduceEqDiff, Nat.reduceAdd, Nat.reduceLeDiff, Nat.reduceMul, Int.reduceLT, Int.reduceLE, Int.reduceAdd, Int.reduceSub, Int.reduceMul, Int.reduceNeg, Int.reduceToNat, Int.reduceEq, h1, h2, h3, h7, h8, h10, b3, bp, b8, w0, p1, p2, p3, p4, shl1 hl.1 hl.2, most_wrap hl.1 hl.2, not_false_eq_true]
        refine callK_same (k40 _ _ v (half - 1)) ?_
        cases hh2 : v.has (half - 1)
        · simp only [go_sem, reduceCtorEq, reduceIte, Nat.reduceEqDiff, Nat.reduceAdd, Nat.reduceLeDiff, Nat.reduceMul, Int.reduceLT, Int.reduceLE, Int.reduceAdd, Int.reduceSub, Int.reduceMul, Int.reduceNeg, Int.reduceToNat, Int.reduceEq, h1, h2, h3, h7, h8, h10, b3, bp, b8, w0, p1, p2, p3, p4, shl1 hl.1 hl.2, most_wrap hl.1 hl.2, not_false_eq_true]
          exact s.done hne (by omega)
        · simp only [go_sem, reduceCtorEq, reduceIte, Nat.reduceEqDiff, Nat.reduceAdd, Nat.reduceLeDiff, Nat.reduceMul, Int.reduceLT, Int.reduceLE, Int.reduceAdd, Int.reduceSub, Int.reduceMul, Int.reduceNeg, Int.reduceToNat, Int.reduceEq, h1, h2, h3, h7, h8, h10, b3, bp, b8, w0, p1, p2, p3, p4, shl1 hl.1 hl.2, most_wrap hl.1 hl.2, not_false_eq_true]
          refine callK_of (k79 _ _ v (half - 1) hl.1 hl.2 p _ _ (by omega) s.fp s.rowN) ?_
          rintro u G M1 hq
          obtain ⟨hG, sl1, l1, s1, hl1, hu⟩ := s.next hv (by omega) hq
          rw [hG]
          refine ⟨(fun h => by cases h), ?_⟩
          have hne : l1 ≠ [] := by
            rcases hu with ⟨_, h⟩ | ⟨_, h⟩
            · exact h
            · rw [h]; exact hne
          replace hll : l1.length ≤ 895 := by omega
          clear hu hq hG hl1 s b3 bp b8
          have s := s1
          clear s1
          have b3 := blk_M (F := F'') s.f3
          have bp := blk_M (F := F'') s.fp
          have b8 := blk_M (F := F'') s.f8
          simp only [go_sem, reduceCtorEq, reduceIte, Nat.reduceEqDiff, Nat.reduceAdd, Nat.reduceLeDiff, Nat.reduceMul, Int.reduceLT, Int.reduceLE, Int.reduceAdd, Int.reduceSub, Int.reduceMul, Int.reduceNeg, Int.reduceToNat, Int.reduceEq, h1, h2, h3, h7, h8, h10, b3, bp, b8, w0, p1, p2, p3, p4, shl1 hl.1 hl.2, most_wrap hl.1 hl.2, not_false_eq_true]
          exact s.done hne (by omega)
theorem k39_gen (v : V) (seed N : Int) (d e : Nat) (d3 : N.tdiv 3 = d) (d2 : N.tdiv 2 = e) (hd : d ≤ 100) (he : 2 ≤ e) (he1 : e ≤ 100) (hv : v.ok = true) :
    CallsA Try.prog 39 [v.val, .int .i64 N, .int .i64 seed] F M (someR v F M) :=
  (k39_genN F M v seed N d e d3 d2 hd he he1 hv).mono fun _ _ _ h => h.some
theorem k39 (v : V) (seed : Int) (hv : v.ok = true) : CallsA Try.prog 39 [v.val, .int .i64 24, .int .i64 seed] F M (someR v F M) :=
  k39_gen F M v seed 24 8 12 (by decide) (by decide) (by decide) (by decide) (by decide) hv
end Go.Proofs.Try.K

/- Contract: members of one set are another one's, as far as they are looked at. -/
namespace Go.Proofs.Try.K
open Go Go.Ax Go.Proofs.Try.S
set_option maxRecDepth 100000
set_option linter.unusedSimpArgs false
set_option linter.unusedVariables false
variable (F : Fz) (M : Hp)

def wiI (l : List Int) (cap : Nat) (F0 : Fz) (M0 : Hp) (rb g : Nat) (m : Nat) (σ : Env) (F : Fz) (M : Hp) : Prop :=
  F = F0 ∧ M = M0 ∧ Ax.look σ 4 = some (.pointer (some ⟨rb, 0, none⟩)) ∧ Ax.look σ 7 = some (.slice (some ⟨g, 0, none⟩) l.length cap) ∧ ∃ i : Nat, i + m = l.length ∧ Ax.look σ 8 = some (.int .i64 i)
theorem k38 (a b : V) (seed : Int) (ha : a.ok = true) (hs : Sub a b) : CallsA Try.prog 38 [a.val, b.val, .int .i64 seed] F M (Same F M (.bool true)) := by
  refine callsA_of hm Try.func38 e38 (Nat.le_of_ble_eq_true rfl) ?_
  simp only [c38, go_sem, reduceCtorEq, reduceIte, Nat.reduceEqDiff, Nat.reduceAdd, Nat.reduceLeDiff, Nat.reduceMul, Int.reduceLT, Int.reduceLE, Int.reduceAdd, Int.reduceSub, Int.reduceMul, Int.reduceNeg, Int.reduceToNat, Int.reduceEq]
  intro ra hFa hMa
  simp only [go_sem, reduceCtorEq, reduceIte, Nat.reduceEqDiff, Nat.reduceAdd, Nat.reduceLeDiff, Nat.reduceMul, Int.reduceLT, Int.reduceLE, Int.reduceAdd, Int.reduceSub, Int.reduceMul, Int.reduceNeg, Int.reduceToNat, Int.reduceEq]
  intro rb hFb hMb
  have gb := fresh_of hMb
  simp only [go_sem, reduceCtorEq, reduceIte, Nat.reduceEqDiff, Nat.reduceAdd, Nat.reduceLeDiff, Nat.reduceMul, Int.reduceLT, Int.reduceLE, Int.reduceAdd, Int.reduceSub, Int.reduceMul, Int.reduceNeg, Int.reduceToNat, Int.reduceEq, gb]
  refine callK_of (k39 F _ a seed ha) ?_
  rintro u G M' ⟨hG, l, hl, hm, ⟨rfl, rfl, rfl⟩ | ⟨g, cap, hFg, hMg, rfl, rfl⟩⟩ <;> rw [hG] <;> refine ⟨(fun h => by cases h), ?_⟩
  · simp only [go_sem, reduceCtorEq, reduceIte, Nat.reduceEqDiff, Nat.reduceAdd, Nat.reduceLeDiff, Nat.reduceMul, Int.reduceLT, Int.reduceLE, Int.reduceAdd, Int.reduceSub, Int.reduceMul, Int.reduceNeg, Int.reduceToNat, Int.reduceEq, gb]
    refine loop_of (fun m σ F' M' => F' = F ∧ M' = (M.upd ra ⟨a.cs, 34, 6⟩).upd rb ⟨b.cs, 34, 6⟩ ∧ Ax.look σ 7 = some (.slice none 0 0) ∧ Ax.look σ 8 = some (.int .i64 0)) 0 ?_ ?_
    · exact ⟨rfl, rfl, by simp only [go_sem, reduceCtorEq, reduceIte, Nat.reduceEqDiff], by simp only [go_sem, reduceCtorEq, reduceIte, Nat.reduceEqDiff]⟩
    · rintro m σ F' M' ⟨rfl, rfl, h7, h8⟩
      simp only [go_sem, reduceCtorEq, reduceIte, Nat.reduceEqDiff, Nat.reduceAdd, Nat.reduceLeDiff, Nat.reduceMul, Int.reduceLT, Int.reduceLE, Int.reduceAdd, Int.reduceSub, Int.reduceMul, Int.reduceNeg, Int.reduceToNat, Int.reduceEq, h7, h8, Int.lt_irrefl]
      exact endK_drop hMb (endK_drop hMa (endK_same ⟨rfl, rfl, rfl⟩))
  · have g1 := fresh_of hMg
    have g2 := fresh_of g1.2.2
    have fb : ((((M.upd ra ⟨a.cs, 34, 6⟩).upd rb ⟨b.cs, 34, 6⟩).upd g ⟨l.map intV, 3, cap * 1⟩)) rb = some ⟨b.cs, 34, 6⟩ := by
      rw [Hp.upd_ne' g1.2.1]; exact Hp.upd_same _ _ _
    have bb := blk_M (F := F) fb
    have bg := blk_M (F := F) (Hp.upd_same ((M.upd ra ⟨a.cs, 34, 6⟩).upd rb ⟨b.cs, 34, 6⟩) g ⟨l.map intV, 3, cap * 1⟩)
    have kp : Keep M (((M.upd ra ⟨a.cs, 34, 6⟩).upd rb ⟨b.cs, 34, 6⟩).upd g ⟨l.map intV, 3, cap * 1⟩) := (((Keep.refl M).new hMa).new gb.2.2).new g2.2.2
    simp only [go_sem, reduceCtorEq, reduceIte, Nat.reduceEqDiff, Nat.reduceAdd, Nat.reduceLeDiff, Nat.reduceMul, Int.reduceLT, Int.reduceLE, Int.reduceAdd, Int.reduceSub, Int.reduceMul, Int.reduceNeg, Int.reduceToNat, Int.reduceEq, gb]
    generalize ((M.upd ra ⟨a.cs, 34, 6⟩).upd rb ⟨b.cs, 34, 6⟩).upd g ⟨l.map intV, 3, cap * 1⟩ = M2 at *
    refine loop_of (wiI l cap F M2 rb g) l.length ?_ ?_
    · exact ⟨rfl, rfl, by simp only [go_sem, reduceCtorEq, reduceIte, Nat.reduceEqDiff], by simp only [go_sem, reduceCtorEq, reduceIte, Nat.reduceEqDiff], 0, by omega, by simp only [go_sem, reduceCtorEq, reduceIte, Nat.reduceEqDiff] <;> rfl⟩
    · rintro m σ F' M' ⟨rfl, rfl, h4, h7, i, hi, h8⟩
      by_cases hil : (i : Int) < l.length
      · have hi0 : (0 : Int) ≤ i := by omega
        have hil' : i < l.length := by omega
        have hget := get_ints hil'
        have ei : IntKind.i64.wrap ((i : Int) + 1) = i + 1 := w64 (by omega) (by omega)
        obtain ⟨m1, m2, m3⟩ := hm l[i] (List.getElem_mem _)
        have hb := hs _ m1 m2 m3
        simp only [go_sem, reduceCtorEq, reduceIte, Nat.reduceEqDiff, Nat.reduceAdd, Nat.reduceLeDiff, Nat.reduceMul, Int.reduceLT, Int.reduceLE, Int.reduceAdd, Int.reduceSub, Int.reduceMul, Int.reduceNeg, Int.reduceToNat, Int.reduceEq, h4, h7, h8, hil, hi0, Int.toNat_natCast, Nat.mul_one, hget, bb, bg]
        refine callK_same (k40 _ _ b l[i]) ?_
        simp only [go_sem, reduceCtorEq, reduceIte, Nat.reduceEqDiff, Nat.reduceAdd, Nat.reduceLeDiff, Nat.reduceMul, Int.reduceLT, Int.reduceLE, Int.reduceAdd, Int.reduceSub, Int.reduceMul, Int.reduceNeg, Int.reduceToNat, Int.reduceEq, h4, h7, h8, hb, ei]
        exact ⟨m - 1, by omega, rfl, rfl, by simp only [go_sem, reduceCtorEq, reduceIte, Nat.reduceEqDiff, h4], by simp only [go_sem, reduceCtorEq, reduceIte, Nat.reduceEqDiff, h7], i + 1, by omega, by simp only [go_sem, reduceCtorEq, reduceIte, Nat.reduceEqDiff]; rfl⟩
      · simp only [go_sem, reduceCtorEq, reduceIte, Nat.reduceEqDiff, Nat.reduceAdd, Nat.reduceLeDiff, Nat.reduceMul, Int.reduceLT, Int.reduceLE, Int.reduceAdd, Int.reduceSub, Int.reduceMul, Int.reduceNeg, Int.reduceToNat, Int.reduceEq, h4, h7, h8, hil]
        exact endK_keep kp ⟨rfl, rfl, rfl⟩
end Go.Proofs.Try.K
