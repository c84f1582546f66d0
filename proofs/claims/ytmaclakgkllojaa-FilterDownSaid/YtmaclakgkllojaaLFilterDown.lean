/- The law FilterDown, walked: it returns true at every input. -/
import Derived.Test.YtmaclakgkllojaaProg
import Derived.Test.YtmaclakgkllojaaK35to39
namespace Go.Proofs.Try.S
open Go Go.Ax Go.Ax.N
set_option maxRecDepth 100000

/-- cellar/cellarlaw5.FilterDown -/
def c10 : SF := ⟨149, [.t 2], (.seq (.ops [k 1 (.bx 27 (t 0)),
 o 2 (.mv (b false))])
 (.seq (.seq (.ops [o 16 (.ld true 2 (t 1)),
 k 17 (.ca (.func 34) [(t 16)])])
 (.cond (t 17)
 (.seq (.ops [o 2 (.mv (b true))])
 .ret)
 .skip))
 (.seq (.seq (.ops [o 3 (.mv (i 0))])
 (.block 0 (.loop (.seq (.seq (.ops [o 18 (.mv (t 3)),
 o 19 (.bin .leq (t 18) (i 7))])
 (.cond (t 19)
 .skip
 (.exit 0)))
 (.seq (.block 1 (.seq (.ops [o 4 (.mv (i 0))])
 (.block 2 (.loop (.seq (.seq (.ops [o 22 (.mv (t 4)),
 o 23 (.bin .leq (t 22) (i 7))])
 (.cond (t 23)
 .skip
 (.exit 2)))
 (.seq (.block 3 (.seq (.opd [o 26 (.ld true 2 (t 1)),
 o 27 (.mv (t 3)),
 o 30 (.ld true 2 (t 1)),
 o 31 (.mv (t 4)),
 k 28 (.ca (.func 46) [(t 27)]),
 k 29 (.ca (.func 45) [(t 26), (t 28)]),
 k 32 (.ca (.func 46) [(t 31)]),
 k 33 (.ca (.func 45) [(t 30), (t 32)]),
 o 5 (.mv (t 29)),
 o 6 (.mv (t 33))])
 (.seq (.ops [o 7 (.mv (i 0))])
 (.block 4 (.loop (.seq (.seq (.ops [o 34 (.mv (t 7)),
 o 35 (.mv (t 5)),
 o 36 (.ln (t 35)),
 o 37 (.bin .lss (t 34) (t 36))])
 (.cond (t 37)
 .skip
 (.exit 4)))
 (.seq (.block 5 (.seq (.ops [o 8 (.mv (i 0))])
 (.block 6 (.loop (.seq (.seq (.ops [o 40 (.mv (t 8)),
 o 41 (.mv (t 6)),
 o 42 (.ln (t 41)),
 o 43 (.bin .lss (t 40) (t 42))])
 (.cond (t 43)
 .skip
 (.exit 6)))
 (.seq (.block 7 (.seq (.opq [o 46 (.mv (t 5)),
 o 47 (.mv (t 7)),
 o 48 (.ia 6 (t 46) (t 47)),
 o 49 (.ld true 6 (t 48)),
 o 50 (.mv (t 6)),
 o 51 (.mv (t 8)),
 o 52 (.ia 6 (t 50) (t 51)),
 o 53 (.ld true 6 (t 52)),
 k 9 (.al 34 [.int .i64 0, .bool false, .int .i64 0, .int .i64 0, .int .i64 0, .int .i64 0]),
 k 10 (.al 34 [.int .i64 0, .bool false, .int .i64 0, .int .i64 0, .int .i64 0, .int .i64 0]),
 kn (.st [52] 6 (t 9) (t 49)),
 kn (.st [] 6 (t 10) (t 53))])
 (.seq (.ops [o 55 (.mv (t 3)),
 o 56 (.mv (t 4)),
 o 57 (.ld true 6 (t 9)),
 o 58 (.ld true 6 (t 10)),
 k 59 (.ca (.func 47) [(t 55), (t 56), (t 57), (t 58)]),
 o 54 (.mv (t 59)),
 o 60 (.ex (t 54) 0),
 o 61 (.ex (t 54) 1),
 k 11 (.al 34 [.int .i64 0, .bool false, .int .i64 0, .int .i64 0, .int .i64 0, .int .i64 0]),
 kn (.st [] 6 (t 11) (t 60)),
 o 12 (.mv (t 61))])
 (.seq (.ops [o 13 (.mv (i 1))])
 (.seq (.seq (.opd [o 62 (.mv (t 3)),
 k 63 (.ca (.func 46) [(t 62)]),
 o 64 (.bin .gtr (t 63) (i 0)),
 o 65 (.mv (t 64)),
 og 66 65 true (.mv (t 4)),
 ⟨some 67, some (65, true), .ca (.func 46) [(t 66)]⟩,
 og 68 65 true (.bin .gtr (t 67) (i 0)),
 o 69 (.pick (t 65) (t 68) (b false)),
 o 70 (.mv (t 69)),
 og 71 70 true (.ld true 6 (t 9)),
 ⟨some 72, some (70, true), .ca (.func 36) [(t 71)]⟩,
 o 73 (.pick (t 70) (t 72) (b false)),
 o 74 (.mv (t 73)),
 og 75 74 true (.ld true 6 (t 10)),
 ⟨some 76, some (74, true), .ca (.func 36) [(t 75)]⟩,
 o 77 (.pick (t 74) (t 76) (b false)),
 o 78 (.mv (t 77)),
 og 79 78 true (.fa 0 (t 9)),
 og 80 78 true (.ld false 1 (t 79)),
 og 81 78 true (.mv (t 3)),
 ⟨some 82, some (78, true), .ca (.func 46) [(t 81)]⟩,
 og 83 78 true (.bin .eql (t 80) (t 82)),
 o 84 (.pick (t 78) (t 83) (b false)),
 o 85 (.mv (t 84)),
 og 86 85 true (.fa 0 (t 10)),
 og 87 85 true (.ld false 1 (t 86)),
 og 88 85 true (.mv (t 4)),
 ⟨some 89, some (85, true), .ca (.func 46) [(t 88)]⟩,
 og 90 85 true (.bin .eql (t 87) (t 89)),
 o 91 (.pick (t 85) (t 90) (b false))])
 (.cond (t 91)
 (.ops [o 13 (.mv (i 0))])
 .skip))
 (.seq (.seq (.ops [o 92 (.mv (t 12)),
 k 93 (.ca (.func 37) [(t 92)]),
 o 94 (.mv (t 13)),
 o 95 (.bin .neq (t 93) (t 94))])
 (.cond (t 95)
 (.seq (.ops [o 2 (.mv (b false))])
 .ret)
 .skip))
 (.seq (.seq (.ops [o 96 (.mv (t 13)),
 o 97 (.bin .neq (t 96) (i 0))])
 (.cond (t 97)
 (.exit 7)
 .skip))
 (.seq (.seq (.ops [o 98 (.ld true 6 (t 11)),
 k 99 (.ca (.func 36) [(t 98)]),
 o 100 (.un .not (t 99)),
 o 101 (.mv (t 100)),
 og 102 101 false (.fa 0 (t 11)),
 og 103 101 false (.ld false 1 (t 102)),
 og 104 101 false (.fa 0 (t 9)),
 og 105 101 false (.ld false 1 (t 104)),
 og 106 101 false (.bin .neq (t 103) (t 105)),
 o 107 (.pick (t 101) (b true) (t 106)),
 o 108 (.mv (t 107)),
 og 109 108 false (.ld true 6 (t 11)),
 og 110 108 false (.ld true 6 (t 9)),
 og 111 108 false (.mv (t 7)),
 ⟨some 112, some (108, false), .ca (.func 38) [(t 109), (t 110), (t 111)]⟩,
 og 113 108 false (.un .not (t 112)),
 o 114 (.pick (t 108) (b true) (t 113))])
 (.cond (t 114)
 (.seq (.ops [o 2 (.mv (b false))])
 .ret)
 .skip))
 (.seq (.ops [o 115 (.ld true 6 (t 9)),
 o 116 (.mv (t 7)),
 o 117 (.mv (t 8)),
 o 118 (.bin .add (t 116) (t 117)),
 k 119 (.ca (.func 39) [(t 115), (i 20), (t 118)]),
 o 14 (.mv (t 119))])
 (.seq (.ops [o 15 (.mv (i 0))])
 (.block 8 (.loop (.seq (.seq (.ops [o 120 (.mv (t 15)),
 o 121 (.mv (t 14)),
 o 122 (.ln (t 121)),
 o 123 (.bin .lss (t 120) (t 122))])
 (.cond (t 123)
 .skip
 (.exit 8)))
 (.seq (.block 9 (.seq (.opd [o 126 (.ld true 6 (t 10)),
 o 127 (.mv (t 3)),
 o 128 (.mv (t 4)),
 o 129 (.mv (t 14)),
 o 130 (.mv (t 15)),
 o 131 (.ia 1 (t 129) (t 130)),
 o 132 (.ld false 1 (t 131)),
 k 133 (.ca (.func 48) [(t 127), (t 128), (t 132)]),
 k 134 (.ca (.func 40) [(t 126), (t 133)]),
 o 135 (.mv (t 134)),
 og 136 135 true (.ld true 6 (t 11)),
 og 137 135 true (.mv (t 14)),
 og 138 135 true (.mv (t 15)),
 og 139 135 true (.ia 1 (t 137) (t 138)),
 og 140 135 true (.ld false 1 (t 139)),
 ⟨some 141, some (135, true), .ca (.func 40) [(t 136), (t 140)]⟩,
 og 142 135 true (.un .not (t 141)),
 o 143 (.pick (t 135) (t 142) (b false))])
 (.cond (t 143)
 (.seq (.ops [o 2 (.mv (b false))])
 .ret)
 .skip)))
 (.ops [o 124 (.mv (t 15)),
 o 125 (.bin .add (t 124) (i 1)),
 o 15 (.mv (t 125))])))))))))))))))
 (.ops [o 44 (.mv (t 8)),
 o 45 (.bin .add (t 44) (i 1)),
 o 8 (.mv (t 45))])))))))
 (.ops [o 38 (.mv (t 7)),
 o 39 (.bin .add (t 38) (i 1)),
 o 7 (.mv (t 39))]))))))))
 (.ops [o 24 (.mv (t 4)),
 o 25 (.bin .add (t 24) (i 1)),
 o 4 (.mv (t 25))])))))))
 (.ops [o 20 (.mv (t 3)),
 o 21 (.bin .add (t 20) (i 1)),
 o 3 (.mv (t 21))]))))))
 (.seq (.ops [k 144 (.ca (.func 49) [(i 3), (i 2)]),
 o 145 (.bin .eql (t 144) (i 1)),
 o 146 (.mv (t 145)),
 ⟨some 147, some (146, true), .ca (.func 42) []⟩,
 o 148 (.pick (t 146) (t 147) (b false)),
 o 2 (.mv (t 148))])
 .ret))))⟩
theorem e10 : slimF Try.prog Try.f10 [[(0, []), (1, []), (4, []), (5, []), (2, []), (3, []), (6, []), (7, []), (8, []), (9, [])], [(0, []), (1, []), (2, []), (3, []), (4, []), (5, []), (6, []), (7, []), (8, []), (9, []), (10, [52]), (11, [])], [(0, []), (1, []), (2, []), (3, []), (4, []), (5, []), (6, []), (7, []), (8, []), (9, []), (10, []), (11, []), (12, []), (13, []), (14, []), (15, []), (16, []), (17, []), (18, []), (19, []), (20, []), (21, []), (22, []), (23, []), (24, []), (25, []), (26, []), (27, []), (28, []), (29, [])], [(0, []), (1, []), (2, []), (3, []), (4, []), (5, []), (6, []), (7, []), (8, []), (9, []), (10, []), (11, []), (12, []), (13, []), (14, []), (15, []), (16, []), (17, [])]] = some c10 := by kernel_rfl
end Go.Proofs.Try.S
namespace Go.Proofs.Ytmaclakgkllojaa.filterDown
open Go Go.Ax Go.Proofs.Try.S Go.Proofs.Try.K
set_option maxRecDepth 100000
set_option linter.unusedSimpArgs false
set_option linter.unusedVariables false
set_option maxHeartbeats 4000000

theorem within32 (F : Fz) (M : Hp) : CallsA Try.prog 49 [.int .i64 3, .int .i64 2] F M (Same F M (.int .i64 1)) := by
  refine callsA_of hm Try.func49 e49 (Nat.le_of_ble_eq_true rfl) ?_
  have e3 : IntKind.u64.wrap 3 = 3 := by decide
  have e2 : IntKind.u64.wrap 2 = 2 := by decide
  have e1 : (3 : Int).tmod 2 = 1 := by decide
  have n2 : ¬ (2 : Int) = 0 := by decide
  have e0 : IntKind.i64.wrap 1 = 1 := by decide
  have e5 : IntKind.u64.wrap 1 = 1 := by decide
  simp only [c49, go_sem, reduceCtorEq, reduceIte, Nat.reduceEqDiff, Nat.reduceAdd, Nat.reduceLeDiff, Nat.reduceMul, Int.reduceLT, Int.reduceLE, Int.reduceAdd, Int.reduceSub, Int.reduceMul, Int.reduceNeg, Int.reduceToNat, Int.reduceEq, e3, e2, e1, n2, e0, e5, not_false_eq_true]
  exact endK_same ⟨rfl, rfl, rfl⟩

structure D0 (F0 : Fz) (r : Nat) (ask : List Value) (f : Nat) (σ : Env) (F : Fz) (M : Hp) : Prop where
  ff : F = F0
  old : Old F0 M
  fr : M r = some ⟨ask, 27, 2⟩
  h1 : Ax.look σ 1 = some (.pointer (some ⟨r, 0, none⟩))
  h3 : Ax.look σ 3 = some (.int .i64 f)
def fI (F0 : Fz) (r : Nat) (ask : List Value) (m : Nat) (σ : Env) (F : Fz) (M : Hp) : Prop :=
  ∃ f : Nat, D0 F0 r ask f σ F M ∧ f + m = 8
def tI (F0 : Fz) (r : Nat) (ask : List Value) (f : Nat) (m : Nat) (σ : Env) (F : Fz) (M : Hp) : Prop :=
  D0 F0 r ask f σ F M ∧ ∃ t : Nat, t + m = 8 ∧ Ax.look σ 4 = some (.int .i64 t)
structure D1 (F0 : Fz) (r : Nat) (ask : List Value) (f t : Nat) (su sv : Value) (U V' : List V) (σ : Env) (F : Fz) (M : Hp) : Prop extends D0 F0 r ask f σ F M where
  h4 : Ax.look σ 4 = some (.int .i64 t)
  h5 : Ax.look σ 5 = some su
  h6 : Ax.look σ 6 = some sv
  ru : RdV F0 M su U
  rv : RdV F0 M sv V'
section
variable {F0 : Fz} {r : Nat} {ask : List Value} {f t : Nat} {su sv : Value} {U V' : List V} {σ σ' : Env} {F : Fz} {M M' : Hp}
theorem D1.ext (s : D1 F0 r ask f t su sv U V' σ F M) (e1 : Ax.look σ' 1 = Ax.look σ 1) (e3 : Ax.look σ' 3 = Ax.look σ 3) (e4 : Ax.look σ' 4 = Ax.look σ 4) (e5 : Ax.look σ' 5 = Ax.look σ 5) (e6 : Ax.look σ' 6 = Ax.look σ 6) : D1 F0 r ask f t su sv U V' σ' F M :=
  ⟨⟨s.ff, s.old, s.fr, e1.trans s.h1, e3.trans s.h3⟩, e4.trans s.h4, e5.trans s.h5, e6.trans s.h6, s.ru, s.rv⟩
theorem D1.grow (s : D1 F0 r ask f t su sv U V' σ F M) (k : Keep M M') (o : Old F0 M') : D1 F0 r ask f t su sv U V' σ F M' :=
  ⟨⟨s.ff, o, k _ _ s.fr, s.h1, s.h3⟩, s.h4, s.h5, s.h6, s.ru.keep k o, s.rv.keep k o⟩
end
def iI (F0 : Fz) (r : Nat) (ask : List Value) (f t : Nat) (su sv : Value) (U V' : List V) (m : Nat) (σ : Env) (F : Fz) (M : Hp) : Prop :=
  D1 F0 r ask f t su sv U V' σ F M ∧ ∃ i : Nat, i + m = U.length ∧ Ax.look σ 7 = some (.int .i64 i)
def kI (F0 : Fz) (r : Nat) (ask : List Value) (f t : Nat) (su sv : Value) (U V' : List V) (i : Nat) (m : Nat) (σ : Env) (F : Fz) (M : Hp) : Prop :=
  D1 F0 r ask f t su sv U V' σ F M ∧ Ax.look σ 7 = some (.int .i64 i) ∧ ∃ k : Nat, k + m = V'.length ∧ Ax.look σ 8 = some (.int .i64 k)
def kB (F0 : Fz) (r : Nat) (ask : List Value) (f t : Nat) (su sv : Value) (U V' : List V) (i k : Nat) (σ : Env) (F : Fz) (M : Hp) : Prop :=
  D1 F0 r ask f t su sv U V' σ F M ∧ Ax.look σ 7 = some (.int .i64 i) ∧ Ax.look σ 8 = some (.int .i64 k)
def J0 (F0 : Fz) (r : Nat) (ask : List Value) (f t : Nat) (su sv : Value) (U V' : List V) (i k : Nat) (σ : Env) (F : Fz) (M : Hp) : Prop :=
  kB F0 r ask f t su sv U V' i k σ F M ∧ ∃ (r9 r10 : Nat) (a b : V), Ax.look σ 9 = some (.pointer (some ⟨r9, 0, none⟩)) ∧ Ax.look σ 10 = some (.pointer (some ⟨r10, 0, none⟩)) ∧ M r9 = some ⟨a.cs, 34, 6⟩ ∧ M r10 = some ⟨b.cs, 34, 6⟩
structure D2 (F0 : Fz) (r : Nat) (ask : List Value) (f t : Nat) (su sv : Value) (U V' : List V) (i k r9 r10 r11 : Nat) (a b x : V) (σ : Env) (F : Fz) (M : Hp) : Prop extends D1 F0 r ask f t su sv U V' σ F M where
  h7 : Ax.look σ 7 = some (.int .i64 i)
  h8 : Ax.look σ 8 = some (.int .i64 k)
  h9 : Ax.look σ 9 = some (.pointer (some ⟨r9, 0, none⟩))
  h10 : Ax.look σ 10 = some (.pointer (some ⟨r10, 0, none⟩))
  h11 : Ax.look σ 11 = some (.pointer (some ⟨r11, 0, none⟩))
  f9 : M r9 = some ⟨a.cs, 34, 6⟩
  f10 : M r10 = some ⟨b.cs, 34, 6⟩
  f11 : M r11 = some ⟨x.cs, 34, 6⟩
section
variable {F0 : Fz} {r : Nat} {ask : List Value} {f t : Nat} {su sv : Value} {U V' : List V} {i k r9 r10 r11 : Nat} {a b x : V} {σ σ' : Env} {F : Fz} {M M' : Hp}
theorem D2.ext (s : D2 F0 r ask f t su sv U V' i k r9 r10 r11 a b x σ F M) (e1 : Ax.look σ' 1 = Ax.look σ 1) (e3 : Ax.look σ' 3 = Ax.look σ 3) (e4 : Ax.look σ' 4 = Ax.look σ 4) (e5 : Ax.look σ' 5 = Ax.look σ 5) (e6 : Ax.look σ' 6 = Ax.look σ 6)
    (e7 : Ax.look σ' 7 = Ax.look σ 7) (e8 : Ax.look σ' 8 = Ax.look σ 8) (e9 : Ax.look σ' 9 = Ax.look σ 9) (e10 : Ax.look σ' 10 = Ax.look σ 10) (e11 : Ax.look σ' 11 = Ax.look σ 11) : D2 F0 r ask f t su sv U V' i k r9 r10 r11 a b x σ' F M :=
  ⟨s.toD1.ext e1 e3 e4 e5 e6, e7.trans s.h7, e8.trans s.h8, e9.trans s.h9, e10.trans s.h10, e11.trans s.h11, s.f9, s.f10, s.f11⟩
theorem D2.grow (s : D2 F0 r ask f t su sv U V' i k r9 r10 r11 a b x σ F M) (k' : Keep M M') (o : Old F0 M') : D2 F0 r ask f t su sv U V' i k r9 r10 r11 a b x σ F M' :=
  ⟨s.toD1.grow k' o, s.h7, s.h8, s.h9, s.h10, s.h11, k' _ _ s.f9, k' _ _ s.f10, k' _ _ s.f11⟩
end
def d12 (f t : Nat) (a b x : V) (σ : Env) : Prop :=
  ((fitB f a && fitB t b) = true ∧ Ax.look σ 12 = some (.int .i64 0) ∧ DownR f t a b x) ∨ ((fitB f a && fitB t b) = false ∧ Ax.look σ 12 = some (.int .i64 1))
theorem d12.ext {f t : Nat} {a b x : V} {σ σ' : Env} (h : d12 f t a b x σ) (e : Ax.look σ' 12 = Ax.look σ 12) : d12 f t a b x σ' := by
  rcases h with ⟨h1, h2, h3⟩ | ⟨h1, h2⟩
  · exact .inl ⟨h1, e.trans h2, h3⟩
  · exact .inr ⟨h1, e.trans h2⟩
def J1 (F0 : Fz) (r : Nat) (ask : List Value) (f t : Nat) (su sv : Value) (U V' : List V) (i k : Nat) (σ : Env) (F : Fz) (M : Hp) : Prop :=
  ∃ (r9 r10 r11 : Nat) (a b x : V), D2 F0 r ask f t su sv U V' i k r9 r10 r11 a b x σ F M ∧ d12 f t a b x σ
def J2 (F0 : Fz) (r : Nat) (ask : List Value) (f t : Nat) (su sv : Value) (U V' : List V) (i k r9 r10 r11 : Nat) (a b x : V) (σ : Env) (F : Fz) (M : Hp) : Prop :=
  D2 F0 r ask f t su sv U V' i k r9 r10 r11 a b x σ F M ∧ d12 f t a b x σ ∧ Ax.look σ 13 = some (.int .i64 1)
def J3 (F0 : Fz) (r : Nat) (ask : List Value) (f t : Nat) (su sv : Value) (U V' : List V) (i k r9 r10 r11 : Nat) (a b x : V) (σ : Env) (F : Fz) (M : Hp) : Prop :=
  D2 F0 r ask f t su sv U V' i k r9 r10 r11 a b x σ F M ∧ d12 f t a b x σ ∧ Ax.look σ 13 = some (.int .i64 (if (fitB f a && fitB t b) = true then 0 else 1))
structure D3 (F0 : Fz) (r : Nat) (ask : List Value) (f t : Nat) (su sv : Value) (U V' : List V) (i k r9 r10 r11 : Nat) (a b x : V) (sm : Value) (lm : List Int) (σ : Env) (F : Fz) (M : Hp) : Prop extends D2 F0 r ask f t su sv U V' i k r9 r10 r11 a b x σ F M where
  h14 : Ax.look σ 14 = some sm
  rm : RdI F0 M sm lm
def sI (F0 : Fz) (r : Nat) (ask : List Value) (f t : Nat) (su sv : Value) (U V' : List V) (i k r9 r10 r11 : Nat) (a b x : V) (sm : Value) (lm : List Int) (m : Nat) (σ : Env) (F : Fz) (M : Hp) : Prop :=
  D3 F0 r ask f t su sv U V' i k r9 r10 r11 a b x sm lm σ F M ∧ ∃ j : Nat, j + m = lm.length ∧ Ax.look σ 15 = some (.int .i64 j)
theorem some_row {v : V} {F : Fz} {M : Hp} {u : Value} {F' : Fz} {M' : Hp} (h : someR v F M u F' M') (hold : Old F M) : F' = F ∧ Le F M F M' ∧ Keep M M' ∧ Old F M' ∧ ∃ l : List Int, l.length ≤ 1000 ∧ (∀ y ∈ l, 0 ≤ y ∧ y ≤ mostV v.w ∧ v.has y = true) ∧ RdI F M' u l := by
  obtain ⟨hF, l, hl, hm, hu⟩ := h
  refine ⟨hF, ?_⟩
  rcases hu with ⟨rfl, rfl, rfl⟩ | ⟨g, cap, hFg, hMg, rfl, rfl⟩
  · exact ⟨Le.refl _ _, Keep.refl _, hold, [], by simp, by simp, by simp, none, 0, rfl, .inl rfl⟩
  · exact ⟨Le.upd hFg hMg, (Keep.refl _).new hMg, hold.upd hFg, l, hl, hm, by omega, _, cap, rfl, .inr ⟨g, 0, _, rfl, blk_upd_same, fun i hi => by simp [hi]⟩⟩

theorem call (W : World) (cs : List Value) (h : Rd (fzOf W) (.cons 1 (.slice 6 48 (.cons 1 (.int .i64) (.cons 1 .bool (.cons 1 (.int .i64) (.cons 1 (.int .i64) (.cons 1 (.int .i64) (.cons 1 (.int .i64) .nil))))))) (.cons 1 (.slice 1 8 (.int .i64)) .nil)) cs) :
  CallsA Try.prog 10 [.agg cs.toArray] (fzOf W) noHp fun r _ _ => r = .bool true := by
  obtain ⟨vV, vN, rfl, hV, hN⟩ := rd_ask h
  obtain ⟨aV, cV, lv, rfl, hlV, _, hlen, _, hcV⟩ := rd_Vs hV
  obtain ⟨aN, cN, ln, rfl, hl, hmx, hs, hin, h0, hc⟩ := rd_ints hN
  refine callsA_of hm Try.func10 e10 (Nat.le_of_ble_eq_true rfl) ?_
  have rV : ∀ M, Old (fzOf W) M → RdV (fzOf W) M (.slice aV lv.length cV) lv := by
    intro M old
    refine ⟨by omega, aV, cV, hlV, rfl, ?_⟩
    rcases hcV with h | ⟨b, o, cs, h1, h2, h3⟩
    · exact .inl h
    · exact .inr ⟨b, o, cs, h1, old.blk h2, h3⟩
  have rN : ∀ M, Old (fzOf W) M → RdI (fzOf W) M (.slice aN ln.length cN) ln := by
    intro M old
    refine ⟨by omega, aN, cN, rfl, ?_⟩
    rcases hc with h | ⟨b, o, cs, h1, h2, h3⟩
    · exact .inl h
    · exact .inr ⟨b, o, cs, h1, old.blk h2, h3⟩
  have hwk : ∀ k, wK k = 0 ∨ isW (wK k) = true := by
    intro k; unfold wK; split
    · exact .inr (ofW_isW k)
    · exact .inl rfl
  simp only [c10, go_sem, reduceCtorEq, reduceIte, Nat.reduceEqDiff, Nat.reduceAdd, Nat.reduceLeDiff, Nat.reduceMul, Int.reduceLT, Int.reduceLE, Int.reduceAdd, Int.reduceSub, Int.reduceMul, Int.reduceNeg, Int.reduceToNat, Int.reduceEq]
  intro r hF hM
  simp only [go_sem, reduceCtorEq, reduceIte, Nat.reduceEqDiff, Nat.reduceAdd, Nat.reduceLeDiff, Nat.reduceMul, Int.reduceLT, Int.reduceLE, Int.reduceAdd, Int.reduceSub, Int.reduceMul, Int.reduceNeg, Int.reduceToNat, Int.reduceEq]
  refine callK_same (k34 _ _ aV aN lv.length ln.length cV cN) ?_
  cases hh : (decide (100 < (lv.length : Int)) || decide (100 < (ln.length : Int)))
  rotate_left
  · simp only [go_sem, reduceCtorEq, reduceIte, Nat.reduceEqDiff, Nat.reduceAdd, Nat.reduceLeDiff, Nat.reduceMul, Int.reduceLT, Int.reduceLE, Int.reduceAdd, Int.reduceSub, Int.reduceMul, Int.reduceNeg, Int.reduceToNat, Int.reduceEq]
    exact endK_same rfl
  simp only [go_sem, reduceCtorEq, reduceIte, Nat.reduceEqDiff, Nat.reduceAdd, Nat.reduceLeDiff, Nat.reduceMul, Int.reduceLT, Int.reduceLE, Int.reduceAdd, Int.reduceSub, Int.reduceMul, Int.reduceNeg, Int.reduceToNat, Int.reduceEq]
  refine loop_of (fI (fzOf W) r [.slice aV lv.length cV, .slice aN ln.length cN]) 8 ?_ ?_
  · exact ⟨0, ⟨rfl, (Old.start _).upd hF, Hp.upd_same _ _ _, by simp only [go_sem, reduceCtorEq, reduceIte, Nat.reduceEqDiff, Nat.reduceAdd, Nat.reduceLeDiff, Nat.reduceMul, Int.reduceLT, Int.reduceLE, Int.reduceAdd, Int.reduceSub, Int.reduceMul, Int.reduceNeg, Int.reduceToNat, Int.reduceEq], by simp only [go_sem, reduceCtorEq, reduceIte, Nat.reduceEqDiff, Nat.reduceAdd, Nat.reduceLeDiff, Nat.reduceMul, Int.reduceLT, Int.reduceLE, Int.reduceAdd, Int.reduceSub, Int.reduceMul, Int.reduceNeg, Int.reduceToNat, Int.reduceEq] <;> rfl⟩, by omega⟩
  rintro mf σ F M ⟨f, s, hf⟩
  obtain rfl := s.ff
  by_cases hf7 : (f : Int) ≤ 7
  rotate_left
  · simp only [go_sem, reduceCtorEq, reduceIte, Nat.reduceEqDiff, Nat.reduceAdd, Nat.reduceLeDiff, Nat.reduceMul, Int.reduceLT, Int.reduceLE, Int.reduceAdd, Int.reduceSub, Int.reduceMul, Int.reduceNeg, Int.reduceToNat, Int.reduceEq, s.h1, s.h3, hf7]
    refine callK_same (within32 _ _) ?_
    simp only [go_sem, reduceCtorEq, reduceIte, Nat.reduceEqDiff, Nat.reduceAdd, Nat.reduceLeDiff, Nat.reduceMul, Int.reduceLT, Int.reduceLE, Int.reduceAdd, Int.reduceSub, Int.reduceMul, Int.reduceNeg, Int.reduceToNat, Int.reduceEq, s.h1, s.h3]
    refine callK_same (k42 _ _) ?_
    simp only [go_sem, reduceCtorEq, reduceIte, Nat.reduceEqDiff, Nat.reduceAdd, Nat.reduceLeDiff, Nat.reduceMul, Int.reduceLT, Int.reduceLE, Int.reduceAdd, Int.reduceSub, Int.reduceMul, Int.reduceNeg, Int.reduceToNat, Int.reduceEq]
    exact endK_same rfl
  have ef : IntKind.i64.wrap ((f : Int) + 1) = f + 1 := w64 (by omega) (by omega)
  simp only [go_sem, reduceCtorEq, reduceIte, Nat.reduceEqDiff, Nat.reduceAdd, Nat.reduceLeDiff, Nat.reduceMul, Int.reduceLT, Int.reduceLE, Int.reduceAdd, Int.reduceSub, Int.reduceMul, Int.reduceNeg, Int.reduceToNat, Int.reduceEq, s.h1, s.h3, hf7]
  refine loop_of (tI (fzOf W) r [.slice aV lv.length cV, .slice aN ln.length cN] f) 8 ?_ ?_
  · exact ⟨⟨rfl, s.old, s.fr, by simp only [go_sem, reduceCtorEq, reduceIte, Nat.reduceEqDiff, Nat.reduceAdd, Nat.reduceLeDiff, Nat.reduceMul, Int.reduceLT, Int.reduceLE, Int.reduceAdd, Int.reduceSub, Int.reduceMul, Int.reduceNeg, Int.reduceToNat, Int.reduceEq, s.h1], by simp only [go_sem, reduceCtorEq, reduceIte, Nat.reduceEqDiff, Nat.reduceAdd, Nat.reduceLeDiff, Nat.reduceMul, Int.reduceLT, Int.reduceLE, Int.reduceAdd, Int.reduceSub, Int.reduceMul, Int.reduceNeg, Int.reduceToNat, Int.reduceEq, s.h3]⟩, 0, by omega, by simp only [go_sem, reduceCtorEq, reduceIte, Nat.reduceEqDiff, Nat.reduceAdd, Nat.reduceLeDiff, Nat.reduceMul, Int.reduceLT, Int.reduceLE, Int.reduceAdd, Int.reduceSub, Int.reduceMul, Int.reduceNeg, Int.reduceToNat, Int.reduceEq] <;> rfl⟩
  clear s
  rintro mt σ F M ⟨s, t, ht, h4⟩
  obtain rfl := s.ff
  by_cases ht7 : (t : Int) ≤ 7
  rotate_left
  · simp only [go_sem, reduceCtorEq, reduceIte, Nat.reduceEqDiff, Nat.reduceAdd, Nat.reduceLeDiff, Nat.reduceMul, Int.reduceLT, Int.reduceLE, Int.reduceAdd, Int.reduceSub, Int.reduceMul, Int.reduceNeg, Int.reduceToNat, Int.reduceEq, s.h1, s.h3, h4, ht7, ef]
    exact ⟨mf - 1, by omega, f + 1, ⟨rfl, s.old, s.fr, by simp only [go_sem, reduceCtorEq, reduceIte, Nat.reduceEqDiff, Nat.reduceAdd, Nat.reduceLeDiff, Nat.reduceMul, Int.reduceLT, Int.reduceLE, Int.reduceAdd, Int.reduceSub, Int.reduceMul, Int.reduceNeg, Int.reduceToNat, Int.reduceEq, s.h1], by simp only [go_sem, reduceCtorEq, reduceIte, Nat.reduceEqDiff, Nat.reduceAdd, Nat.reduceLeDiff, Nat.reduceMul, Int.reduceLT, Int.reduceLE, Int.reduceAdd, Int.reduceSub, Int.reduceMul, Int.reduceNeg, Int.reduceToNat, Int.reduceEq]; rfl⟩, by omega⟩
  have et : IntKind.i64.wrap ((t : Int) + 1) = t + 1 := w64 (by omega) (by omega)
  have br := blk_M (F := fzOf W) s.fr
  simp only [go_sem, reduceCtorEq, reduceIte, Nat.reduceEqDiff, Nat.reduceAdd, Nat.reduceLeDiff, Nat.reduceMul, Int.reduceLT, Int.reduceLE, Int.reduceAdd, Int.reduceSub, Int.reduceMul, Int.reduceNeg, Int.reduceToNat, Int.reduceEq, s.h1, s.h3, h4, ht7, br]
  refine callK_same (k46 _ _ f) ?_
  simp only [go_sem, reduceCtorEq, reduceIte, Nat.reduceEqDiff, Nat.reduceAdd, Nat.reduceLeDiff, Nat.reduceMul, Int.reduceLT, Int.reduceLE, Int.reduceAdd, Int.reduceSub, Int.reduceMul, Int.reduceNeg, Int.reduceToNat, Int.reduceEq, s.h1, s.h3, h4]
  refine callK_of (k45 _ _ (wK f) _ _ lv ln (hwk f) s.old (rV _ s.old) (rN _ s.old)) ?_
  rintro u G M2 ⟨hG, U, g, cap, hL, hLc, rfl, hFg, hMg, hM2'⟩
  rw [hG, hM2']
  refine ⟨fun _ => Le.upd hFg hMg, ?_⟩
  have gg := ne_of_none hMg s.fr
  have old2 := s.old.upd (e := ⟨U.flatMap V.cs, 34, cap * 6⟩) hFg
  have fr2 : (M.upd g ⟨U.flatMap V.cs, 34, cap * 6⟩) r = some ⟨[.slice aV lv.length cV, .slice aN ln.length cN], 27, 2⟩ := by rw [Hp.upd_ne' gg.1]; exact s.fr
  have rd2 : RdV (fzOf W) (M.upd g ⟨U.flatMap V.cs, 34, cap * 6⟩) (.slice (some ⟨g, 0, none⟩) U.length cap) U := rdV_flat (by omega) hLc blk_upd_same
  simp only [go_sem, reduceCtorEq, reduceIte, Nat.reduceEqDiff, Nat.reduceAdd, Nat.reduceLeDiff, Nat.reduceMul, Int.reduceLT, Int.reduceLE, Int.reduceAdd, Int.reduceSub, Int.reduceMul, Int.reduceNeg, Int.reduceToNat, Int.reduceEq, s.h1, s.h3, h4]
  refine callK_same (k46 _ _ t) ?_
  simp only [go_sem, reduceCtorEq, reduceIte, Nat.reduceEqDiff, Nat.reduceAdd, Nat.reduceLeDiff, Nat.reduceMul, Int.reduceLT, Int.reduceLE, Int.reduceAdd, Int.reduceSub, Int.reduceMul, Int.reduceNeg, Int.reduceToNat, Int.reduceEq, s.h1, s.h3, h4]
  refine callK_of (k45 _ _ (wK t) _ _ lv ln (hwk t) old2 (rV _ old2) (rN _ old2)) ?_
  rintro u G' M3 ⟨hG', V', g', cap', hL', hLc', rfl, hFg', hMg', hM3'⟩
  rw [hG', hM3']
  refine ⟨fun _ => Le.upd hFg' hMg', ?_⟩
  have kk := (Keep.refl (M.upd g ⟨U.flatMap V.cs, 34, cap * 6⟩)).new hMg' (e := ⟨V'.flatMap V.cs, 34, cap' * 6⟩)
  have old3 := old2.upd (e := ⟨V'.flatMap V.cs, 34, cap' * 6⟩) hFg'
  have fr3 := kk _ _ fr2
  have rd3 := rd2.keep kk old3
  have rd3' : RdV (fzOf W) ((M.upd g ⟨U.flatMap V.cs, 34, cap * 6⟩).upd g' ⟨V'.flatMap V.cs, 34, cap' * 6⟩) (.slice (some ⟨g', 0, none⟩) V'.length cap') V' := rdV_flat (by omega) hLc' blk_upd_same
  simp only [go_sem, reduceCtorEq, reduceIte, Nat.reduceEqDiff, Nat.reduceAdd, Nat.reduceLeDiff, Nat.reduceMul, Int.reduceLT, Int.reduceLE, Int.reduceAdd, Int.reduceSub, Int.reduceMul, Int.reduceNeg, Int.reduceToNat, Int.reduceEq, s.h1, s.h3, h4]
  refine loop_of (iI (fzOf W) r [.slice aV lv.length cV, .slice aN ln.length cN] f t (.slice (some ⟨g, 0, none⟩) U.length cap) (.slice (some ⟨g', 0, none⟩) V'.length cap') U V') U.length ?_ ?_
  · exact ⟨⟨⟨rfl, old3, fr3, by simp only [go_sem, reduceCtorEq, reduceIte, Nat.reduceEqDiff, Nat.reduceAdd, Nat.reduceLeDiff, Nat.reduceMul, Int.reduceLT, Int.reduceLE, Int.reduceAdd, Int.reduceSub, Int.reduceMul, Int.reduceNeg, Int.reduceToNat, Int.reduceEq, s.h1], by simp only [go_sem, reduceCtorEq, reduceIte, Nat.reduceEqDiff, Nat.reduceAdd, Nat.reduceLeDiff, Nat.reduceMul, Int.reduceLT, Int.reduceLE, Int.reduceAdd, Int.reduceSub, Int.reduceMul, Int.reduceNeg, Int.reduceToNat, Int.reduceEq, s.h3]⟩, by simp only [go_sem, reduceCtorEq, reduceIte, Nat.reduceEqDiff, Nat.reduceAdd, Nat.reduceLeDiff, Nat.reduceMul, Int.reduceLT, Int.reduceLE, Int.reduceAdd, Int.reduceSub, Int.reduceMul, Int.reduceNeg, Int.reduceToNat, Int.reduceEq, h4], by simp only [go_sem, reduceCtorEq, reduceIte, Nat.reduceEqDiff, Nat.reduceAdd, Nat.reduceLeDiff, Nat.reduceMul, Int.reduceLT, Int.reduceLE, Int.reduceAdd, Int.reduceSub, Int.reduceMul, Int.reduceNeg, Int.reduceToNat, Int.reduceEq], by simp only [go_sem, reduceCtorEq, reduceIte, Nat.reduceEqDiff, Nat.reduceAdd, Nat.reduceLeDiff, Nat.reduceMul, Int.reduceLT, Int.reduceLE, Int.reduceAdd, Int.reduceSub, Int.reduceMul, Int.reduceNeg, Int.reduceToNat, Int.reduceEq], rd3, rd3'⟩, 0, by omega, by simp only [go_sem, reduceCtorEq, reduceIte, Nat.reduceEqDiff, Nat.reduceAdd, Nat.reduceLeDiff, Nat.reduceMul, Int.reduceLT, Int.reduceLE, Int.reduceAdd, Int.reduceSub, Int.reduceMul, Int.reduceNeg, Int.reduceToNat, Int.reduceEq] <;> rfl⟩
  generalize hsu : Value.slice (some ⟨g, 0, none⟩) U.length cap = su at *
  generalize hsv : Value.slice (some ⟨g', 0, none⟩) V'.length cap' = sv at *
  clear kk old2 old3 fr2 fr3 rd2 rd3 rd3' gg br h4 hM2' hM3' hG hG' hMg hFg hMg' hFg'
  clear s
  rintro mi σ F M ⟨s, i, hi, h7⟩
  obtain rfl := s.ff
  by_cases hil : (i : Int) < U.length
  rotate_left
  · simp only [go_sem, reduceCtorEq, reduceIte, Nat.reduceEqDiff, Nat.reduceAdd, Nat.reduceLeDiff, Nat.reduceMul, Int.reduceLT, Int.reduceLE, Int.reduceAdd, Int.reduceSub, Int.reduceMul, Int.reduceNeg, Int.reduceToNat, Int.reduceEq, s.h1, s.h3, s.h4, s.h5, s.h6, ← hsu, h7, hil, et]
    exact ⟨mt - 1, by omega, ⟨rfl, s.old, s.fr, by simp only [go_sem, reduceCtorEq, reduceIte, Nat.reduceEqDiff, Nat.reduceAdd, Nat.reduceLeDiff, Nat.reduceMul, Int.reduceLT, Int.reduceLE, Int.reduceAdd, Int.reduceSub, Int.reduceMul, Int.reduceNeg, Int.reduceToNat, Int.reduceEq, s.h1], by simp only [go_sem, reduceCtorEq, reduceIte, Nat.reduceEqDiff, Nat.reduceAdd, Nat.reduceLeDiff, Nat.reduceMul, Int.reduceLT, Int.reduceLE, Int.reduceAdd, Int.reduceSub, Int.reduceMul, Int.reduceNeg, Int.reduceToNat, Int.reduceEq, s.h3]⟩, t + 1, by omega, by simp only [go_sem, reduceCtorEq, reduceIte, Nat.reduceEqDiff, Nat.reduceAdd, Nat.reduceLeDiff, Nat.reduceMul, Int.reduceLT, Int.reduceLE, Int.reduceAdd, Int.reduceSub, Int.reduceMul, Int.reduceNeg, Int.reduceToNat, Int.reduceEq]; rfl⟩
  have ei : IntKind.i64.wrap ((i : Int) + 1) = i + 1 := w64 (by omega) (by omega)
  have h5 := s.h5
  rw [← hsu] at h5
  simp only [go_sem, reduceCtorEq, reduceIte, Nat.reduceEqDiff, Nat.reduceAdd, Nat.reduceLeDiff, Nat.reduceMul, Int.reduceLT, Int.reduceLE, Int.reduceAdd, Int.reduceSub, Int.reduceMul, Int.reduceNeg, Int.reduceToNat, Int.reduceEq, s.h1, s.h3, s.h4, h5, s.h6, h7, hil]
  refine loop_of (kI (fzOf W) r [.slice aV lv.length cV, .slice aN ln.length cN] f t su sv U V' i) V'.length ?_ ?_
  · exact ⟨s.ext (by simp only [go_sem, reduceCtorEq, reduceIte, Nat.reduceEqDiff, Nat.reduceAdd, Nat.reduceLeDiff, Nat.reduceMul, Int.reduceLT, Int.reduceLE, Int.reduceAdd, Int.reduceSub, Int.reduceMul, Int.reduceNeg, Int.reduceToNat, Int.reduceEq]) (by simp only [go_sem, reduceCtorEq, reduceIte, Nat.reduceEqDiff, Nat.reduceAdd, Nat.reduceLeDiff, Nat.reduceMul, Int.reduceLT, Int.reduceLE, Int.reduceAdd, Int.reduceSub, Int.reduceMul, Int.reduceNeg, Int.reduceToNat, Int.reduceEq]) (by simp only [go_sem, reduceCtorEq, reduceIte, Nat.reduceEqDiff, Nat.reduceAdd, Nat.reduceLeDiff, Nat.reduceMul, Int.reduceLT, Int.reduceLE, Int.reduceAdd, Int.reduceSub, Int.reduceMul, Int.reduceNeg, Int.reduceToNat, Int.reduceEq]) (by simp only [go_sem, reduceCtorEq, reduceIte, Nat.reduceEqDiff, Nat.reduceAdd, Nat.reduceLeDiff, Nat.reduceMul, Int.reduceLT, Int.reduceLE, Int.reduceAdd, Int.reduceSub, Int.reduceMul, Int.reduceNeg, Int.reduceToNat, Int.reduceEq]) (by simp only [go_sem, reduceCtorEq, reduceIte, Nat.reduceEqDiff, Nat.reduceAdd, Nat.reduceLeDiff, Nat.reduceMul, Int.reduceLT, Int.reduceLE, Int.reduceAdd, Int.reduceSub, Int.reduceMul, Int.reduceNeg, Int.reduceToNat, Int.reduceEq]), by simp only [go_sem, reduceCtorEq, reduceIte, Nat.reduceEqDiff, Nat.reduceAdd, Nat.reduceLeDiff, Nat.reduceMul, Int.reduceLT, Int.reduceLE, Int.reduceAdd, Int.reduceSub, Int.reduceMul, Int.reduceNeg, Int.reduceToNat, Int.reduceEq, h7], 0, by omega, by simp only [go_sem, reduceCtorEq, reduceIte, Nat.reduceEqDiff, Nat.reduceAdd, Nat.reduceLeDiff, Nat.reduceMul, Int.reduceLT, Int.reduceLE, Int.reduceAdd, Int.reduceSub, Int.reduceMul, Int.reduceNeg, Int.reduceToNat, Int.reduceEq] <;> rfl⟩
  clear h5 h7
  clear s
  rintro mk σ F M ⟨s, h7, k, hk, h8⟩
  obtain rfl := s.ff
  by_cases hkl : (k : Int) < V'.length
  rotate_left
  · have h6 := s.h6
    rw [← hsv] at h6
    simp only [go_sem, reduceCtorEq, reduceIte, Nat.reduceEqDiff, Nat.reduceAdd, Nat.reduceLeDiff, Nat.reduceMul, Int.reduceLT, Int.reduceLE, Int.reduceAdd, Int.reduceSub, Int.reduceMul, Int.reduceNeg, Int.reduceToNat, Int.reduceEq, s.h1, s.h3, s.h4, s.h5, h6, h7, h8, hkl, ei]
    exact ⟨mi - 1, by omega, s.ext (by simp only [go_sem, reduceCtorEq, reduceIte, Nat.reduceEqDiff, Nat.reduceAdd, Nat.reduceLeDiff, Nat.reduceMul, Int.reduceLT, Int.reduceLE, Int.reduceAdd, Int.reduceSub, Int.reduceMul, Int.reduceNeg, Int.reduceToNat, Int.reduceEq]) (by simp only [go_sem, reduceCtorEq, reduceIte, Nat.reduceEqDiff, Nat.reduceAdd, Nat.reduceLeDiff, Nat.reduceMul, Int.reduceLT, Int.reduceLE, Int.reduceAdd, Int.reduceSub, Int.reduceMul, Int.reduceNeg, Int.reduceToNat, Int.reduceEq]) (by simp only [go_sem, reduceCtorEq, reduceIte, Nat.reduceEqDiff, Nat.reduceAdd, Nat.reduceLeDiff, Nat.reduceMul, Int.reduceLT, Int.reduceLE, Int.reduceAdd, Int.reduceSub, Int.reduceMul, Int.reduceNeg, Int.reduceToNat, Int.reduceEq]) (by simp only [go_sem, reduceCtorEq, reduceIte, Nat.reduceEqDiff, Nat.reduceAdd, Nat.reduceLeDiff, Nat.reduceMul, Int.reduceLT, Int.reduceLE, Int.reduceAdd, Int.reduceSub, Int.reduceMul, Int.reduceNeg, Int.reduceToNat, Int.reduceEq]) (by simp only [go_sem, reduceCtorEq, reduceIte, Nat.reduceEqDiff, Nat.reduceAdd, Nat.reduceLeDiff, Nat.reduceMul, Int.reduceLT, Int.reduceLE, Int.reduceAdd, Int.reduceSub, Int.reduceMul, Int.reduceNeg, Int.reduceToNat, Int.reduceEq]), i + 1, by omega, by simp only [go_sem, reduceCtorEq, reduceIte, Nat.reduceEqDiff, Nat.reduceAdd, Nat.reduceLeDiff, Nat.reduceMul, Int.reduceLT, Int.reduceLE, Int.reduceAdd, Int.reduceSub, Int.reduceMul, Int.reduceNeg, Int.reduceToNat, Int.reduceEq]; rfl⟩
  have ek : IntKind.i64.wrap ((k : Int) + 1) = k + 1 := w64 (by omega) (by omega)
  refine cut (kB (fzOf W) r [.slice aV lv.length cV, .slice aN ln.length cN] f t su sv U V' i k) ?_ ?_
  · have h6 := s.h6
    rw [← hsv] at h6
    simp only [go_sem, reduceCtorEq, reduceIte, Nat.reduceEqDiff, Nat.reduceAdd, Nat.reduceLeDiff, Nat.reduceMul, Int.reduceLT, Int.reduceLE, Int.reduceAdd, Int.reduceSub, Int.reduceMul, Int.reduceNeg, Int.reduceToNat, Int.reduceEq, s.h1, s.h3, s.h4, s.h5, h6, h7, h8, hkl]
    exact ⟨s.ext (by simp only [go_sem, reduceCtorEq, reduceIte, Nat.reduceEqDiff, Nat.reduceAdd, Nat.reduceLeDiff, Nat.reduceMul, Int.reduceLT, Int.reduceLE, Int.reduceAdd, Int.reduceSub, Int.reduceMul, Int.reduceNeg, Int.reduceToNat, Int.reduceEq]) (by simp only [go_sem, reduceCtorEq, reduceIte, Nat.reduceEqDiff, Nat.reduceAdd, Nat.reduceLeDiff, Nat.reduceMul, Int.reduceLT, Int.reduceLE, Int.reduceAdd, Int.reduceSub, Int.reduceMul, Int.reduceNeg, Int.reduceToNat, Int.reduceEq]) (by simp only [go_sem, reduceCtorEq, reduceIte, Nat.reduceEqDiff, Nat.reduceAdd, Nat.reduceLeDiff, Nat.reduceMul, Int.reduceLT, Int.reduceLE, Int.reduceAdd, Int.reduceSub, Int.reduceMul, Int.reduceNeg, Int.reduceToNat, Int.reduceEq]) (by simp only [go_sem, reduceCtorEq, reduceIte, Nat.reduceEqDiff, Nat.reduceAdd, Nat.reduceLeDiff, Nat.reduceMul, Int.reduceLT, Int.reduceLE, Int.reduceAdd, Int.reduceSub, Int.reduceMul, Int.reduceNeg, Int.reduceToNat, Int.reduceEq]) (by simp only [go_sem, reduceCtorEq, reduceIte, Nat.reduceEqDiff, Nat.reduceAdd, Nat.reduceLeDiff, Nat.reduceMul, Int.reduceLT, Int.reduceLE, Int.reduceAdd, Int.reduceSub, Int.reduceMul, Int.reduceNeg, Int.reduceToNat, Int.reduceEq]), by simp only [go_sem, reduceCtorEq, reduceIte, Nat.reduceEqDiff, Nat.reduceAdd, Nat.reduceLeDiff, Nat.reduceMul, Int.reduceLT, Int.reduceLE, Int.reduceAdd, Int.reduceSub, Int.reduceMul, Int.reduceNeg, Int.reduceToNat, Int.reduceEq, h7], by simp only [go_sem, reduceCtorEq, reduceIte, Nat.reduceEqDiff, Nat.reduceAdd, Nat.reduceLeDiff, Nat.reduceMul, Int.reduceLT, Int.reduceLE, Int.reduceAdd, Int.reduceSub, Int.reduceMul, Int.reduceNeg, Int.reduceToNat, Int.reduceEq, h8]⟩
  clear h7 h8
  clear s
  rintro σ F M ⟨s, h7, h8⟩
  obtain rfl := s.ff
  refine cut (kB (fzOf W) r [.slice aV lv.length cV, .slice aN ln.length cN] f t su sv U V' i k) ?_ ?_
  rotate_left
  · rintro σ F M ⟨s, h7, h8⟩
    obtain rfl := s.ff
    simp only [go_sem, reduceCtorEq, reduceIte, Nat.reduceEqDiff, Nat.reduceAdd, Nat.reduceLeDiff, Nat.reduceMul, Int.reduceLT, Int.reduceLE, Int.reduceAdd, Int.reduceSub, Int.reduceMul, Int.reduceNeg, Int.reduceToNat, Int.reduceEq, s.h1, s.h3, s.h4, s.h5, s.h6, h7, h8, ek]
    exact ⟨mk - 1, by omega, s.ext (by simp only [go_sem, reduceCtorEq, reduceIte, Nat.reduceEqDiff, Nat.reduceAdd, Nat.reduceLeDiff, Nat.reduceMul, Int.reduceLT, Int.reduceLE, Int.reduceAdd, Int.reduceSub, Int.reduceMul, Int.reduceNeg, Int.reduceToNat, Int.reduceEq]) (by simp only [go_sem, reduceCtorEq, reduceIte, Nat.reduceEqDiff, Nat.reduceAdd, Nat.reduceLeDiff, Nat.reduceMul, Int.reduceLT, Int.reduceLE, Int.reduceAdd, Int.reduceSub, Int.reduceMul, Int.reduceNeg, Int.reduceToNat, Int.reduceEq]) (by simp only [go_sem, reduceCtorEq, reduceIte, Nat.reduceEqDiff, Nat.reduceAdd, Nat.reduceLeDiff, Nat.reduceMul, Int.reduceLT, Int.reduceLE, Int.reduceAdd, Int.reduceSub, Int.reduceMul, Int.reduceNeg, Int.reduceToNat, Int.reduceEq]) (by simp only [go_sem, reduceCtorEq, reduceIte, Nat.reduceEqDiff, Nat.reduceAdd, Nat.reduceLeDiff, Nat.reduceMul, Int.reduceLT, Int.reduceLE, Int.reduceAdd, Int.reduceSub, Int.reduceMul, Int.reduceNeg, Int.reduceToNat, Int.reduceEq]) (by simp only [go_sem, reduceCtorEq, reduceIte, Nat.reduceEqDiff, Nat.reduceAdd, Nat.reduceLeDiff, Nat.reduceMul, Int.reduceLT, Int.reduceLE, Int.reduceAdd, Int.reduceSub, Int.reduceMul, Int.reduceNeg, Int.reduceToNat, Int.reduceEq]), by simp only [go_sem, reduceCtorEq, reduceIte, Nat.reduceEqDiff, Nat.reduceAdd, Nat.reduceLeDiff, Nat.reduceMul, Int.reduceLT, Int.reduceLE, Int.reduceAdd, Int.reduceSub, Int.reduceMul, Int.reduceNeg, Int.reduceToNat, Int.reduceEq, h7], k + 1, by omega, by simp only [go_sem, reduceCtorEq, reduceIte, Nat.reduceEqDiff, Nat.reduceAdd, Nat.reduceLeDiff, Nat.reduceMul, Int.reduceLT, Int.reduceLE, Int.reduceAdd, Int.reduceSub, Int.reduceMul, Int.reduceNeg, Int.reduceToNat, Int.reduceEq]; rfl⟩
  rw [W_block]
  refine cut (J0 (fzOf W) r [.slice aV lv.length cV, .slice aN ln.length cN] f t su sv U V' i k) ?_ ?_
  · have h5 := s.h5
    rw [← hsu] at h5
    have h6 := s.h6
    rw [← hsv] at h6
    obtain ⟨_, ad, cap1, _, esl, hread⟩ := s.ru
    rw [← hsu] at esl
    cases esl
    rcases hread with h | ⟨b, o, cs, eb, hb, hc⟩
    · rw [h] at hil; simp at hil; omega
    cases eb
    obtain ⟨_, ad', cap1', _, esl', hread'⟩ := s.rv
    rw [← hsv] at esl'
    cases esl'
    rcases hread' with h | ⟨b', o', cs', eb', hb', hc'⟩
    · rw [h] at hkl; simp at hkl; omega
    cases eb'
    have hi0 : (0 : Int) ≤ i := by omega
    have hi' : i < U.length := by omega
    have hk0 : (0 : Int) ≤ k := by omega
    have hk' : k < V'.length := by omega
    obtain ⟨d1, d2⟩ := hc i hi'
    obtain ⟨d3, d4⟩ := hc' k hk'
    simp only [Nat.zero_add] at d1 d2 d3 d4
    generalize U[i] = va at d2
    generalize V'[k] = vb at d4
    simp only [go_sem, reduceCtorEq, reduceIte, Nat.reduceEqDiff, Nat.reduceAdd, Nat.reduceLeDiff, Nat.reduceMul, Int.reduceLT, Int.reduceLE, Int.reduceAdd, Int.reduceSub, Int.reduceMul, Int.reduceNeg, Int.reduceToNat, Int.reduceEq, s.h1, s.h3, s.h4, h5, h6, h7, h8, hil, hi0, hkl, hk0, Int.toNat_natCast, hb, hb', d1, d2, d3, d4]
    intro r9 hF9 hM9
    have b9 := blk_ne hb' hF9 hM9
    simp only [go_sem, reduceCtorEq, reduceIte, Nat.reduceEqDiff, Nat.reduceAdd, Nat.reduceLeDiff, Nat.reduceMul, Int.reduceLT, Int.reduceLE, Int.reduceAdd, Int.reduceSub, Int.reduceMul, Int.reduceNeg, Int.reduceToNat, Int.reduceEq, s.h1, s.h3, s.h4, h5, h6, h7, h8, b9]
    intro r10 hF10 hM10
    have g10 := fresh_of hM10
    have b10 := blk_ne hb' hF10 g10.2.2
    simp only [go_sem, reduceCtorEq, reduceIte, Nat.reduceEqDiff, Nat.reduceAdd, Nat.reduceLeDiff, Nat.reduceMul, Int.reduceLT, Int.reduceLE, Int.reduceAdd, Int.reduceSub, Int.reduceMul, Int.reduceNeg, Int.reduceToNat, Int.reduceEq, s.h1, s.h3, s.h4, h5, h6, h7, h8, b9, b10, g10, not_false_eq_true]
    have kk := ((Keep.refl M).new hM9 (e := ⟨va.cs, 34, 6⟩)).new g10.2.2 (e := ⟨vb.cs, 34, 6⟩)
    have oo := (s.old.upd hF9 (e := ⟨va.cs, 34, 6⟩)).upd hF10 (e := ⟨vb.cs, 34, 6⟩)
    exact ⟨⟨(s.grow kk oo).ext (by simp only [go_sem, reduceCtorEq, reduceIte, Nat.reduceEqDiff, Nat.reduceAdd, Nat.reduceLeDiff, Nat.reduceMul, Int.reduceLT, Int.reduceLE, Int.reduceAdd, Int.reduceSub, Int.reduceMul, Int.reduceNeg, Int.reduceToNat, Int.reduceEq]) (by simp only [go_sem, reduceCtorEq, reduceIte, Nat.reduceEqDiff, Nat.reduceAdd, Nat.reduceLeDiff, Nat.reduceMul, Int.reduceLT, Int.reduceLE, Int.reduceAdd, Int.reduceSub, Int.reduceMul, Int.reduceNeg, Int.reduceToNat, Int.reduceEq]) (by simp only [go_sem, reduceCtorEq, reduceIte, Nat.reduceEqDiff, Nat.reduceAdd, Nat.reduceLeDiff, Nat.reduceMul, Int.reduceLT, Int.reduceLE, Int.reduceAdd, Int.reduceSub, Int.reduceMul, Int.reduceNeg, Int.reduceToNat, Int.reduceEq]) (by simp only [go_sem, reduceCtorEq, reduceIte, Nat.reduceEqDiff, Nat.reduceAdd, Nat.reduceLeDiff, Nat.reduceMul, Int.reduceLT, Int.reduceLE, Int.reduceAdd, Int.reduceSub, Int.reduceMul, Int.reduceNeg, Int.reduceToNat, Int.reduceEq]) (by simp only [go_sem, reduceCtorEq, reduceIte, Nat.reduceEqDiff, Nat.reduceAdd, Nat.reduceLeDiff, Nat.reduceMul, Int.reduceLT, Int.reduceLE, Int.reduceAdd, Int.reduceSub, Int.reduceMul, Int.reduceNeg, Int.reduceToNat, Int.reduceEq]), by simp only [go_sem, reduceCtorEq, reduceIte, Nat.reduceEqDiff, Nat.reduceAdd, Nat.reduceLeDiff, Nat.reduceMul, Int.reduceLT, Int.reduceLE, Int.reduceAdd, Int.reduceSub, Int.reduceMul, Int.reduceNeg, Int.reduceToNat, Int.reduceEq, h7], by simp only [go_sem, reduceCtorEq, reduceIte, Nat.reduceEqDiff, Nat.reduceAdd, Nat.reduceLeDiff, Nat.reduceMul, Int.reduceLT, Int.reduceLE, Int.reduceAdd, Int.reduceSub, Int.reduceMul, Int.reduceNeg, Int.reduceToNat, Int.reduceEq, h8]⟩, r9, r10, va, vb, by simp only [go_sem, reduceCtorEq, reduceIte, Nat.reduceEqDiff, Nat.reduceAdd, Nat.reduceLeDiff, Nat.reduceMul, Int.reduceLT, Int.reduceLE, Int.reduceAdd, Int.reduceSub, Int.reduceMul, Int.reduceNeg, Int.reduceToNat, Int.reduceEq], by simp only [go_sem, reduceCtorEq, reduceIte, Nat.reduceEqDiff, Nat.reduceAdd, Nat.reduceLeDiff, Nat.reduceMul, Int.reduceLT, Int.reduceLE, Int.reduceAdd, Int.reduceSub, Int.reduceMul, Int.reduceNeg, Int.reduceToNat, Int.reduceEq], by rw [Hp.upd_ne' g10.2.1]; exact Hp.upd_same _ _ _, Hp.upd_same _ _ _⟩
  clear h7 h8
  clear s
  rintro σ F M ⟨⟨s, h7, h8⟩, r9, r10, a, b, h9, h10, f9, f10⟩
  obtain rfl := s.ff
  refine cut (J1 (fzOf W) r [.slice aV lv.length cV, .slice aN ln.length cN] f t su sv U V' i k) ?_ ?_
  · have b9 := blk_M (F := fzOf W) f9
    have b10 := blk_M (F := fzOf W) f10
    simp only [go_sem, reduceCtorEq, reduceIte, Nat.reduceEqDiff, Nat.reduceAdd, Nat.reduceLeDiff, Nat.reduceMul, Int.reduceLT, Int.reduceLE, Int.reduceAdd, Int.reduceSub, Int.reduceMul, Int.reduceNeg, Int.reduceToNat, Int.reduceEq, s.h1, s.h3, s.h4, h7, h8, h9, h10, b9, b10]
    refine callK_of (k47 _ _ f t a b) ?_
    rintro u G M6 ⟨hG, hM6, ht⟩
    rw [hG, hM6]
    clear hG hM6
    refine ⟨fun _ => Le.refl _ _, ?_⟩
    have mk2 : ∀ σ' (r11 : Nat) (x : V), (fzOf W) r11 = none → M r11 = none → Ax.look σ' 1 = Ax.look σ 1 → Ax.look σ' 3 = Ax.look σ 3 → Ax.look σ' 4 = Ax.look σ 4 → Ax.look σ' 5 = Ax.look σ 5 → Ax.look σ' 6 = Ax.look σ 6 → Ax.look σ' 7 = Ax.look σ 7 → Ax.look σ' 8 = Ax.look σ 8 → Ax.look σ' 9 = Ax.look σ 9 → Ax.look σ' 10 = Ax.look σ 10 →
        Ax.look σ' 11 = some (.pointer (some ⟨r11, 0, none⟩)) →
        D2 (fzOf W) r [.slice aV lv.length cV, .slice aN ln.length cN] f t su sv U V' i k r9 r10 r11 a b x σ' (fzOf W) (M.upd r11 ⟨x.cs, 34, 6⟩) := by
      intro σ' r11 x hF11 hM11 e1 e3 e4 e5 e6 e7 e8 e9 e10 e11
      have kk := (Keep.refl M).new hM11 (e := ⟨x.cs, 34, 6⟩)
      have oo := s.old.upd hF11 (e := ⟨x.cs, 34, 6⟩)
      exact ⟨(s.grow kk oo).ext e1 e3 e4 e5 e6, e7.trans h7, e8.trans h8, e9.trans h9, e10.trans h10, e11, kk _ _ f9, kk _ _ f10, Hp.upd_same _ _ _⟩
    rcases ht with ⟨hask, x, rfl, p⟩ | ⟨hask, rfl⟩
    · simp only [go_sem, reduceCtorEq, reduceIte, Nat.reduceEqDiff, Nat.reduceAdd, Nat.reduceLeDiff, Nat.reduceMul, Int.reduceLT, Int.reduceLE, Int.reduceAdd, Int.reduceSub, Int.reduceMul, Int.reduceNeg, Int.reduceToNat, Int.reduceEq, s.h1, s.h3, s.h4, h7, h8, h9, h10, b9, b10]
      intro r11 hF11 hM11
      simp only [go_sem, reduceCtorEq, reduceIte, Nat.reduceEqDiff, Nat.reduceAdd, Nat.reduceLeDiff, Nat.reduceMul, Int.reduceLT, Int.reduceLE, Int.reduceAdd, Int.reduceSub, Int.reduceMul, Int.reduceNeg, Int.reduceToNat, Int.reduceEq, s.h1, s.h3, s.h4, h7, h8, h9, h10, b9, b10]
      exact ⟨r9, r10, r11, a, b, x, mk2 _ r11 x hF11 hM11 (by simp only [go_sem, reduceCtorEq, reduceIte, Nat.reduceEqDiff, Nat.reduceAdd, Nat.reduceLeDiff, Nat.reduceMul, Int.reduceLT, Int.reduceLE, Int.reduceAdd, Int.reduceSub, Int.reduceMul, Int.reduceNeg, Int.reduceToNat, Int.reduceEq]) (by simp only [go_sem, reduceCtorEq, reduceIte, Nat.reduceEqDiff, Nat.reduceAdd, Nat.reduceLeDiff, Nat.reduceMul, Int.reduceLT, Int.reduceLE, Int.reduceAdd, Int.reduceSub, Int.reduceMul, Int.reduceNeg, Int.reduceToNat, Int.reduceEq]) (by simp only [go_sem, reduceCtorEq, reduceIte, Nat.reduceEqDiff, Nat.reduceAdd, Nat.reduceLeDiff, Nat.reduceMul, Int.reduceLT, Int.reduceLE, Int.reduceAdd, Int.reduceSub, Int.reduceMul, Int.reduceNeg, Int.reduceToNat, Int.reduceEq]) (by simp only [go_sem, reduceCtorEq, reduceIte, Nat.reduceEqDiff, Nat.reduceAdd, Nat.reduceLeDiff, Nat.reduceMul, Int.reduceLT, Int.reduceLE, Int.reduceAdd, Int.reduceSub, Int.reduceMul, Int.reduceNeg, Int.reduceToNat, Int.reduceEq]) (by simp only [go_sem, reduceCtorEq, reduceIte, Nat.reduceEqDiff, Nat.reduceAdd, Nat.reduceLeDiff, Nat.reduceMul, Int.reduceLT, Int.reduceLE, Int.reduceAdd, Int.reduceSub, Int.reduceMul, Int.reduceNeg, Int.reduceToNat, Int.reduceEq]) (by simp only [go_sem, reduceCtorEq, reduceIte, Nat.reduceEqDiff, Nat.reduceAdd, Nat.reduceLeDiff, Nat.reduceMul, Int.reduceLT, Int.reduceLE, Int.reduceAdd, Int.reduceSub, Int.reduceMul, Int.reduceNeg, Int.reduceToNat, Int.reduceEq]) (by simp only [go_sem, reduceCtorEq, reduceIte, Nat.reduceEqDiff, Nat.reduceAdd, Nat.reduceLeDiff, Nat.reduceMul, Int.reduceLT, Int.reduceLE, Int.reduceAdd, Int.reduceSub, Int.reduceMul, Int.reduceNeg, Int.reduceToNat, Int.reduceEq]) (by simp only [go_sem, reduceCtorEq, reduceIte, Nat.reduceEqDiff, Nat.reduceAdd, Nat.reduceLeDiff, Nat.reduceMul, Int.reduceLT, Int.reduceLE, Int.reduceAdd, Int.reduceSub, Int.reduceMul, Int.reduceNeg, Int.reduceToNat, Int.reduceEq]) (by simp only [go_sem, reduceCtorEq, reduceIte, Nat.reduceEqDiff, Nat.reduceAdd, Nat.reduceLeDiff, Nat.reduceMul, Int.reduceLT, Int.reduceLE, Int.reduceAdd, Int.reduceSub, Int.reduceMul, Int.reduceNeg, Int.reduceToNat, Int.reduceEq]) (by simp only [go_sem, reduceCtorEq, reduceIte, Nat.reduceEqDiff, Nat.reduceAdd, Nat.reduceLeDiff, Nat.reduceMul, Int.reduceLT, Int.reduceLE, Int.reduceAdd, Int.reduceSub, Int.reduceMul, Int.reduceNeg, Int.reduceToNat, Int.reduceEq]), .inl ⟨hask, by simp only [go_sem, reduceCtorEq, reduceIte, Nat.reduceEqDiff, Nat.reduceAdd, Nat.reduceLeDiff, Nat.reduceMul, Int.reduceLT, Int.reduceLE, Int.reduceAdd, Int.reduceSub, Int.reduceMul, Int.reduceNeg, Int.reduceToNat, Int.reduceEq], p⟩⟩
    · simp only [go_sem, reduceCtorEq, reduceIte, Nat.reduceEqDiff, Nat.reduceAdd, Nat.reduceLeDiff, Nat.reduceMul, Int.reduceLT, Int.reduceLE, Int.reduceAdd, Int.reduceSub, Int.reduceMul, Int.reduceNeg, Int.reduceToNat, Int.reduceEq, s.h1, s.h3, s.h4, h7, h8, h9, h10, b9, b10]
      intro r11 hF11 hM11
      simp only [go_sem, reduceCtorEq, reduceIte, Nat.reduceEqDiff, Nat.reduceAdd, Nat.reduceLeDiff, Nat.reduceMul, Int.reduceLT, Int.reduceLE, Int.reduceAdd, Int.reduceSub, Int.reduceMul, Int.reduceNeg, Int.reduceToNat, Int.reduceEq, s.h1, s.h3, s.h4, h7, h8, h9, h10, b9, b10]
      exact ⟨r9, r10, r11, a, b, V.zero, mk2 _ r11 V.zero hF11 hM11 (by simp only [go_sem, reduceCtorEq, reduceIte, Nat.reduceEqDiff, Nat.reduceAdd, Nat.reduceLeDiff, Nat.reduceMul, Int.reduceLT, Int.reduceLE, Int.reduceAdd, Int.reduceSub, Int.reduceMul, Int.reduceNeg, Int.reduceToNat, Int.reduceEq]) (by simp only [go_sem, reduceCtorEq, reduceIte, Nat.reduceEqDiff, Nat.reduceAdd, Nat.reduceLeDiff, Nat.reduceMul, Int.reduceLT, Int.reduceLE, Int.reduceAdd, Int.reduceSub, Int.reduceMul, Int.reduceNeg, Int.reduceToNat, Int.reduceEq]) (by simp only [go_sem, reduceCtorEq, reduceIte, Nat.reduceEqDiff, Nat.reduceAdd, Nat.reduceLeDiff, Nat.reduceMul, Int.reduceLT, Int.reduceLE, Int.reduceAdd, Int.reduceSub, Int.reduceMul, Int.reduceNeg, Int.reduceToNat, Int.reduceEq]) (by simp only [go_sem, reduceCtorEq, reduceIte, Nat.reduceEqDiff, Nat.reduceAdd, Nat.reduceLeDiff, Nat.reduceMul, Int.reduceLT, Int.reduceLE, Int.reduceAdd, Int.reduceSub, Int.reduceMul, Int.reduceNeg, Int.reduceToNat, Int.reduceEq]) (by simp only [go_sem, reduceCtorEq, reduceIte, Nat.reduceEqDiff, Nat.reduceAdd, Nat.reduceLeDiff, Nat.reduceMul, Int.reduceLT, Int.reduceLE, Int.reduceAdd, Int.reduceSub, Int.reduceMul, Int.reduceNeg, Int.reduceToNat, Int.reduceEq]) (by simp only [go_sem, reduceCtorEq, reduceIte, Nat.reduceEqDiff, Nat.reduceAdd, Nat.reduceLeDiff, Nat.reduceMul, Int.reduceLT, Int.reduceLE, Int.reduceAdd, Int.reduceSub, Int.reduceMul, Int.reduceNeg, Int.reduceToNat, Int.reduceEq]) (by simp only [go_sem, reduceCtorEq, reduceIte, Nat.reduceEqDiff, Nat.reduceAdd, Nat.reduceLeDiff, Nat.reduceMul, Int.reduceLT, Int.reduceLE, Int.reduceAdd, Int.reduceSub, Int.reduceMul, Int.reduceNeg, Int.reduceToNat, Int.reduceEq]) (by simp only [go_sem, reduceCtorEq, reduceIte, Nat.reduceEqDiff, Nat.reduceAdd, Nat.reduceLeDiff, Nat.reduceMul, Int.reduceLT, Int.reduceLE, Int.reduceAdd, Int.reduceSub, Int.reduceMul, Int.reduceNeg, Int.reduceToNat, Int.reduceEq]) (by simp only [go_sem, reduceCtorEq, reduceIte, Nat.reduceEqDiff, Nat.reduceAdd, Nat.reduceLeDiff, Nat.reduceMul, Int.reduceLT, Int.reduceLE, Int.reduceAdd, Int.reduceSub, Int.reduceMul, Int.reduceNeg, Int.reduceToNat, Int.reduceEq]) (by simp only [go_sem, reduceCtorEq, reduceIte, Nat.reduceEqDiff, Nat.reduceAdd, Nat.reduceLeDiff, Nat.reduceMul, Int.reduceLT, Int.reduceLE, Int.reduceAdd, Int.reduceSub, Int.reduceMul, Int.reduceNeg, Int.reduceToNat, Int.reduceEq]), .inr ⟨hask, by simp only [go_sem, reduceCtorEq, reduceIte, Nat.reduceEqDiff, Nat.reduceAdd, Nat.reduceLeDiff, Nat.reduceMul, Int.reduceLT, Int.reduceLE, Int.reduceAdd, Int.reduceSub, Int.reduceMul, Int.reduceNeg, Int.reduceToNat, Int.reduceEq]⟩⟩
  clear h7 h8 h9 h10 f9 f10
  clear s
  clear r9 r10 a b
  rintro σ F M ⟨r9, r10, r11, a, b, x, s, h12⟩
  obtain rfl := s.ff
  refine cut (J2 (fzOf W) r [.slice aV lv.length cV, .slice aN ln.length cN] f t su sv U V' i k r9 r10 r11 a b x) ?_ ?_
  · simp only [go_sem, reduceCtorEq, reduceIte, Nat.reduceEqDiff, Nat.reduceAdd, Nat.reduceLeDiff, Nat.reduceMul, Int.reduceLT, Int.reduceLE, Int.reduceAdd, Int.reduceSub, Int.reduceMul, Int.reduceNeg, Int.reduceToNat, Int.reduceEq]
    exact ⟨s.ext (by simp only [go_sem, reduceCtorEq, reduceIte, Nat.reduceEqDiff, Nat.reduceAdd, Nat.reduceLeDiff, Nat.reduceMul, Int.reduceLT, Int.reduceLE, Int.reduceAdd, Int.reduceSub, Int.reduceMul, Int.reduceNeg, Int.reduceToNat, Int.reduceEq]) (by simp only [go_sem, reduceCtorEq, reduceIte, Nat.reduceEqDiff, Nat.reduceAdd, Nat.reduceLeDiff, Nat.reduceMul, Int.reduceLT, Int.reduceLE, Int.reduceAdd, Int.reduceSub, Int.reduceMul, Int.reduceNeg, Int.reduceToNat, Int.reduceEq]) (by simp only [go_sem, reduceCtorEq, reduceIte, Nat.reduceEqDiff, Nat.reduceAdd, Nat.reduceLeDiff, Nat.reduceMul, Int.reduceLT, Int.reduceLE, Int.reduceAdd, Int.reduceSub, Int.reduceMul, Int.reduceNeg, Int.reduceToNat, Int.reduceEq]) (by simp only [go_sem, reduceCtorEq, reduceIte, Nat.reduceEqDiff, Nat.reduceAdd, Nat.reduceLeDiff, Nat.reduceMul, Int.reduceLT, Int.reduceLE, Int.reduceAdd, Int.reduceSub, Int.reduceMul, Int.reduceNeg, Int.reduceToNat, Int.reduceEq]) (by simp only [go_sem, reduceCtorEq, reduceIte, Nat.reduceEqDiff, Nat.reduceAdd, Nat.reduceLeDiff, Nat.reduceMul, Int.reduceLT, Int.reduceLE, Int.reduceAdd, Int.reduceSub, Int.reduceMul, Int.reduceNeg, Int.reduceToNat, Int.reduceEq]) (by simp only [go_sem, reduceCtorEq, reduceIte, Nat.reduceEqDiff, Nat.reduceAdd, Nat.reduceLeDiff, Nat.reduceMul, Int.reduceLT, Int.reduceLE, Int.reduceAdd, Int.reduceSub, Int.reduceMul, Int.reduceNeg, Int.reduceToNat, Int.reduceEq]) (by simp only [go_sem, reduceCtorEq, reduceIte, Nat.reduceEqDiff, Nat.reduceAdd, Nat.reduceLeDiff, Nat.reduceMul, Int.reduceLT, Int.reduceLE, Int.reduceAdd, Int.reduceSub, Int.reduceMul, Int.reduceNeg, Int.reduceToNat, Int.reduceEq]) (by simp only [go_sem, reduceCtorEq, reduceIte, Nat.reduceEqDiff, Nat.reduceAdd, Nat.reduceLeDiff, Nat.reduceMul, Int.reduceLT, Int.reduceLE, Int.reduceAdd, Int.reduceSub, Int.reduceMul, Int.reduceNeg, Int.reduceToNat, Int.reduceEq]) (by simp only [go_sem, reduceCtorEq, reduceIte, Nat.reduceEqDiff, Nat.reduceAdd, Nat.reduceLeDiff, Nat.reduceMul, Int.reduceLT, Int.reduceLE, Int.reduceAdd, Int.reduceSub, Int.reduceMul, Int.reduceNeg, Int.reduceToNat, Int.reduceEq]) (by simp only [go_sem, reduceCtorEq, reduceIte, Nat.reduceEqDiff, Nat.reduceAdd, Nat.reduceLeDiff, Nat.reduceMul, Int.reduceLT, Int.reduceLE, Int.reduceAdd, Int.reduceSub, Int.reduceMul, Int.reduceNeg, Int.reduceToNat, Int.reduceEq]), h12.ext (by simp only [go_sem, reduceCtorEq, reduceIte, Nat.reduceEqDiff, Nat.reduceAdd, Nat.reduceLeDiff, Nat.reduceMul, Int.reduceLT, Int.reduceLE, Int.reduceAdd, Int.reduceSub, Int.reduceMul, Int.reduceNeg, Int.reduceToNat, Int.reduceEq]), by simp only [go_sem, reduceCtorEq, reduceIte, Nat.reduceEqDiff, Nat.reduceAdd, Nat.reduceLeDiff, Nat.reduceMul, Int.reduceLT, Int.reduceLE, Int.reduceAdd, Int.reduceSub, Int.reduceMul, Int.reduceNeg, Int.reduceToNat, Int.reduceEq]⟩
  clear h12
  clear s
  rintro σ F M ⟨s, h12, h13⟩
  obtain rfl := s.ff
  have b9 := blk_M (F := fzOf W) s.f9
  have b10 := blk_M (F := fzOf W) s.f10
  have fit_iff : (fitB f a && fitB t b) = true ↔ isK f = true ∧ isK t = true ∧ a.ok = true ∧ b.ok = true ∧ a.w = ofW f ∧ b.w = ofW t := by
    simp only [fitB, Bool.and_eq_true, decide_eq_true_eq]
    constructor
    · rintro ⟨⟨⟨q1, q2⟩, q3⟩, ⟨q4, q5⟩, q6⟩; exact ⟨q1, q4, q2, q5, q3, q6⟩
    · rintro ⟨q1, q4, q2, q5, q3, q6⟩; exact ⟨⟨⟨q1, q2⟩, q3⟩, ⟨q4, q5⟩, q6⟩
  refine cut (J3 (fzOf W) r [.slice aV lv.length cV, .slice aN ln.length cN] f t su sv U V' i k r9 r10 r11 a b x) ?_ ?_
  · have fin0 : ∀ σ', Ax.look σ' 1 = Ax.look σ 1 → Ax.look σ' 3 = Ax.look σ 3 → Ax.look σ' 4 = Ax.look σ 4 → Ax.look σ' 5 = Ax.look σ 5 → Ax.look σ' 6 = Ax.look σ 6 → Ax.look σ' 7 = Ax.look σ 7 → Ax.look σ' 8 = Ax.look σ 8 → Ax.look σ' 9 = Ax.look σ 9 → Ax.look σ' 10 = Ax.look σ 10 → Ax.look σ' 11 = Ax.look σ 11 → Ax.look σ' 12 = Ax.look σ 12 →
        ∀ n : Int, Ax.look σ' 13 = some (.int .i64 n) → ((fitB f a && fitB t b) = true ∧ n = 0 ∨ ¬ (fitB f a && fitB t b) = true ∧ n = 1) → J3 (fzOf W) r [.slice aV lv.length cV, .slice aN ln.length cN] f t su sv U V' i k r9 r10 r11 a b x σ' (fzOf W) M := by
      intro σ' e1 e3 e4 e5 e6 e7 e8 e9 e10 e11 e12 n e13 hn
      refine ⟨s.ext e1 e3 e4 e5 e6 e7 e8 e9 e10 e11, h12.ext e12, ?_⟩
      rcases hn with ⟨q, rfl⟩ | ⟨q, rfl⟩
      · rw [e13, if_pos q]
      · rw [e13, if_neg q]
    simp only [go_sem, reduceCtorEq, reduceIte, Nat.reduceEqDiff, Nat.reduceAdd, Nat.reduceLeDiff, Nat.reduceMul, Int.reduceLT, Int.reduceLE, Int.reduceAdd, Int.reduceSub, Int.reduceMul, Int.reduceNeg, Int.reduceToNat, Int.reduceEq, s.h1, s.h3, s.h4, s.h5, s.h6, s.h7, s.h8, s.h9, s.h10, s.h11, h13]
    refine callK_same (k46 _ _ f) ?_
    by_cases kf : isK f = true
    rotate_left
    · have e0 : wK f = 0 := by simp [wK, kf]
      simp only [go_sem, reduceCtorEq, reduceIte, Nat.reduceEqDiff, Nat.reduceAdd, Nat.reduceLeDiff, Nat.reduceMul, Int.reduceLT, Int.reduceLE, Int.reduceAdd, Int.reduceSub, Int.reduceMul, Int.reduceNeg, Int.reduceToNat, Int.reduceEq, s.h1, s.h3, s.h4, s.h5, s.h6, s.h7, s.h8, s.h9, s.h10, s.h11, h13, e0]
      exact fin0 _ (by simp only [go_sem, reduceCtorEq, reduceIte, Nat.reduceEqDiff, Nat.reduceAdd, Nat.reduceLeDiff, Nat.reduceMul, Int.reduceLT, Int.reduceLE, Int.reduceAdd, Int.reduceSub, Int.reduceMul, Int.reduceNeg, Int.reduceToNat, Int.reduceEq]) (by simp only [go_sem, reduceCtorEq, reduceIte, Nat.reduceEqDiff, Nat.reduceAdd, Nat.reduceLeDiff, Nat.reduceMul, Int.reduceLT, Int.reduceLE, Int.reduceAdd, Int.reduceSub, Int.reduceMul, Int.reduceNeg, Int.reduceToNat, Int.reduceEq]) (by simp only [go_sem, reduceCtorEq, reduceIte, Nat.reduceEqDiff, Nat.reduceAdd, Nat.reduceLeDiff, Nat.reduceMul, Int.reduceLT, Int.reduceLE, Int.reduceAdd, Int.reduceSub, Int.reduceMul, Int.reduceNeg, Int.reduceToNat, Int.reduceEq]) (by simp only [go_sem, reduceCtorEq, reduceIte, Nat.reduceEqDiff, Nat.reduceAdd, Nat.reduceLeDiff, Nat.reduceMul, Int.reduceLT, Int.reduceLE, Int.reduceAdd, Int.reduceSub, Int.reduceMul, Int.reduceNeg, Int.reduceToNat, Int.reduceEq]) (by simp only [go_sem, reduceCtorEq, reduceIte, Nat.reduceEqDiff, Nat.reduceAdd, Nat.reduceLeDiff, Nat.reduceMul, Int.reduceLT, Int.reduceLE, Int.reduceAdd, Int.reduceSub, Int.reduceMul, Int.reduceNeg, Int.reduceToNat, Int.reduceEq]) (by simp only [go_sem, reduceCtorEq, reduceIte, Nat.reduceEqDiff, Nat.reduceAdd, Nat.reduceLeDiff, Nat.reduceMul, Int.reduceLT, Int.reduceLE, Int.reduceAdd, Int.reduceSub, Int.reduceMul, Int.reduceNeg, Int.reduceToNat, Int.reduceEq]) (by simp only [go_sem, reduceCtorEq, reduceIte, Nat.reduceEqDiff, Nat.reduceAdd, Nat.reduceLeDiff, Nat.reduceMul, Int.reduceLT, Int.reduceLE, Int.reduceAdd, Int.reduceSub, Int.reduceMul, Int.reduceNeg, Int.reduceToNat, Int.reduceEq]) (by simp only [go_sem, reduceCtorEq, reduceIte, Nat.reduceEqDiff, Nat.reduceAdd, Nat.reduceLeDiff, Nat.reduceMul, Int.reduceLT, Int.reduceLE, Int.reduceAdd, Int.reduceSub, Int.reduceMul, Int.reduceNeg, Int.reduceToNat, Int.reduceEq]) (by simp only [go_sem, reduceCtorEq, reduceIte, Nat.reduceEqDiff, Nat.reduceAdd, Nat.reduceLeDiff, Nat.reduceMul, Int.reduceLT, Int.reduceLE, Int.reduceAdd, Int.reduceSub, Int.reduceMul, Int.reduceNeg, Int.reduceToNat, Int.reduceEq]) (by simp only [go_sem, reduceCtorEq, reduceIte, Nat.reduceEqDiff, Nat.reduceAdd, Nat.reduceLeDiff, Nat.reduceMul, Int.reduceLT, Int.reduceLE, Int.reduceAdd, Int.reduceSub, Int.reduceMul, Int.reduceNeg, Int.reduceToNat, Int.reduceEq]) (by simp only [go_sem, reduceCtorEq, reduceIte, Nat.reduceEqDiff, Nat.reduceAdd, Nat.reduceLeDiff, Nat.reduceMul, Int.reduceLT, Int.reduceLE, Int.reduceAdd, Int.reduceSub, Int.reduceMul, Int.reduceNeg, Int.reduceToNat, Int.reduceEq]) 1 (by simp only [go_sem, reduceCtorEq, reduceIte, Nat.reduceEqDiff, Nat.reduceAdd, Nat.reduceLeDiff, Nat.reduceMul, Int.reduceLT, Int.reduceLE, Int.reduceAdd, Int.reduceSub, Int.reduceMul, Int.reduceNeg, Int.reduceToNat, Int.reduceEq, h13]) (.inr ⟨fun q => kf (fit_iff.1 q).1, rfl⟩)
    have e0 : wK f = ofW f := wK_of kf
    have hpf := pow_w (ofW_isW f)
    have e1 : (0 : Int) < ofW f := by omega
    simp only [go_sem, reduceCtorEq, reduceIte, Nat.reduceEqDiff, Nat.reduceAdd, Nat.reduceLeDiff, Nat.reduceMul, Int.reduceLT, Int.reduceLE, Int.reduceAdd, Int.reduceSub, Int.reduceMul, Int.reduceNeg, Int.reduceToNat, Int.reduceEq, s.h1, s.h3, s.h4, s.h5, s.h6, s.h7, s.h8, s.h9, s.h10, s.h11, h13, e0, e1]
    refine callK_same (k46 _ _ t) ?_
    by_cases kt : isK t = true
    rotate_left
    · have e2 : wK t = 0 := by simp [wK, kt]
      simp only [go_sem, reduceCtorEq, reduceIte, Nat.reduceEqDiff, Nat.reduceAdd, Nat.reduceLeDiff, Nat.reduceMul, Int.reduceLT, Int.reduceLE, Int.reduceAdd, Int.reduceSub, Int.reduceMul, Int.reduceNeg, Int.reduceToNat, Int.reduceEq, s.h1, s.h3, s.h4, s.h5, s.h6, s.h7, s.h8, s.h9, s.h10, s.h11, h13, e2]
      exact fin0 _ (by simp only [go_sem, reduceCtorEq, reduceIte, Nat.reduceEqDiff, Nat.reduceAdd, Nat.reduceLeDiff, Nat.reduceMul, Int.reduceLT, Int.reduceLE, Int.reduceAdd, Int.reduceSub, Int.reduceMul, Int.reduceNeg, Int.reduceToNat, Int.reduceEq]) (by simp only [go_sem, reduceCtorEq, reduceIte, Nat.reduceEqDiff, Nat.reduceAdd, Nat.reduceLeDiff, Nat.reduceMul, Int.reduceLT, Int.reduceLE, Int.reduceAdd, Int.reduceSub, Int.reduceMul, Int.reduceNeg, Int.reduceToNat, Int.reduceEq]) (by simp only [go_sem, reduceCtorEq, reduceIte, Nat.reduceEqDiff, Nat.reduceAdd, Nat.reduceLeDiff, Nat.reduceMul, Int.reduceLT, Int.reduceLE, Int.reduceAdd, Int.reduceSub, Int.reduceMul, Int.reduceNeg, Int.reduceToNat, Int.reduceEq]) (by simp only [go_sem, reduceCtorEq, reduceIte, Nat.reduceEqDiff, Nat.reduceAdd, Nat.reduceLeDiff, Nat.reduceMul, Int.reduceLT, Int.reduceLE, Int.reduceAdd, Int.reduceSub, Int.reduceMul, Int.reduceNeg, Int.reduceToNat, Int.reduceEq]) (by simp only [go_sem, reduceCtorEq, reduceIte, Nat.reduceEqDiff, Nat.reduceAdd, Nat.reduceLeDiff, Nat.reduceMul, Int.reduceLT, Int.reduceLE, Int.reduceAdd, Int.reduceSub, Int.reduceMul, Int.reduceNeg, Int.reduceToNat, Int.reduceEq]) (by simp only [go_sem, reduceCtorEq, reduceIte, Nat.reduceEqDiff, Nat.reduceAdd, Nat.reduceLeDiff, Nat.reduceMul, Int.reduceLT, Int.reduceLE, Int.reduceAdd, Int.reduceSub, Int.reduceMul, Int.reduceNeg, Int.reduceToNat, Int.reduceEq]) (by simp only [go_sem, reduceCtorEq, reduceIte, Nat.reduceEqDiff, Nat.reduceAdd, Nat.reduceLeDiff, Nat.reduceMul, Int.reduceLT, Int.reduceLE, Int.reduceAdd, Int.reduceSub, Int.reduceMul, Int.reduceNeg, Int.reduceToNat, Int.reduceEq]) (by simp only [go_sem, reduceCtorEq, reduceIte, Nat.reduceEqDiff, Nat.reduceAdd, Nat.reduceLeDiff, Nat.reduceMul, Int.reduceLT, Int.reduceLE, Int.reduceAdd, Int.reduceSub, Int.reduceMul, Int.reduceNeg, Int.reduceToNat, Int.reduceEq]) (by simp only [go_sem, reduceCtorEq, reduceIte, Nat.reduceEqDiff, Nat.reduceAdd, Nat.reduceLeDiff, Nat.reduceMul, Int.reduceLT, Int.reduceLE, Int.reduceAdd, Int.reduceSub, Int.reduceMul, Int.reduceNeg, Int.reduceToNat, Int.reduceEq]) (by simp only [go_sem, reduceCtorEq, reduceIte, Nat.reduceEqDiff, Nat.reduceAdd, Nat.reduceLeDiff, Nat.reduceMul, Int.reduceLT, Int.reduceLE, Int.reduceAdd, Int.reduceSub, Int.reduceMul, Int.reduceNeg, Int.reduceToNat, Int.reduceEq]) (by simp only [go_sem, reduceCtorEq, reduceIte, Nat.reduceEqDiff, Nat.reduceAdd, Nat.reduceLeDiff, Nat.reduceMul, Int.reduceLT, Int.reduceLE, Int.reduceAdd, Int.reduceSub, Int.reduceMul, Int.reduceNeg, Int.reduceToNat, Int.reduceEq]) 1 (by simp only [go_sem, reduceCtorEq, reduceIte, Nat.reduceEqDiff, Nat.reduceAdd, Nat.reduceLeDiff, Nat.reduceMul, Int.reduceLT, Int.reduceLE, Int.reduceAdd, Int.reduceSub, Int.reduceMul, Int.reduceNeg, Int.reduceToNat, Int.reduceEq, h13]) (.inr ⟨fun q => kt (fit_iff.1 q).2.1, rfl⟩)
    have e2 : wK t = ofW t := wK_of kt
    have hpt := pow_w (ofW_isW t)
    have e3 : (0 : Int) < ofW t := by omega
    simp only [go_sem, reduceCtorEq, reduceIte, Nat.reduceEqDiff, Nat.reduceAdd, Nat.reduceLeDiff, Nat.reduceMul, Int.reduceLT, Int.reduceLE, Int.reduceAdd, Int.reduceSub, Int.reduceMul, Int.reduceNeg, Int.reduceToNat, Int.reduceEq, s.h1, s.h3, s.h4, s.h5, s.h6, s.h7, s.h8, s.h9, s.h10, s.h11, h13, e2, e3, b9]
    refine callK_same (k36 _ _ a) ?_
    cases ha : a.ok
    · simp only [go_sem, reduceCtorEq, reduceIte, Nat.reduceEqDiff, Nat.reduceAdd, Nat.reduceLeDiff, Nat.reduceMul, Int.reduceLT, Int.reduceLE, Int.reduceAdd, Int.reduceSub, Int.reduceMul, Int.reduceNeg, Int.reduceToNat, Int.reduceEq, s.h1, s.h3, s.h4, s.h5, s.h6, s.h7, s.h8, s.h9, s.h10, s.h11, h13]
      exact fin0 _ (by simp only [go_sem, reduceCtorEq, reduceIte, Nat.reduceEqDiff, Nat.reduceAdd, Nat.reduceLeDiff, Nat.reduceMul, Int.reduceLT, Int.reduceLE, Int.reduceAdd, Int.reduceSub, Int.reduceMul, Int.reduceNeg, Int.reduceToNat, Int.reduceEq]) (by simp only [go_sem, reduceCtorEq, reduceIte, Nat.reduceEqDiff, Nat.reduceAdd, Nat.reduceLeDiff, Nat.reduceMul, Int.reduceLT, Int.reduceLE, Int.reduceAdd, Int.reduceSub, Int.reduceMul, Int.reduceNeg, Int.reduceToNat, Int.reduceEq]) (by simp only [go_sem, reduceCtorEq, reduceIte, Nat.reduceEqDiff, Nat.reduceAdd, Nat.reduceLeDiff, Nat.reduceMul, Int.reduceLT, Int.reduceLE, Int.reduceAdd, Int.reduceSub, Int.reduceMul, Int.reduceNeg, Int.reduceToNat, Int.reduceEq]) (by simp only [go_sem, reduceCtorEq, reduceIte, Nat.reduceEqDiff, Nat.reduceAdd, Nat.reduceLeDiff, Nat.reduceMul, Int.reduceLT, Int.reduceLE, Int.reduceAdd, Int.reduceSub, Int.reduceMul, Int.reduceNeg, Int.reduceToNat, Int.reduceEq]) (by simp only [go_sem, reduceCtorEq, reduceIte, Nat.reduceEqDiff, Nat.reduceAdd, Nat.reduceLeDiff, Nat.reduceMul, Int.reduceLT, Int.reduceLE, Int.reduceAdd, Int.reduceSub, Int.reduceMul, Int.reduceNeg, Int.reduceToNat, Int.reduceEq]) (by simp only [go_sem, reduceCtorEq, reduceIte, Nat.reduceEqDiff, Nat.reduceAdd, Nat.reduceLeDiff, Nat.reduceMul, Int.reduceLT, Int.reduceLE, Int.reduceAdd, Int.reduceSub, Int.reduceMul, Int.reduceNeg, Int.reduceToNat, Int.reduceEq]) (by simp only [go_sem, reduceCtorEq, reduceIte, Nat.reduceEqDiff, Nat.reduceAdd, Nat.reduceLeDiff, Nat.reduceMul, Int.reduceLT, Int.reduceLE, Int.reduceAdd, Int.reduceSub, Int.reduceMul, Int.reduceNeg, Int.reduceToNat, Int.reduceEq]) (by simp only [go_sem, reduceCtorEq, reduceIte, Nat.reduceEqDiff, Nat.reduceAdd, Nat.reduceLeDiff, Nat.reduceMul, Int.reduceLT, Int.reduceLE, Int.reduceAdd, Int.reduceSub, Int.reduceMul, Int.reduceNeg, Int.reduceToNat, Int.reduceEq]) (by simp only [go_sem, reduceCtorEq, reduceIte, Nat.reduceEqDiff, Nat.reduceAdd, Nat.reduceLeDiff, Nat.reduceMul, Int.reduceLT, Int.reduceLE, Int.reduceAdd, Int.reduceSub, Int.reduceMul, Int.reduceNeg, Int.reduceToNat, Int.reduceEq]) (by simp only [go_sem, reduceCtorEq, reduceIte, Nat.reduceEqDiff, Nat.reduceAdd, Nat.reduceLeDiff, Nat.reduceMul, Int.reduceLT, Int.reduceLE, Int.reduceAdd, Int.reduceSub, Int.reduceMul, Int.reduceNeg, Int.reduceToNat, Int.reduceEq]) (by simp only [go_sem, reduceCtorEq, reduceIte, Nat.reduceEqDiff, Nat.reduceAdd, Nat.reduceLeDiff, Nat.reduceMul, Int.reduceLT, Int.reduceLE, Int.reduceAdd, Int.reduceSub, Int.reduceMul, Int.reduceNeg, Int.reduceToNat, Int.reduceEq]) 1 (by simp only [go_sem, reduceCtorEq, reduceIte, Nat.reduceEqDiff, Nat.reduceAdd, Nat.reduceLeDiff, Nat.reduceMul, Int.reduceLT, Int.reduceLE, Int.reduceAdd, Int.reduceSub, Int.reduceMul, Int.reduceNeg, Int.reduceToNat, Int.reduceEq, h13]) (.inr ⟨(fun q => by have := (fit_iff.1 q).2.2.1; rw [ha] at this; cases this), rfl⟩)
    simp only [go_sem, reduceCtorEq, reduceIte, Nat.reduceEqDiff, Nat.reduceAdd, Nat.reduceLeDiff, Nat.reduceMul, Int.reduceLT, Int.reduceLE, Int.reduceAdd, Int.reduceSub, Int.reduceMul, Int.reduceNeg, Int.reduceToNat, Int.reduceEq, s.h1, s.h3, s.h4, s.h5, s.h6, s.h7, s.h8, s.h9, s.h10, s.h11, h13, b10]
    refine callK_same (k36 _ _ b) ?_
    cases hb : b.ok
    · simp only [go_sem, reduceCtorEq, reduceIte, Nat.reduceEqDiff, Nat.reduceAdd, Nat.reduceLeDiff, Nat.reduceMul, Int.reduceLT, Int.reduceLE, Int.reduceAdd, Int.reduceSub, Int.reduceMul, Int.reduceNeg, Int.reduceToNat, Int.reduceEq, s.h1, s.h3, s.h4, s.h5, s.h6, s.h7, s.h8, s.h9, s.h10, s.h11, h13]
      exact fin0 _ (by simp only [go_sem, reduceCtorEq, reduceIte, Nat.reduceEqDiff, Nat.reduceAdd, Nat.reduceLeDiff, Nat.reduceMul, Int.reduceLT, Int.reduceLE, Int.reduceAdd, Int.reduceSub, Int.reduceMul, Int.reduceNeg, Int.reduceToNat, Int.reduceEq]) (by simp only [go_sem, reduceCtorEq, reduceIte, Nat.reduceEqDiff, Nat.reduceAdd, Nat.reduceLeDiff, Nat.reduceMul, Int.reduceLT, Int.reduceLE, Int.reduceAdd, Int.reduceSub, Int.reduceMul, Int.reduceNeg, Int.reduceToNat, Int.reduceEq]) (by simp only [go_sem, reduceCtorEq, reduceIte, Nat.reduceEqDiff, Nat.reduceAdd, Nat.reduceLeDiff, Nat.reduceMul, Int.reduceLT, Int.reduceLE, Int.reduceAdd, Int.reduceSub, Int.reduceMul, Int.reduceNeg, Int.reduceToNat, Int.reduceEq]) (by simp only [go_sem, reduceCtorEq, reduceIte, Nat.reduceEqDiff, Nat.reduceAdd, Nat.reduceLeDiff, Nat.reduceMul, Int.reduceLT, Int.reduceLE, Int.reduceAdd, Int.reduceSub, Int.reduceMul, Int.reduceNeg, Int.reduceToNat, Int.reduceEq]) (by simp only [go_sem, reduceCtorEq, reduceIte, Nat.reduceEqDiff, Nat.reduceAdd, Nat.reduceLeDiff, Nat.reduceMul, Int.reduceLT, Int.reduceLE, Int.reduceAdd, Int.reduceSub, Int.reduceMul, Int.reduceNeg, Int.reduceToNat, Int.reduceEq]) (by simp only [go_sem, reduceCtorEq, reduceIte, Nat.reduceEqDiff, Nat.reduceAdd, Nat.reduceLeDiff, Nat.reduceMul, Int.reduceLT, Int.reduceLE, Int.reduceAdd, Int.reduceSub, Int.reduceMul, Int.reduceNeg, Int.reduceToNat, Int.reduceEq]) (by simp only [go_sem, reduceCtorEq, reduceIte, Nat.reduceEqDiff, Nat.reduceAdd, Nat.reduceLeDiff, Nat.reduceMul, Int.reduceLT, Int.reduceLE, Int.reduceAdd, Int.reduceSub, Int.reduceMul, Int.reduceNeg, Int.reduceToNat, Int.reduceEq]) (by simp only [go_sem, reduceCtorEq, reduceIte, Nat.reduceEqDiff, Nat.reduceAdd, Nat.reduceLeDiff, Nat.reduceMul, Int.reduceLT, Int.reduceLE, Int.reduceAdd, Int.reduceSub, Int.reduceMul, Int.reduceNeg, Int.reduceToNat, Int.reduceEq]) (by simp only [go_sem, reduceCtorEq, reduceIte, Nat.reduceEqDiff, Nat.reduceAdd, Nat.reduceLeDiff, Nat.reduceMul, Int.reduceLT, Int.reduceLE, Int.reduceAdd, Int.reduceSub, Int.reduceMul, Int.reduceNeg, Int.reduceToNat, Int.reduceEq]) (by simp only [go_sem, reduceCtorEq, reduceIte, Nat.reduceEqDiff, Nat.reduceAdd, Nat.reduceLeDiff, Nat.reduceMul, Int.reduceLT, Int.reduceLE, Int.reduceAdd, Int.reduceSub, Int.reduceMul, Int.reduceNeg, Int.reduceToNat, Int.reduceEq]) (by simp only [go_sem, reduceCtorEq, reduceIte, Nat.reduceEqDiff, Nat.reduceAdd, Nat.reduceLeDiff, Nat.reduceMul, Int.reduceLT, Int.reduceLE, Int.reduceAdd, Int.reduceSub, Int.reduceMul, Int.reduceNeg, Int.reduceToNat, Int.reduceEq]) 1 (by simp only [go_sem, reduceCtorEq, reduceIte, Nat.reduceEqDiff, Nat.reduceAdd, Nat.reduceLeDiff, Nat.reduceMul, Int.reduceLT, Int.reduceLE, Int.reduceAdd, Int.reduceSub, Int.reduceMul, Int.reduceNeg, Int.reduceToNat, Int.reduceEq, h13]) (.inr ⟨(fun q => by have := (fit_iff.1 q).2.2.2.1; rw [hb] at this; cases this), rfl⟩)
    simp only [go_sem, reduceCtorEq, reduceIte, Nat.reduceEqDiff, Nat.reduceAdd, Nat.reduceLeDiff, Nat.reduceMul, Int.reduceLT, Int.reduceLE, Int.reduceAdd, Int.reduceSub, Int.reduceMul, Int.reduceNeg, Int.reduceToNat, Int.reduceEq, s.h1, s.h3, s.h4, s.h5, s.h6, s.h7, s.h8, s.h9, s.h10, s.h11, h13, b9]
    refine callK_same (k46 _ _ f) ?_
    by_cases wa : a.w = ofW f
    rotate_left
    · simp only [go_sem, reduceCtorEq, reduceIte, Nat.reduceEqDiff, Nat.reduceAdd, Nat.reduceLeDiff, Nat.reduceMul, Int.reduceLT, Int.reduceLE, Int.reduceAdd, Int.reduceSub, Int.reduceMul, Int.reduceNeg, Int.reduceToNat, Int.reduceEq, s.h1, s.h3, s.h4, s.h5, s.h6, s.h7, s.h8, s.h9, s.h10, s.h11, h13, e0, wa]
      exact fin0 _ (by simp only [go_sem, reduceCtorEq, reduceIte, Nat.reduceEqDiff, Nat.reduceAdd, Nat.reduceLeDiff, Nat.reduceMul, Int.reduceLT, Int.reduceLE, Int.reduceAdd, Int.reduceSub, Int.reduceMul, Int.reduceNeg, Int.reduceToNat, Int.reduceEq]) (by simp only [go_sem, reduceCtorEq, reduceIte, Nat.reduceEqDiff, Nat.reduceAdd, Nat.reduceLeDiff, Nat.reduceMul, Int.reduceLT, Int.reduceLE, Int.reduceAdd, Int.reduceSub, Int.reduceMul, Int.reduceNeg, Int.reduceToNat, Int.reduceEq]) (by simp only [go_sem, reduceCtorEq, reduceIte, Nat.reduceEqDiff, Nat.reduceAdd, Nat.reduceLeDiff, Nat.reduceMul, Int.reduceLT, Int.reduceLE, Int.reduceAdd, Int.reduceSub, Int.reduceMul, Int.reduceNeg, Int.reduceToNat, Int.reduceEq]) (by simp only [go_sem, reduceCtorEq, reduceIte, Nat.reduceEqDiff, Nat.reduceAdd, Nat.reduceLeDiff, Nat.reduceMul, Int.reduceLT, Int.reduceLE, Int.reduceAdd, Int.reduceSub, Int.reduceMul, Int.reduceNeg, Int.reduceToNat, Int.reduceEq]) (by simp only [go_sem, reduceCtorEq, reduceIte, Nat.reduceEqDiff, Nat.reduceAdd, Nat.reduceLeDiff, Nat.reduceMul, Int.reduceLT, Int.reduceLE, Int.reduceAdd, Int.reduceSub, Int.reduceMul, Int.reduceNeg, Int.reduceToNat, Int.reduceEq]) (by simp only [go_sem, reduceCtorEq, reduceIte, Nat.reduceEqDiff, Nat.reduceAdd, Nat.reduceLeDiff, Nat.reduceMul, Int.reduceLT, Int.reduceLE, Int.reduceAdd, Int.reduceSub, Int.reduceMul, Int.reduceNeg, Int.reduceToNat, Int.reduceEq]) (by simp only [go_sem, reduceCtorEq, reduceIte, Nat.reduceEqDiff, Nat.reduceAdd, Nat.reduceLeDiff, Nat.reduceMul, Int.reduceLT, Int.reduceLE, Int.reduceAdd, Int.reduceSub, Int.reduceMul, Int.reduceNeg, Int.reduceToNat, Int.reduceEq]) (by simp only [go_sem, reduceCtorEq, reduceIte, Nat.reduceEqDiff, Nat.reduceAdd, Nat.reduceLeDiff, Nat.reduceMul, Int.reduceLT, Int.reduceLE, Int.reduceAdd, Int.reduceSub, Int.reduceMul, Int.reduceNeg, Int.reduceToNat, Int.reduceEq]) (by simp only [go_sem, reduceCtorEq, reduceIte, Nat.reduceEqDiff, Nat.reduceAdd, Nat.reduceLeDiff, Nat.reduceMul, Int.reduceLT, Int.reduceLE, Int.reduceAdd, Int.reduceSub, Int.reduceMul, Int.reduceNeg, Int.reduceToNat, Int.reduceEq]) (by simp only [go_sem, reduceCtorEq, reduceIte, Nat.reduceEqDiff, Nat.reduceAdd, Nat.reduceLeDiff, Nat.reduceMul, Int.reduceLT, Int.reduceLE, Int.reduceAdd, Int.reduceSub, Int.reduceMul, Int.reduceNeg, Int.reduceToNat, Int.reduceEq]) (by simp only [go_sem, reduceCtorEq, reduceIte, Nat.reduceEqDiff, Nat.reduceAdd, Nat.reduceLeDiff, Nat.reduceMul, Int.reduceLT, Int.reduceLE, Int.reduceAdd, Int.reduceSub, Int.reduceMul, Int.reduceNeg, Int.reduceToNat, Int.reduceEq]) 1 (by simp only [go_sem, reduceCtorEq, reduceIte, Nat.reduceEqDiff, Nat.reduceAdd, Nat.reduceLeDiff, Nat.reduceMul, Int.reduceLT, Int.reduceLE, Int.reduceAdd, Int.reduceSub, Int.reduceMul, Int.reduceNeg, Int.reduceToNat, Int.reduceEq, h13]) (.inr ⟨fun q => wa (fit_iff.1 q).2.2.2.2.1, rfl⟩)
    simp only [go_sem, reduceCtorEq, reduceIte, Nat.reduceEqDiff, Nat.reduceAdd, Nat.reduceLeDiff, Nat.reduceMul, Int.reduceLT, Int.reduceLE, Int.reduceAdd, Int.reduceSub, Int.reduceMul, Int.reduceNeg, Int.reduceToNat, Int.reduceEq, s.h1, s.h3, s.h4, s.h5, s.h6, s.h7, s.h8, s.h9, s.h10, s.h11, h13, e0, wa, b10]
    refine callK_same (k46 _ _ t) ?_
    by_cases wb : b.w = ofW t
    rotate_left
    · simp only [go_sem, reduceCtorEq, reduceIte, Nat.reduceEqDiff, Nat.reduceAdd, Nat.reduceLeDiff, Nat.reduceMul, Int.reduceLT, Int.reduceLE, Int.reduceAdd, Int.reduceSub, Int.reduceMul, Int.reduceNeg, Int.reduceToNat, Int.reduceEq, s.h1, s.h3, s.h4, s.h5, s.h6, s.h7, s.h8, s.h9, s.h10, s.h11, h13, e2, wb]
      exact fin0 _ (by simp only [go_sem, reduceCtorEq, reduceIte, Nat.reduceEqDiff, Nat.reduceAdd, Nat.reduceLeDiff, Nat.reduceMul, Int.reduceLT, Int.reduceLE, Int.reduceAdd, Int.reduceSub, Int.reduceMul, Int.reduceNeg, Int.reduceToNat, Int.reduceEq]) (by simp only [go_sem, reduceCtorEq, reduceIte, Nat.reduceEqDiff, Nat.reduceAdd, Nat.reduceLeDiff, Nat.reduceMul, Int.reduceLT, Int.reduceLE, Int.reduceAdd, Int.reduceSub, Int.reduceMul, Int.reduceNeg, Int.reduceToNat, Int.reduceEq]) (by simp only [go_sem, reduceCtorEq, reduceIte, Nat.reduceEqDiff, Nat.reduceAdd, Nat.reduceLeDiff, Nat.reduceMul, Int.reduceLT, Int.reduceLE, Int.reduceAdd, Int.reduceSub, Int.reduceMul, Int.reduceNeg, Int.reduceToNat, Int.reduceEq]) (by simp only [go_sem, reduceCtorEq, reduceIte, Nat.reduceEqDiff, Nat.reduceAdd, Nat.reduceLeDiff, Nat.reduceMul, Int.reduceLT, Int.reduceLE, Int.reduceAdd, Int.reduceSub, Int.reduceMul, Int.reduceNeg, Int.reduceToNat, Int.reduceEq]) (by simp only [go_sem, reduceCtorEq, reduceIte, Nat.reduceEqDiff, Nat.reduceAdd, Nat.reduceLeDiff, Nat.reduceMul, Int.reduceLT, Int.reduceLE, Int.reduceAdd, Int.reduceSub, Int.reduceMul, Int.reduceNeg, Int.reduceToNat, Int.reduceEq]) (by simp only [go_sem, reduceCtorEq, reduceIte, Nat.reduceEqDiff, Nat.reduceAdd, Nat.reduceLeDiff, Nat.reduceMul, Int.reduceLT, Int.reduceLE, Int.reduceAdd, Int.reduceSub, Int.reduceMul, Int.reduceNeg, Int.reduceToNat, Int.reduceEq]) (by simp only [go_sem, reduceCtorEq, reduceIte, Nat.reduceEqDiff, Nat.reduceAdd, Nat.reduceLeDiff, Nat.reduceMul, Int.reduceLT, Int.reduceLE, Int.reduceAdd, Int.reduceSub, Int.reduceMul, Int.reduceNeg, Int.reduceToNat, Int.reduceEq]) (by simp only [go_sem, reduceCtorEq, reduceIte, Nat.reduceEqDiff, Nat.reduceAdd, Nat.reduceLeDiff, Nat.reduceMul, Int.reduceLT, Int.reduceLE, Int.reduceAdd, Int.reduceSub, Int.reduceMul, Int.reduceNeg, Int.reduceToNat, Int.reduceEq]) (by simp only [go_sem, reduceCtorEq, reduceIte, Nat.reduceEqDiff, Nat.reduceAdd, Nat.reduceLeDiff, Nat.reduceMul, Int.reduceLT, Int.reduceLE, Int.reduceAdd, Int.reduceSub, Int.reduceMul, Int.reduceNeg, Int.reduceToNat, Int.reduceEq]) (by simp only [go_sem, reduceCtorEq, reduceIte, Nat.reduceEqDiff, Nat.reduceAdd, Nat.reduceLeDiff, Nat.reduceMul, Int.reduceLT, Int.reduceLE, Int.reduceAdd, Int.reduceSub, Int.reduceMul, Int.reduceNeg, Int.reduceToNat, Int.reduceEq]) (by simp only [go_sem, reduceCtorEq, reduceIte, Nat.reduceEqDiff, Nat.reduceAdd, Nat.reduceLeDiff, Nat.reduceMul, Int.reduceLT, Int.reduceLE, Int.reduceAdd, Int.reduceSub, Int.reduceMul, Int.reduceNeg, Int.reduceToNat, Int.reduceEq]) 1 (by simp only [go_sem, reduceCtorEq, reduceIte, Nat.reduceEqDiff, Nat.reduceAdd, Nat.reduceLeDiff, Nat.reduceMul, Int.reduceLT, Int.reduceLE, Int.reduceAdd, Int.reduceSub, Int.reduceMul, Int.reduceNeg, Int.reduceToNat, Int.reduceEq, h13]) (.inr ⟨fun q => wb (fit_iff.1 q).2.2.2.2.2, rfl⟩)
    simp only [go_sem, reduceCtorEq, reduceIte, Nat.reduceEqDiff, Nat.reduceAdd, Nat.reduceLeDiff, Nat.reduceMul, Int.reduceLT, Int.reduceLE, Int.reduceAdd, Int.reduceSub, Int.reduceMul, Int.reduceNeg, Int.reduceToNat, Int.reduceEq, s.h1, s.h3, s.h4, s.h5, s.h6, s.h7, s.h8, s.h9, s.h10, s.h11, h13, e2, wb]
    exact fin0 _ (by simp only [go_sem, reduceCtorEq, reduceIte, Nat.reduceEqDiff, Nat.reduceAdd, Nat.reduceLeDiff, Nat.reduceMul, Int.reduceLT, Int.reduceLE, Int.reduceAdd, Int.reduceSub, Int.reduceMul, Int.reduceNeg, Int.reduceToNat, Int.reduceEq]) (by simp only [go_sem, reduceCtorEq, reduceIte, Nat.reduceEqDiff, Nat.reduceAdd, Nat.reduceLeDiff, Nat.reduceMul, Int.reduceLT, Int.reduceLE, Int.reduceAdd, Int.reduceSub, Int.reduceMul, Int.reduceNeg, Int.reduceToNat, Int.reduceEq]) (by simp only [go_sem, reduceCtorEq, reduceIte, Nat.reduceEqDiff, Nat.reduceAdd, Nat.reduceLeDiff, Nat.reduceMul, Int.reduceLT, Int.reduceLE, Int.reduceAdd, Int.reduceSub, Int.reduceMul, Int.reduceNeg, Int.reduceToNat, Int.reduceEq]) (by simp only [go_sem, reduceCtorEq, reduceIte, Nat.reduceEqDiff, Nat.reduceAdd, Nat.reduceLeDiff, Nat.reduceMul, Int.reduceLT, Int.reduceLE, Int.reduceAdd, Int.reduceSub, Int.reduceMul, Int.reduceNeg, Int.reduceToNat, Int.reduceEq]) (by simp only [go_sem, reduceCtorEq, reduceIte, Nat.reduceEqDiff, Nat.reduceAdd, Nat.reduceLeDiff, Nat.reduceMul, Int.reduceLT, Int.reduceLE, Int.reduceAdd, Int.reduceSub, Int.reduceMul, Int.reduceNeg, Int.reduceToNat, Int.reduceEq]) (by simp only [go_sem, reduceCtorEq, reduceIte, Nat.reduceEqDiff, Nat.reduceAdd, Nat.reduceLeDiff, Nat.reduceMul, Int.reduceLT, Int.reduceLE, Int.reduceAdd, Int.reduceSub, Int.reduceMul, Int.reduceNeg, Int.reduceToNat, Int.reduceEq]) (by simp only [go_sem, reduceCtorEq, reduceIte, Nat.reduceEqDiff, Nat.reduceAdd, Nat.reduceLeDiff, Nat.reduceMul, Int.reduceLT, Int.reduceLE, Int.reduceAdd, Int.reduceSub, Int.reduceMul, Int.reduceNeg, Int.reduceToNat, Int.reduceEq]) (by simp only [go_sem, reduceCtorEq, reduceIte, Nat.reduceEqDiff, Nat.reduceAdd, Nat.reduceLeDiff, Nat.reduceMul, Int.reduceLT, Int.reduceLE, Int.reduceAdd, Int.reduceSub, Int.reduceMul, Int.reduceNeg, Int.reduceToNat, Int.reduceEq]) (by simp only [go_sem, reduceCtorEq, reduceIte, Nat.reduceEqDiff, Nat.reduceAdd, Nat.reduceLeDiff, Nat.reduceMul, Int.reduceLT, Int.reduceLE, Int.reduceAdd, Int.reduceSub, Int.reduceMul, Int.reduceNeg, Int.reduceToNat, Int.reduceEq]) (by simp only [go_sem, reduceCtorEq, reduceIte, Nat.reduceEqDiff, Nat.reduceAdd, Nat.reduceLeDiff, Nat.reduceMul, Int.reduceLT, Int.reduceLE, Int.reduceAdd, Int.reduceSub, Int.reduceMul, Int.reduceNeg, Int.reduceToNat, Int.reduceEq]) (by simp only [go_sem, reduceCtorEq, reduceIte, Nat.reduceEqDiff, Nat.reduceAdd, Nat.reduceLeDiff, Nat.reduceMul, Int.reduceLT, Int.reduceLE, Int.reduceAdd, Int.reduceSub, Int.reduceMul, Int.reduceNeg, Int.reduceToNat, Int.reduceEq]) 0 (by simp only [go_sem, reduceCtorEq, reduceIte, Nat.reduceEqDiff, Nat.reduceAdd, Nat.reduceLeDiff, Nat.reduceMul, Int.reduceLT, Int.reduceLE, Int.reduceAdd, Int.reduceSub, Int.reduceMul, Int.reduceNeg, Int.reduceToNat, Int.reduceEq]) (.inl ⟨fit_iff.2 ⟨kf, kt, ha, hb, wa, wb⟩, rfl⟩)
  clear h12 h13 b9 b10
  clear s
  rintro σ F M ⟨s, h12, h13⟩
  obtain rfl := s.ff
  have b9 := blk_M (F := fzOf W) s.f9
  have b10 := blk_M (F := fzOf W) s.f10
  have b11 := blk_M (F := fzOf W) s.f11
  have back : ∀ σ' M', Keep M M' → Old (fzOf W) M' → Ax.look σ' 1 = Ax.look σ 1 → Ax.look σ' 3 = Ax.look σ 3 → Ax.look σ' 4 = Ax.look σ 4 → Ax.look σ' 5 = Ax.look σ 5 → Ax.look σ' 6 = Ax.look σ 6 → Ax.look σ' 7 = Ax.look σ 7 → Ax.look σ' 8 = Ax.look σ 8 → kB (fzOf W) r [.slice aV lv.length cV, .slice aN ln.length cN] f t su sv U V' i k σ' (fzOf W) M' :=
    fun σ' M' kk oo e1 e3 e4 e5 e6 e7 e8 => ⟨(s.toD1.grow kk oo).ext e1 e3 e4 e5 e6, e7.trans s.h7, e8.trans s.h8⟩
  rcases h12 with ⟨hask, h12, p⟩ | ⟨hask, h12⟩
  rotate_left
  · rw [hask] at h13
    simp only [Bool.false_eq_true, if_false] at h13
    simp only [go_sem, reduceCtorEq, reduceIte, Nat.reduceEqDiff, Nat.reduceAdd, Nat.reduceLeDiff, Nat.reduceMul, Int.reduceLT, Int.reduceLE, Int.reduceAdd, Int.reduceSub, Int.reduceMul, Int.reduceNeg, Int.reduceToNat, Int.reduceEq, s.h1, s.h3, s.h4, s.h5, s.h6, s.h7, s.h8, s.h9, s.h10, s.h11, h12, h13]
    refine callK_same (k37 _ _ 1) ?_
    simp only [go_sem, reduceCtorEq, reduceIte, Nat.reduceEqDiff, Nat.reduceAdd, Nat.reduceLeDiff, Nat.reduceMul, Int.reduceLT, Int.reduceLE, Int.reduceAdd, Int.reduceSub, Int.reduceMul, Int.reduceNeg, Int.reduceToNat, Int.reduceEq, s.h1, s.h3, s.h4, s.h5, s.h6, s.h7, s.h8, s.h9, s.h10, s.h11, h12, h13]
    exact back _ _ (Keep.refl _) s.old (by simp only [go_sem, reduceCtorEq, reduceIte, Nat.reduceEqDiff, Nat.reduceAdd, Nat.reduceLeDiff, Nat.reduceMul, Int.reduceLT, Int.reduceLE, Int.reduceAdd, Int.reduceSub, Int.reduceMul, Int.reduceNeg, Int.reduceToNat, Int.reduceEq]) (by simp only [go_sem, reduceCtorEq, reduceIte, Nat.reduceEqDiff, Nat.reduceAdd, Nat.reduceLeDiff, Nat.reduceMul, Int.reduceLT, Int.reduceLE, Int.reduceAdd, Int.reduceSub, Int.reduceMul, Int.reduceNeg, Int.reduceToNat, Int.reduceEq]) (by simp only [go_sem, reduceCtorEq, reduceIte, Nat.reduceEqDiff, Nat.reduceAdd, Nat.reduceLeDiff, Nat.reduceMul, Int.reduceLT, Int.reduceLE, Int.reduceAdd, Int.reduceSub, Int.reduceMul, Int.reduceNeg, Int.reduceToNat, Int.reduceEq]) (by simp only [go_sem, reduceCtorEq, reduceIte, Nat.reduceEqDiff, Nat.reduceAdd, Nat.reduceLeDiff, Nat.reduceMul, Int.reduceLT, Int.reduceLE, Int.reduceAdd, Int.reduceSub, Int.reduceMul, Int.reduceNeg, Int.reduceToNat, Int.reduceEq]) (by simp only [go_sem, reduceCtorEq, reduceIte, Nat.reduceEqDiff, Nat.reduceAdd, Nat.reduceLeDiff, Nat.reduceMul, Int.reduceLT, Int.reduceLE, Int.reduceAdd, Int.reduceSub, Int.reduceMul, Int.reduceNeg, Int.reduceToNat, Int.reduceEq]) (by simp only [go_sem, reduceCtorEq, reduceIte, Nat.reduceEqDiff, Nat.reduceAdd, Nat.reduceLeDiff, Nat.reduceMul, Int.reduceLT, Int.reduceLE, Int.reduceAdd, Int.reduceSub, Int.reduceMul, Int.reduceNeg, Int.reduceToNat, Int.reduceEq]) (by simp only [go_sem, reduceCtorEq, reduceIte, Nat.reduceEqDiff, Nat.reduceAdd, Nat.reduceLeDiff, Nat.reduceMul, Int.reduceLT, Int.reduceLE, Int.reduceAdd, Int.reduceSub, Int.reduceMul, Int.reduceNeg, Int.reduceToNat, Int.reduceEq])
  rw [hask] at h13
  simp only [if_true] at h13
  obtain ⟨kf, kt, ha, hb, wa, wb⟩ := fit_iff.1 hask
  simp only [go_sem, reduceCtorEq, reduceIte, Nat.reduceEqDiff, Nat.reduceAdd, Nat.reduceLeDiff, Nat.reduceMul, Int.reduceLT, Int.reduceLE, Int.reduceAdd, Int.reduceSub, Int.reduceMul, Int.reduceNeg, Int.reduceToNat, Int.reduceEq, s.h1, s.h3, s.h4, s.h5, s.h6, s.h7, s.h8, s.h9, s.h10, s.h11, h12, h13]
  refine callK_same (k37 _ _ 0) ?_
  simp only [go_sem, reduceCtorEq, reduceIte, Nat.reduceEqDiff, Nat.reduceAdd, Nat.reduceLeDiff, Nat.reduceMul, Int.reduceLT, Int.reduceLE, Int.reduceAdd, Int.reduceSub, Int.reduceMul, Int.reduceNeg, Int.reduceToNat, Int.reduceEq, s.h1, s.h3, s.h4, s.h5, s.h6, s.h7, s.h8, s.h9, s.h10, s.h11, h12, h13, b9, b10, b11]
  refine callK_same (k36 _ _ x) ?_
  have xw := p.w
  simp only [go_sem, reduceCtorEq, reduceIte, Nat.reduceEqDiff, Nat.reduceAdd, Nat.reduceLeDiff, Nat.reduceMul, Int.reduceLT, Int.reduceLE, Int.reduceAdd, Int.reduceSub, Int.reduceMul, Int.reduceNeg, Int.reduceToNat, Int.reduceEq, s.h1, s.h3, s.h4, s.h5, s.h6, s.h7, s.h8, s.h9, s.h10, s.h11, h12, h13, b9, b10, b11, p.ok, xw, eq_self]
  refine callK_same (k38 _ _ x a i p.ok p.left) ?_
  have eik : IntKind.i64.wrap ((i : Int) + k) = i + k := w64 (by omega) (by omega)
  simp only [go_sem, reduceCtorEq, reduceIte, Nat.reduceEqDiff, Nat.reduceAdd, Nat.reduceLeDiff, Nat.reduceMul, Int.reduceLT, Int.reduceLE, Int.reduceAdd, Int.reduceSub, Int.reduceMul, Int.reduceNeg, Int.reduceToNat, Int.reduceEq, s.h1, s.h3, s.h4, s.h5, s.h6, s.h7, s.h8, s.h9, s.h10, s.h11, h12, h13, b9, b10, b11, eik]
  refine callK_of (k39_gen _ _ a (i + k) 20 6 10 (by decide) (by decide) (by decide) (by decide) (by decide) ha) ?_
  rintro sm G1 M10 hsm
  obtain ⟨hG1, le1, k1, o1, lm, hlm, hmm, rdm⟩ := some_row hsm s.old
  rw [hG1]
  refine ⟨fun _ => le1, ?_⟩
  have s1 := s.grow k1 o1
  have esm : ∃ ad cap, sm = .slice ad lm.length cap := by obtain ⟨_, ad, cap, e, _⟩ := rdm; exact ⟨ad, cap, e⟩
  simp only [go_sem, reduceCtorEq, reduceIte, Nat.reduceEqDiff, Nat.reduceAdd, Nat.reduceLeDiff, Nat.reduceMul, Int.reduceLT, Int.reduceLE, Int.reduceAdd, Int.reduceSub, Int.reduceMul, Int.reduceNeg, Int.reduceToNat, Int.reduceEq, s.h1, s.h3, s.h4, s.h5, s.h6, s.h7, s.h8, s.h9, s.h10, s.h11]
  refine loop_of (sI (fzOf W) r [.slice aV lv.length cV, .slice aN ln.length cN] f t su sv U V' i k r9 r10 r11 a b x sm lm) lm.length ?_ ?_
  · exact ⟨⟨s1.ext (by simp only [go_sem, reduceCtorEq, reduceIte, Nat.reduceEqDiff, Nat.reduceAdd, Nat.reduceLeDiff, Nat.reduceMul, Int.reduceLT, Int.reduceLE, Int.reduceAdd, Int.reduceSub, Int.reduceMul, Int.reduceNeg, Int.reduceToNat, Int.reduceEq]) (by simp only [go_sem, reduceCtorEq, reduceIte, Nat.reduceEqDiff, Nat.reduceAdd, Nat.reduceLeDiff, Nat.reduceMul, Int.reduceLT, Int.reduceLE, Int.reduceAdd, Int.reduceSub, Int.reduceMul, Int.reduceNeg, Int.reduceToNat, Int.reduceEq]) (by simp only [go_sem, reduceCtorEq, reduceIte, Nat.reduceEqDiff, Nat.reduceAdd, Nat.reduceLeDiff, Nat.reduceMul, Int.reduceLT, Int.reduceLE, Int.reduceAdd, Int.reduceSub, Int.reduceMul, Int.reduceNeg, Int.reduceToNat, Int.reduceEq]) (by simp only [go_sem, reduceCtorEq, reduceIte, Nat.reduceEqDiff, Nat.reduceAdd, Nat.reduceLeDiff, Nat.reduceMul, Int.reduceLT, Int.reduceLE, Int.reduceAdd, Int.reduceSub, Int.reduceMul, Int.reduceNeg, Int.reduceToNat, Int.reduceEq]) (by simp only [go_sem, reduceCtorEq, reduceIte, Nat.reduceEqDiff, Nat.reduceAdd, Nat.reduceLeDiff, Nat.reduceMul, Int.reduceLT, Int.reduceLE, Int.reduceAdd, Int.reduceSub, Int.reduceMul, Int.reduceNeg, Int.reduceToNat, Int.reduceEq]) (by simp only [go_sem, reduceCtorEq, reduceIte, Nat.reduceEqDiff, Nat.reduceAdd, Nat.reduceLeDiff, Nat.reduceMul, Int.reduceLT, Int.reduceLE, Int.reduceAdd, Int.reduceSub, Int.reduceMul, Int.reduceNeg, Int.reduceToNat, Int.reduceEq]) (by simp only [go_sem, reduceCtorEq, reduceIte, Nat.reduceEqDiff, Nat.reduceAdd, Nat.reduceLeDiff, Nat.reduceMul, Int.reduceLT, Int.reduceLE, Int.reduceAdd, Int.reduceSub, Int.reduceMul, Int.reduceNeg, Int.reduceToNat, Int.reduceEq]) (by simp only [go_sem, reduceCtorEq, reduceIte, Nat.reduceEqDiff, Nat.reduceAdd, Nat.reduceLeDiff, Nat.reduceMul, Int.reduceLT, Int.reduceLE, Int.reduceAdd, Int.reduceSub, Int.reduceMul, Int.reduceNeg, Int.reduceToNat, Int.reduceEq]) (by simp only [go_sem, reduceCtorEq, reduceIte, Nat.reduceEqDiff, Nat.reduceAdd, Nat.reduceLeDiff, Nat.reduceMul, Int.reduceLT, Int.reduceLE, Int.reduceAdd, Int.reduceSub, Int.reduceMul, Int.reduceNeg, Int.reduceToNat, Int.reduceEq]) (by simp only [go_sem, reduceCtorEq, reduceIte, Nat.reduceEqDiff, Nat.reduceAdd, Nat.reduceLeDiff, Nat.reduceMul, Int.reduceLT, Int.reduceLE, Int.reduceAdd, Int.reduceSub, Int.reduceMul, Int.reduceNeg, Int.reduceToNat, Int.reduceEq]), by simp only [go_sem, reduceCtorEq, reduceIte, Nat.reduceEqDiff, Nat.reduceAdd, Nat.reduceLeDiff, Nat.reduceMul, Int.reduceLT, Int.reduceLE, Int.reduceAdd, Int.reduceSub, Int.reduceMul, Int.reduceNeg, Int.reduceToNat, Int.reduceEq], rdm⟩, 0, by omega, by simp only [go_sem, reduceCtorEq, reduceIte, Nat.reduceEqDiff, Nat.reduceAdd, Nat.reduceLeDiff, Nat.reduceMul, Int.reduceLT, Int.reduceLE, Int.reduceAdd, Int.reduceSub, Int.reduceMul, Int.reduceNeg, Int.reduceToNat, Int.reduceEq] <;> rfl⟩
  clear back h12 h13 b9 b10 b11 s1 rdm k1 o1 le1 hG1 hsm
  clear s
  rintro ms σ F M ⟨s, j, hj, h15⟩
  obtain rfl := s.ff
  have h14 := s.h14
  obtain ⟨adm, capm, rfl⟩ := esm
  have b10 := blk_M (F := fzOf W) s.f10
  have b11 := blk_M (F := fzOf W) s.f11
  by_cases hjl : (j : Int) < lm.length
  rotate_left
  · simp only [go_sem, reduceCtorEq, reduceIte, Nat.reduceEqDiff, Nat.reduceAdd, Nat.reduceLeDiff, Nat.reduceMul, Int.reduceLT, Int.reduceLE, Int.reduceAdd, Int.reduceSub, Int.reduceMul, Int.reduceNeg, Int.reduceToNat, Int.reduceEq, s.h1, s.h3, s.h4, s.h5, s.h6, s.h7, s.h8, s.h9, s.h10, s.h11, h14, h15, hjl]
    exact ⟨s.toD1.ext (by simp only [go_sem, reduceCtorEq, reduceIte, Nat.reduceEqDiff, Nat.reduceAdd, Nat.reduceLeDiff, Nat.reduceMul, Int.reduceLT, Int.reduceLE, Int.reduceAdd, Int.reduceSub, Int.reduceMul, Int.reduceNeg, Int.reduceToNat, Int.reduceEq]) (by simp only [go_sem, reduceCtorEq, reduceIte, Nat.reduceEqDiff, Nat.reduceAdd, Nat.reduceLeDiff, Nat.reduceMul, Int.reduceLT, Int.reduceLE, Int.reduceAdd, Int.reduceSub, Int.reduceMul, Int.reduceNeg, Int.reduceToNat, Int.reduceEq]) (by simp only [go_sem, reduceCtorEq, reduceIte, Nat.reduceEqDiff, Nat.reduceAdd, Nat.reduceLeDiff, Nat.reduceMul, Int.reduceLT, Int.reduceLE, Int.reduceAdd, Int.reduceSub, Int.reduceMul, Int.reduceNeg, Int.reduceToNat, Int.reduceEq]) (by simp only [go_sem, reduceCtorEq, reduceIte, Nat.reduceEqDiff, Nat.reduceAdd, Nat.reduceLeDiff, Nat.reduceMul, Int.reduceLT, Int.reduceLE, Int.reduceAdd, Int.reduceSub, Int.reduceMul, Int.reduceNeg, Int.reduceToNat, Int.reduceEq]) (by simp only [go_sem, reduceCtorEq, reduceIte, Nat.reduceEqDiff, Nat.reduceAdd, Nat.reduceLeDiff, Nat.reduceMul, Int.reduceLT, Int.reduceLE, Int.reduceAdd, Int.reduceSub, Int.reduceMul, Int.reduceNeg, Int.reduceToNat, Int.reduceEq]), by simp only [go_sem, reduceCtorEq, reduceIte, Nat.reduceEqDiff, Nat.reduceAdd, Nat.reduceLeDiff, Nat.reduceMul, Int.reduceLT, Int.reduceLE, Int.reduceAdd, Int.reduceSub, Int.reduceMul, Int.reduceNeg, Int.reduceToNat, Int.reduceEq, s.h7], by simp only [go_sem, reduceCtorEq, reduceIte, Nat.reduceEqDiff, Nat.reduceAdd, Nat.reduceLeDiff, Nat.reduceMul, Int.reduceLT, Int.reduceLE, Int.reduceAdd, Int.reduceSub, Int.reduceMul, Int.reduceNeg, Int.reduceToNat, Int.reduceEq, s.h8]⟩
  have ej : IntKind.i64.wrap ((j : Int) + 1) = j + 1 := w64 (by omega) (by omega)
  have hj0 : (0 : Int) ≤ j := by omega
  have hj' : j < lm.length := by omega
  obtain ⟨_, _, _, em, hrm⟩ := s.rm
  cases em
  rcases hrm with h | ⟨gm, om, cm, rfl, bm, hcm⟩
  · rw [h] at hj'; simp at hj'
  have d1 := hcm j hj'
  obtain ⟨u1, u2, u3⟩ := hmm lm[j] (List.getElem_mem _)
  simp only [intV] at d1
  generalize lm[j] = pu at *
  have nxt : ∀ σ', Ax.look σ' 1 = Ax.look σ 1 → Ax.look σ' 3 = Ax.look σ 3 → Ax.look σ' 4 = Ax.look σ 4 → Ax.look σ' 5 = Ax.look σ 5 → Ax.look σ' 6 = Ax.look σ 6 → Ax.look σ' 7 = Ax.look σ 7 → Ax.look σ' 8 = Ax.look σ 8 → Ax.look σ' 9 = Ax.look σ 9 → Ax.look σ' 10 = Ax.look σ 10 → Ax.look σ' 11 = Ax.look σ 11 → Ax.look σ' 14 = Ax.look σ 14 → Ax.look σ' 15 = some (.int .i64 (j + 1)) →
      ∃ m, m < ms ∧ sI (fzOf W) r [.slice aV lv.length cV, .slice aN ln.length cN] f t su sv U V' i k r9 r10 r11 a b x (.slice (some ⟨gm, om, none⟩) lm.length capm) lm m σ' (fzOf W) M :=
    fun σ' e1 e3 e4 e5 e6 e7 e8 e9 e10 e11 e14 e15 => ⟨ms - 1, by omega, ⟨s.ext e1 e3 e4 e5 e6 e7 e8 e9 e10 e11, e14.trans s.h14, s.rm⟩, j + 1, by omega, e15⟩
  simp only [go_sem, reduceCtorEq, reduceIte, Nat.reduceEqDiff, Nat.reduceAdd, Nat.reduceLeDiff, Nat.reduceMul, Int.reduceLT, Int.reduceLE, Int.reduceAdd, Int.reduceSub, Int.reduceMul, Int.reduceNeg, Int.reduceToNat, Int.reduceEq, s.h1, s.h3, s.h4, s.h5, s.h6, s.h7, s.h8, s.h9, s.h10, s.h11, h14, h15, hjl, hj0, Int.toNat_natCast, Nat.mul_one, bm, d1, b10, b11]
  refine callK_same (k48 _ _ f t pu kt u1 (by rw [← wa]; exact u2)) ?_
  have eh : seenV f pu % 2 ^ (ofW t).toNat = turnV f t pu := rfl
  rw [eh]
  simp only [go_sem, reduceCtorEq, reduceIte, Nat.reduceEqDiff, Nat.reduceAdd, Nat.reduceLeDiff, Nat.reduceMul, Int.reduceLT, Int.reduceLE, Int.reduceAdd, Int.reduceSub, Int.reduceMul, Int.reduceNeg, Int.reduceToNat, Int.reduceEq, s.h1, s.h3, s.h4, s.h5, s.h6, s.h7, s.h8, s.h9, s.h10, s.h11, h14, h15, b10, b11]
  refine callK_same (k40 _ _ b _) ?_
  cases hh : b.has (turnV f t pu)
  · simp only [go_sem, reduceCtorEq, reduceIte, Nat.reduceEqDiff, Nat.reduceAdd, Nat.reduceLeDiff, Nat.reduceMul, Int.reduceLT, Int.reduceLE, Int.reduceAdd, Int.reduceSub, Int.reduceMul, Int.reduceNeg, Int.reduceToNat, Int.reduceEq, s.h1, s.h3, s.h4, s.h5, s.h6, s.h7, s.h8, s.h9, s.h10, s.h11, h14, h15, ej]
    exact nxt _ (by simp only [go_sem, reduceCtorEq, reduceIte, Nat.reduceEqDiff, Nat.reduceAdd, Nat.reduceLeDiff, Nat.reduceMul, Int.reduceLT, Int.reduceLE, Int.reduceAdd, Int.reduceSub, Int.reduceMul, Int.reduceNeg, Int.reduceToNat, Int.reduceEq]) (by simp only [go_sem, reduceCtorEq, reduceIte, Nat.reduceEqDiff, Nat.reduceAdd, Nat.reduceLeDiff, Nat.reduceMul, Int.reduceLT, Int.reduceLE, Int.reduceAdd, Int.reduceSub, Int.reduceMul, Int.reduceNeg, Int.reduceToNat, Int.reduceEq]) (by simp only [go_sem, reduceCtorEq, reduceIte, Nat.reduceEqDiff, Nat.reduceAdd, Nat.reduceLeDiff, Nat.reduceMul, Int.reduceLT, Int.reduceLE, Int.reduceAdd, Int.reduceSub, Int.reduceMul, Int.reduceNeg, Int.reduceToNat, Int.reduceEq]) (by simp only [go_sem, reduceCtorEq, reduceIte, Nat.reduceEqDiff, Nat.reduceAdd, Nat.reduceLeDiff, Nat.reduceMul, Int.reduceLT, Int.reduceLE, Int.reduceAdd, Int.reduceSub, Int.reduceMul, Int.reduceNeg, Int.reduceToNat, Int.reduceEq]) (by simp only [go_sem, reduceCtorEq, reduceIte, Nat.reduceEqDiff, Nat.reduceAdd, Nat.reduceLeDiff, Nat.reduceMul, Int.reduceLT, Int.reduceLE, Int.reduceAdd, Int.reduceSub, Int.reduceMul, Int.reduceNeg, Int.reduceToNat, Int.reduceEq]) (by simp only [go_sem, reduceCtorEq, reduceIte, Nat.reduceEqDiff, Nat.reduceAdd, Nat.reduceLeDiff, Nat.reduceMul, Int.reduceLT, Int.reduceLE, Int.reduceAdd, Int.reduceSub, Int.reduceMul, Int.reduceNeg, Int.reduceToNat, Int.reduceEq]) (by simp only [go_sem, reduceCtorEq, reduceIte, Nat.reduceEqDiff, Nat.reduceAdd, Nat.reduceLeDiff, Nat.reduceMul, Int.reduceLT, Int.reduceLE, Int.reduceAdd, Int.reduceSub, Int.reduceMul, Int.reduceNeg, Int.reduceToNat, Int.reduceEq]) (by simp only [go_sem, reduceCtorEq, reduceIte, Nat.reduceEqDiff, Nat.reduceAdd, Nat.reduceLeDiff, Nat.reduceMul, Int.reduceLT, Int.reduceLE, Int.reduceAdd, Int.reduceSub, Int.reduceMul, Int.reduceNeg, Int.reduceToNat, Int.reduceEq]) (by simp only [go_sem, reduceCtorEq, reduceIte, Nat.reduceEqDiff, Nat.reduceAdd, Nat.reduceLeDiff, Nat.reduceMul, Int.reduceLT, Int.reduceLE, Int.reduceAdd, Int.reduceSub, Int.reduceMul, Int.reduceNeg, Int.reduceToNat, Int.reduceEq]) (by simp only [go_sem, reduceCtorEq, reduceIte, Nat.reduceEqDiff, Nat.reduceAdd, Nat.reduceLeDiff, Nat.reduceMul, Int.reduceLT, Int.reduceLE, Int.reduceAdd, Int.reduceSub, Int.reduceMul, Int.reduceNeg, Int.reduceToNat, Int.reduceEq]) (by simp only [go_sem, reduceCtorEq, reduceIte, Nat.reduceEqDiff, Nat.reduceAdd, Nat.reduceLeDiff, Nat.reduceMul, Int.reduceLT, Int.reduceLE, Int.reduceAdd, Int.reduceSub, Int.reduceMul, Int.reduceNeg, Int.reduceToNat, Int.reduceEq]) (by simp only [go_sem, reduceCtorEq, reduceIte, Nat.reduceEqDiff, Nat.reduceAdd, Nat.reduceLeDiff, Nat.reduceMul, Int.reduceLT, Int.reduceLE, Int.reduceAdd, Int.reduceSub, Int.reduceMul, Int.reduceNeg, Int.reduceToNat, Int.reduceEq])
  · have hx := p.keep pu u1 u2 u3 hh
    simp only [go_sem, reduceCtorEq, reduceIte, Nat.reduceEqDiff, Nat.reduceAdd, Nat.reduceLeDiff, Nat.reduceMul, Int.reduceLT, Int.reduceLE, Int.reduceAdd, Int.reduceSub, Int.reduceMul, Int.reduceNeg, Int.reduceToNat, Int.reduceEq, s.h1, s.h3, s.h4, s.h5, s.h6, s.h7, s.h8, s.h9, s.h10, s.h11, h14, h15, hjl, hj0, Int.toNat_natCast, Nat.mul_one, bm, d1, b10, b11]
    refine callK_same (k40 _ _ x pu) ?_
    simp only [go_sem, reduceCtorEq, reduceIte, Nat.reduceEqDiff, Nat.reduceAdd, Nat.reduceLeDiff, Nat.reduceMul, Int.reduceLT, Int.reduceLE, Int.reduceAdd, Int.reduceSub, Int.reduceMul, Int.reduceNeg, Int.reduceToNat, Int.reduceEq, s.h1, s.h3, s.h4, s.h5, s.h6, s.h7, s.h8, s.h9, s.h10, s.h11, h14, h15, hx, ej]
    exact nxt _ (by simp only [go_sem, reduceCtorEq, reduceIte, Nat.reduceEqDiff, Nat.reduceAdd, Nat.reduceLeDiff, Nat.reduceMul, Int.reduceLT, Int.reduceLE, Int.reduceAdd, Int.reduceSub, Int.reduceMul, Int.reduceNeg, Int.reduceToNat, Int.reduceEq]) (by simp only [go_sem, reduceCtorEq, reduceIte, Nat.reduceEqDiff, Nat.reduceAdd, Nat.reduceLeDiff, Nat.reduceMul, Int.reduceLT, Int.reduceLE, Int.reduceAdd, Int.reduceSub, Int.reduceMul, Int.reduceNeg, Int.reduceToNat, Int.reduceEq]) (by simp only [go_sem, reduceCtorEq, reduceIte, Nat.reduceEqDiff, Nat.reduceAdd, Nat.reduceLeDiff, Nat.reduceMul, Int.reduceLT, Int.reduceLE, Int.reduceAdd, Int.reduceSub, Int.reduceMul, Int.reduceNeg, Int.reduceToNat, Int.reduceEq]) (by simp only [go_sem, reduceCtorEq, reduceIte, Nat.reduceEqDiff, Nat.reduceAdd, Nat.reduceLeDiff, Nat.reduceMul, Int.reduceLT, Int.reduceLE, Int.reduceAdd, Int.reduceSub, Int.reduceMul, Int.reduceNeg, Int.reduceToNat, Int.reduceEq]) (by simp only [go_sem, reduceCtorEq, reduceIte, Nat.reduceEqDiff, Nat.reduceAdd, Nat.reduceLeDiff, Nat.reduceMul, Int.reduceLT, Int.reduceLE, Int.reduceAdd, Int.reduceSub, Int.reduceMul, Int.reduceNeg, Int.reduceToNat, Int.reduceEq]) (by simp only [go_sem, reduceCtorEq, reduceIte, Nat.reduceEqDiff, Nat.reduceAdd, Nat.reduceLeDiff, Nat.reduceMul, Int.reduceLT, Int.reduceLE, Int.reduceAdd, Int.reduceSub, Int.reduceMul, Int.reduceNeg, Int.reduceToNat, Int.reduceEq]) (by simp only [go_sem, reduceCtorEq, reduceIte, Nat.reduceEqDiff, Nat.reduceAdd, Nat.reduceLeDiff, Nat.reduceMul, Int.reduceLT, Int.reduceLE, Int.reduceAdd, Int.reduceSub, Int.reduceMul, Int.reduceNeg, Int.reduceToNat, Int.reduceEq]) (by simp only [go_sem, reduceCtorEq, reduceIte, Nat.reduceEqDiff, Nat.reduceAdd, Nat.reduceLeDiff, Nat.reduceMul, Int.reduceLT, Int.reduceLE, Int.reduceAdd, Int.reduceSub, Int.reduceMul, Int.reduceNeg, Int.reduceToNat, Int.reduceEq]) (by simp only [go_sem, reduceCtorEq, reduceIte, Nat.reduceEqDiff, Nat.reduceAdd, Nat.reduceLeDiff, Nat.reduceMul, Int.reduceLT, Int.reduceLE, Int.reduceAdd, Int.reduceSub, Int.reduceMul, Int.reduceNeg, Int.reduceToNat, Int.reduceEq]) (by simp only [go_sem, reduceCtorEq, reduceIte, Nat.reduceEqDiff, Nat.reduceAdd, Nat.reduceLeDiff, Nat.reduceMul, Int.reduceLT, Int.reduceLE, Int.reduceAdd, Int.reduceSub, Int.reduceMul, Int.reduceNeg, Int.reduceToNat, Int.reduceEq]) (by simp only [go_sem, reduceCtorEq, reduceIte, Nat.reduceEqDiff, Nat.reduceAdd, Nat.reduceLeDiff, Nat.reduceMul, Int.reduceLT, Int.reduceLE, Int.reduceAdd, Int.reduceSub, Int.reduceMul, Int.reduceNeg, Int.reduceToNat, Int.reduceEq]) (by simp only [go_sem, reduceCtorEq, reduceIte, Nat.reduceEqDiff, Nat.reduceAdd, Nat.reduceLeDiff, Nat.reduceMul, Int.reduceLT, Int.reduceLE, Int.reduceAdd, Int.reduceSub, Int.reduceMul, Int.reduceNeg, Int.reduceToNat, Int.reduceEq])
end Go.Proofs.Ytmaclakgkllojaa.filterDown
