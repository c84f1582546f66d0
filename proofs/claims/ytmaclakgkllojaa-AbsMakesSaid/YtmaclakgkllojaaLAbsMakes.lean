/- The law AbsMakes, walked: it returns true at every input. -/
import Derived.Test.YtmaclakgkllojaaProg
import Derived.Test.YtmaclakgkllojaaK45to49
namespace Go.Proofs.Try.S
open Go Go.Ax Go.Ax.N
set_option maxRecDepth 100000

/-- cellar/cellarlaw15.AbsMakes -/
def c3 : SF := ⟨196, [.t 2], (.seq (.ops [k 1 (.bx 29 (t 0)),
 o 2 (.mv (b false))])
 (.seq (.seq (.ops [o 16 (.ld true 4 (t 1)),
 k 17 (.ca (.func 14) [(t 16)])])
 (.cond (t 17)
 (.seq (.ops [o 2 (.mv (b true))])
 .ret)
 .skip))
 (.seq (.ops [o 18 (.bd [.bool false, .int .i64 0, .int .i64 0, .int .i64 0] []),
 o 19 (.bd [.bool false, .int .i64 0, .int .i64 0, .int .i64 0] [(1, 1, (i 7))]),
 o 20 (.bd [.bool false, .int .i64 0, .int .i64 0, .int .i64 0] [(1, 1, (i 300))]),
 o 21 (.bd [.bool false, .int .i64 0, .int .i64 0, .int .i64 0] [(0, 1, (b true))]),
 o 22 (.bd [.bool false, .int .i64 0, .int .i64 0, .int .i64 0] [(0, 1, (b true)), (2, 1, (i 2)), (3, 1, (i 3))]),
 o 23 (.bd [.bool false, .int .i64 0, .int .i64 0, .int .i64 0] [(0, 1, (b true)), (2, 1, (i 20))]),
 o 24 (.bd [.bool false, .int .i64 0, .int .i64 0, .int .i64 0] [(0, 1, (b true)), (3, 1, (i 2))]),
 k 25 (.bs 32 7 [.bool false, .int .i64 0, .int .i64 0, .int .i64 0, .bool false, .int .i64 0, .int .i64 0, .int .i64 0, .bool false, .int .i64 0, .int .i64 0, .int .i64 0, .bool false, .int .i64 0, .int .i64 0, .int .i64 0, .bool false, .int .i64 0, .int .i64 0, .int .i64 0, .bool false, .int .i64 0, .int .i64 0, .int .i64 0, .bool false, .int .i64 0, .int .i64 0, .int .i64 0] [(0, 4, (t 18)), (4, 4, (t 19)), (8, 4, (t 20)), (12, 4, (t 21)), (16, 4, (t 22)), (20, 4, (t 23)), (24, 4, (t 24))]),
 o 26 (.fa 1 (t 1)),
 o 27 (.ld false 1 (t 26)),
 k 28 (.ap 32 4 32 (t 25) (t 27)),
 o 3 (.mv (t 28))])
 (.seq (.seq (.ops [o 4 (.mv (i 0))])
 (.block 0 (.loop (.seq (.seq (.ops [o 29 (.mv (t 4)),
 o 30 (.bin .leq (t 29) (i 11))])
 (.cond (t 30)
 .skip
 (.exit 0)))
 (.seq (.block 1 (.seq (.seq (.ops [o 5 (.mv (i 0))])
 (.block 2 (.loop (.seq (.seq (.ops [o 33 (.mv (t 5)),
 o 34 (.mv (t 3)),
 o 35 (.ln (t 34)),
 o 36 (.bin .lss (t 33) (t 35)),
 o 37 (.mv (t 36)),
 og 38 37 true (.mv (t 5)),
 og 39 37 true (.bin .lss (t 38) (i 12)),
 o 40 (.pick (t 37) (t 39) (b false))])
 (.cond (t 40)
 .skip
 (.exit 2)))
 (.seq (.block 3 (.seq (.ops [o 44 (.mv (t 4)),
 o 45 (.mv (t 3)),
 o 46 (.mv (t 5)),
 o 47 (.ia 4 (t 45) (t 46)),
 o 48 (.ld true 4 (t 47)),
 k 49 (.ca (.func 15) [(t 44), (t 48)]),
 o 43 (.mv (t 49)),
 o 50 (.ex (t 43) 0),
 o 51 (.ex (t 43) 1),
 k 6 (.al 37 [.int .i64 0, .bool false, .int .i64 0, .int .i64 0, .int .i64 0, .int .i64 0, .slice none 0 0]),
 kn (.st [] 7 (t 6) (t 50)),
 o 7 (.mv (t 51))])
 (.seq (.seq (.ops [o 52 (.mv (t 4)),
 o 53 (.mv (t 3)),
 o 54 (.mv (t 5)),
 o 55 (.ia 4 (t 53) (t 54)),
 o 56 (.ld true 4 (t 55)),
 k 57 (.ca (.func 16) [(t 52), (t 56)]),
 o 58 (.mv (t 7)),
 k 59 (.ca (.func 17) [(t 58)]),
 o 60 (.bin .eql (t 59) (i 0)),
 o 61 (.eqb true (t 57) (t 60)),
 o 62 (.mv (t 61)),
 og 63 62 false (.mv (t 7)),
 ⟨some 64, some (62, false), .ca (.func 17) [(t 63)]⟩,
 og 65 62 false (.bin .neq (t 64) (i 0)),
 og 66 62 false (.mv (t 65)),
 og 67 66 true (.mv (t 7)),
 ⟨some 68, some (66, true), .ca (.func 17) [(t 67)]⟩,
 og 69 66 true (.bin .neq (t 68) (i 1)),
 og 70 62 false (.pick (t 66) (t 69) (b false)),
 o 71 (.pick (t 62) (b true) (t 70))])
 (.cond (t 71)
 (.seq (.ops [o 2 (.mv (b false))])
 .ret)
 .skip))
 (.seq (.seq (.ops [o 72 (.mv (t 7)),
 k 73 (.ca (.func 17) [(t 72)]),
 o 74 (.bin .neq (t 73) (i 0))])
 (.cond (t 74)
 (.exit 3)
 .skip))
 (.seq (.ops [o 76 (.mv (t 4)),
 o 77 (.ld true 7 (t 6)),
 k 78 (.ca (.func 18) [(t 76), (t 77)]),
 o 75 (.mv (t 78)),
 o 79 (.ex (t 75) 0),
 o 80 (.ex (t 75) 1),
 k 8 (.al 32 [.bool false, .int .i64 0, .int .i64 0, .int .i64 0]),
 kn (.st [] 4 (t 8) (t 79)),
 o 9 (.mv (t 80))])
 (.seq (.opq [o 81 (.mv (t 4)),
 o 82 (.ld true 7 (t 6)),
 k 83 (.ca (.func 19) [(t 81), (t 82)]),
 o 84 (.un .not (t 83)),
 o 85 (.mv (t 84)),
 og 86 85 false (.mv (t 9)),
 og 87 85 false (.un .not (t 86)),
 o 88 (.pick (t 85) (b true) (t 87)),
 o 89 (.mv (t 88)),
 og 90 89 false (.ld true 4 (t 8)),
 og 91 89 false (.mv (t 3)),
 og 92 89 false (.mv (t 5)),
 og 93 89 false (.ia 4 (t 91) (t 92)),
 og 94 89 false (.ld true 4 (t 93)),
 og 95 89 false (.eqs (.st [(false, 0, 1, .b), (false, 1, 1, .i), (false, 2, 1, .i), (false, 3, 1, .i)]) true (t 90) (t 94)),
 o 96 (.pick (t 89) (b true) (t 95))])
 (.cond (t 96)
 (.seq (.ops [o 2 (.mv (b false))])
 .ret)
 .skip)))))))
 (.ops [o 41 (.mv (t 5)),
 o 42 (.bin .add (t 41) (i 1)),
 o 5 (.mv (t 42))]))))))
 (.seq (.ops [o 10 (.mv (i (-1)))])
 (.block 4 (.loop (.seq (.seq (.ops [o 97 (.mv (t 10)),
 o 98 (.bin .leq (t 97) (i 7))])
 (.cond (t 98)
 .skip
 (.exit 4)))
 (.seq (.block 5 (.seq (.ops [o 102 (.mv (t 4)),
 o 103 (.mv (t 10)),
 k 104 (.ca (.func 20) [(t 102), (t 103)]),
 o 101 (.mv (t 104)),
 o 105 (.ex (t 101) 0),
 o 106 (.ex (t 101) 1),
 k 11 (.al 37 [.int .i64 0, .bool false, .int .i64 0, .int .i64 0, .int .i64 0, .int .i64 0, .slice none 0 0]),
 kn (.st [] 7 (t 11) (t 105)),
 o 12 (.mv (t 106))])
 (.seq (.seq (.ops [o 107 (.mv (t 4)),
 k 108 (.ca (.func 21) [(t 107)]),
 o 109 (.mv (t 108)),
 og 110 109 true (.mv (t 10)),
 ⟨some 111, some (109, true), .ca (.func 22) [(t 110), (i 6)]⟩,
 o 112 (.pick (t 109) (t 111) (b false)),
 o 113 (.mv (t 12)),
 k 114 (.ca (.func 17) [(t 113)]),
 o 115 (.bin .eql (t 114) (i 0)),
 o 116 (.eqb true (t 112) (t 115)),
 o 117 (.mv (t 116)),
 og 118 117 false (.mv (t 12)),
 ⟨some 119, some (117, false), .ca (.func 17) [(t 118)]⟩,
 og 120 117 false (.bin .neq (t 119) (i 0)),
 og 121 117 false (.mv (t 120)),
 og 122 121 true (.mv (t 12)),
 ⟨some 123, some (121, true), .ca (.func 17) [(t 122)]⟩,
 og 124 121 true (.bin .neq (t 123) (i 1)),
 og 125 117 false (.pick (t 121) (t 124) (b false)),
 o 126 (.pick (t 117) (b true) (t 125))])
 (.cond (t 126)
 (.seq (.ops [o 2 (.mv (b false))])
 .ret)
 .skip))
 (.seq (.seq (.ops [o 127 (.mv (t 12)),
 k 128 (.ca (.func 17) [(t 127)]),
 o 129 (.bin .neq (t 128) (i 0))])
 (.cond (t 129)
 (.exit 5)
 .skip))
 (.seq (.seq (.ops [o 130 (.mv (t 4)),
 o 131 (.ld true 7 (t 11)),
 k 132 (.ca (.func 19) [(t 130), (t 131)]),
 o 133 (.un .not (t 132))])
 (.cond (t 133)
 (.seq (.ops [o 2 (.mv (b false))])
 .ret)
 .skip))
 (.seq (.seq (.ops [o 13 (.mv (i 0))])
 (.block 6 (.loop (.seq (.seq (.ops [o 134 (.mv (t 13)),
 o 135 (.mv (t 3)),
 o 136 (.ln (t 135)),
 o 137 (.bin .lss (t 134) (t 136)),
 o 138 (.mv (t 137)),
 og 139 138 true (.mv (t 13)),
 og 140 138 true (.bin .lss (t 139) (i 12)),
 o 141 (.pick (t 138) (t 140) (b false))])
 (.cond (t 141)
 .skip
 (.exit 6)))
 (.seq (.block 7 (.seq (.opd [o 144 (.mv (t 4)),
 o 145 (.mv (t 3)),
 o 146 (.mv (t 13)),
 o 147 (.ia 4 (t 145) (t 146)),
 o 148 (.ld true 4 (t 147)),
 k 149 (.ca (.func 16) [(t 144), (t 148)]),
 o 150 (.mv (t 149)),
 og 151 150 true (.mv (t 4)),
 og 152 150 true (.ld true 7 (t 11)),
 og 153 150 true (.mv (t 3)),
 og 154 150 true (.mv (t 13)),
 og 155 150 true (.ia 4 (t 153) (t 154)),
 og 156 150 true (.ld true 4 (t 155)),
 og 158 150 true (.mv (t 3)),
 og 159 150 true (.mv (t 13)),
 og 160 150 true (.ia 4 (t 158) (t 159)),
 og 161 150 true (.fa 2 (t 160)),
 og 162 150 true (.ld false 1 (t 161)),
 og 163 150 true (.mv (t 10)),
 og 164 150 true (.bin .leq (t 162) (t 163)),
 ⟨some 157, some (150, true), .ca (.func 23) [(t 151), (t 152), (t 156)]⟩,
 og 165 150 true (.eqb true (t 157) (t 164)),
 o 166 (.pick (t 150) (t 165) (b false))])
 (.cond (t 166)
 (.seq (.ops [o 2 (.mv (b false))])
 .ret)
 .skip)))
 (.ops [o 142 (.mv (t 13)),
 o 143 (.bin .add (t 142) (i 1)),
 o 13 (.mv (t 143))]))))))
 (.seq (.ops [o 14 (.mv (i 0))])
 (.block 8 (.loop (.seq (.seq (.ops [o 167 (.mv (t 14)),
 o 168 (.mv (t 10)),
 o 169 (.bin .leq (t 167) (t 168)),
 o 170 (.mv (t 169)),
 og 171 170 true (.mv (t 4)),
 og 172 170 true (.bin .eql (t 171) (i 7)),
 o 173 (.pick (t 170) (t 172) (b false))])
 (.cond (t 173)
 .skip
 (.exit 8)))
 (.seq (.block 9 (.seq (.ops [o 15 (.mv (i 0))])
 (.block 10 (.loop (.seq (.seq (.ops [o 176 (.mv (t 15)),
 o 177 (.bin .leq (t 176) (i 32)),
 o 178 (.mv (t 177)),
 og 179 178 true (.mv (t 14)),
 og 180 178 true (.bin .gtr (t 179) (i 0)),
 og 181 178 true (.mv (t 180)),
 og 182 181 false (.mv (t 15)),
 og 183 181 false (.bin .eql (t 182) (i 0)),
 og 184 178 true (.pick (t 181) (b true) (t 183)),
 o 185 (.pick (t 178) (t 184) (b false))])
 (.cond (t 185)
 .skip
 (.exit 10)))
 (.seq (.block 11 (.seq (.ops [o 188 (.mv (t 4)),
 o 189 (.ld true 7 (t 11)),
 o 190 (.mv (t 14)),
 o 191 (.mv (t 15)),
 o 192 (.bd [.bool false, .int .i64 0, .int .i64 0, .int .i64 0] [(0, 1, (b true)), (2, 1, (t 190)), (3, 1, (t 191))]),
 k 193 (.ca (.func 23) [(t 188), (t 189), (t 192)]),
 o 194 (.un .not (t 193))])
 (.cond (t 194)
 (.seq (.ops [o 2 (.mv (b false))])
 .ret)
 .skip)))
 (.ops [o 186 (.mv (t 15)),
 o 187 (.bin .add (t 186) (i 1)),
 o 15 (.mv (t 187))])))))))
 (.ops [o 174 (.mv (t 14)),
 o 175 (.bin .add (t 174) (i 1)),
 o 14 (.mv (t 175))]))))))))))))
 (.ops [o 99 (.mv (t 10)),
 o 100 (.bin .add (t 99) (i 1)),
 o 10 (.mv (t 100))]))))))))
 (.ops [o 31 (.mv (t 4)),
 o 32 (.bin .add (t 31) (i 1)),
 o 4 (.mv (t 32))]))))))
 (.seq (.ops [k 195 (.ca (.func 24) []),
 o 2 (.mv (t 195))])
 .ret)))))⟩
theorem e3 : slimF Try.prog Try.f3 [[(0, []), (1, []), (2, []), (3, []), (4, []), (5, []), (6, []), (7, []), (8, []), (9, []), (10, []), (11, []), (12, []), (13, []), (14, []), (15, [])], [(0, []), (1, []), (2, []), (3, []), (4, []), (5, []), (6, []), (7, []), (8, []), (9, []), (10, []), (11, []), (12, []), (14, []), (15, []), (16, []), (17, []), (18, []), (19, []), (20, []), (13, []), (21, []), (22, [])]] = some c3 := by kernel_rfl
end Go.Proofs.Try.S
namespace Go.Proofs.Ytmaclakgkllojaa.absMakes
open Go Go.Ax Go.Proofs.Try.S Go.Proofs.Try.K
set_option maxRecDepth 100000
set_option linter.unusedSimpArgs false
set_option linter.unusedVariables false
set_option maxHeartbeats 4000000

structure Q0 (F0 : Fz) (su : Value) (L : List Sc) (σ : Env) (F : Fz) (M : Hp) : Prop where
  ff : F = F0
  old : Old F0 M
  h3 : Ax.look σ 3 = some su
  rd : RdG 4 Sc.cs F0 M su L
structure Q1 (F0 : Fz) (su : Value) (L : List Sc) (k : Nat) (σ : Env) (F : Fz) (M : Hp) : Prop extends Q0 F0 su L σ F M where
  h4 : Ax.look σ 4 = some (.int .i64 k)
section
variable {F0 : Fz} {su : Value} {L : List Sc} {k : Nat} {σ σ' : Env} {F : Fz} {M M' : Hp}
theorem Q0.ext (s : Q0 F0 su L σ F M) (e3 : Ax.look σ' 3 = Ax.look σ 3) : Q0 F0 su L σ' F M := ⟨s.ff, s.old, e3.trans s.h3, s.rd⟩
theorem Q0.grow (s : Q0 F0 su L σ F M) (kp : Keep M M') (o : Old F0 M') : Q0 F0 su L σ F M' := ⟨s.ff, o, s.h3, s.rd.keep kp o⟩
theorem Q1.ext (s : Q1 F0 su L k σ F M) (e3 : Ax.look σ' 3 = Ax.look σ 3) (e4 : Ax.look σ' 4 = Ax.look σ 4) : Q1 F0 su L k σ' F M := ⟨s.toQ0.ext e3, e4.trans s.h4⟩
theorem Q1.grow (s : Q1 F0 su L k σ F M) (kp : Keep M M') (o : Old F0 M') : Q1 F0 su L k σ F M' := ⟨s.toQ0.grow kp o, s.h4⟩
end
def kI (F0 : Fz) (su : Value) (L : List Sc) (m : Nat) (σ : Env) (F : Fz) (M : Hp) : Prop := ∃ k : Nat, Q1 F0 su L k σ F M ∧ k + m = 12
def jI (F0 : Fz) (su : Value) (L : List Sc) (k : Nat) (m : Nat) (σ : Env) (F : Fz) (M : Hp) : Prop := Q1 F0 su L k σ F M ∧ ∃ j : Nat, j + m = L.length ∧ Ax.look σ 5 = some (.int .i64 j)
def jB (F0 : Fz) (su : Value) (L : List Sc) (k j : Nat) (σ : Env) (F : Fz) (M : Hp) : Prop := Q1 F0 su L k σ F M ∧ Ax.look σ 5 = some (.int .i64 j)
def J1 (F0 : Fz) (su : Value) (L : List Sc) (k j : Nat) (s : Sc) (σ : Env) (F : Fz) (M : Hp) : Prop :=
  Q1 F0 su L k σ F M ∧ Ax.look σ 5 = some (.int .i64 j) ∧ ∃ (r6 : Nat) (a : Option Addr) (n c : Nat) (v : V), Ax.look σ 6 = some (.pointer (some ⟨r6, 0, none⟩)) ∧ M r6 = some ⟨abCs v (.slice a n c), 37, 7⟩ ∧
    ((sc6B k s = true ∧ Ax.look σ 7 = some (.int .i64 0) ∧ v = oneV k s ∧ RdG 7 Ba.cs F0 M (.slice a n c) (oneL k s)) ∨ (sc6B k s = false ∧ Ax.look σ 7 = some (.int .i64 1)))
def nI (F0 : Fz) (su : Value) (L : List Sc) (k : Nat) (m : Nat) (σ : Env) (F : Fz) (M : Hp) : Prop := Q1 F0 su L k σ F M ∧ ∃ n : Int, n + m = 8 ∧ -1 ≤ n ∧ Ax.look σ 10 = some (.int .i64 n)
def nB (F0 : Fz) (su : Value) (L : List Sc) (k : Nat) (n : Int) (σ : Env) (F : Fz) (M : Hp) : Prop := Q1 F0 su L k σ F M ∧ Ax.look σ 10 = some (.int .i64 n)
def J2 (F0 : Fz) (su : Value) (L : List Sc) (k : Nat) (n : Int) (σ : Env) (F : Fz) (M : Hp) : Prop :=
  Q1 F0 su L k σ F M ∧ Ax.look σ 10 = some (.int .i64 n) ∧ ∃ (r11 : Nat) (a : Option Addr) (q c : Nat) (v : V), Ax.look σ 11 = some (.pointer (some ⟨r11, 0, none⟩)) ∧ M r11 = some ⟨abCs v (.slice a q c), 37, 7⟩ ∧
    (((isS k && (decide (0 ≤ n) && decide (n ≤ 6))) = true ∧ Ax.look σ 12 = some (.int .i64 0) ∧ v = allV k ∧ RdG 7 Ba.cs F0 M (.slice a q c) (allL k n.toNat)) ∨ ((isS k && (decide (0 ≤ n) && decide (n ≤ 6))) = false ∧ Ax.look σ 12 = some (.int .i64 1)))
structure Q2 (F0 : Fz) (su : Value) (L : List Sc) (k n r11 : Nat) (a : Option Addr) (q c : Nat) (σ : Env) (F : Fz) (M : Hp) : Prop extends Q1 F0 su L k σ F M where
  h10 : Ax.look σ 10 = some (.int .i64 n)
  h11 : Ax.look σ 11 = some (.pointer (some ⟨r11, 0, none⟩))
  f11 : M r11 = some ⟨abCs (allV k) (.slice a q c), 37, 7⟩
  rda : RdG 7 Ba.cs F0 M (.slice a q c) (allL k n)
theorem Q2.ext {F0 : Fz} {su : Value} {L : List Sc} {k n r11 : Nat} {a : Option Addr} {q c : Nat} {σ σ' : Env} {F : Fz} {M : Hp} (s : Q2 F0 su L k n r11 a q c σ F M) (e3 : Ax.look σ' 3 = Ax.look σ 3) (e4 : Ax.look σ' 4 = Ax.look σ 4) (e10 : Ax.look σ' 10 = Ax.look σ 10) (e11 : Ax.look σ' 11 = Ax.look σ 11) : Q2 F0 su L k n r11 a q c σ' F M :=
  ⟨s.toQ1.ext e3 e4, e10.trans s.h10, e11.trans s.h11, s.f11, s.rda⟩
def QA (F0 : Fz) (su : Value) (L : List Sc) (k n r11 : Nat) (a : Option Addr) (q c : Nat) (σ : Env) (F : Fz) (M : Hp) : Prop := Q2 F0 su L k n r11 a q c σ F M ∧ Ax.look σ 12 = some (.int .i64 0)
def vI (F0 : Fz) (su : Value) (L : List Sc) (k n r11 : Nat) (a : Option Addr) (q c : Nat) (m : Nat) (σ : Env) (F : Fz) (M : Hp) : Prop := Q2 F0 su L k n r11 a q c σ F M ∧ ∃ j : Nat, j + m = L.length ∧ Ax.look σ 13 = some (.int .i64 j)
def vB (F0 : Fz) (su : Value) (L : List Sc) (k n r11 : Nat) (a : Option Addr) (q c : Nat) (j : Nat) (σ : Env) (F : Fz) (M : Hp) : Prop := Q2 F0 su L k n r11 a q c σ F M ∧ Ax.look σ 13 = some (.int .i64 j)
def bI (F0 : Fz) (su : Value) (L : List Sc) (k n r11 : Nat) (a : Option Addr) (q c : Nat) (m : Nat) (σ : Env) (F : Fz) (M : Hp) : Prop := Q2 F0 su L k n r11 a q c σ F M ∧ ∃ b : Nat, b + m = n + 1 ∧ Ax.look σ 14 = some (.int .i64 b)
def bB (F0 : Fz) (su : Value) (L : List Sc) (k n r11 : Nat) (a : Option Addr) (q c : Nat) (b : Nat) (σ : Env) (F : Fz) (M : Hp) : Prop := Q2 F0 su L k n r11 a q c σ F M ∧ Ax.look σ 14 = some (.int .i64 b)
def oI (F0 : Fz) (su : Value) (L : List Sc) (k n r11 : Nat) (a : Option Addr) (q c : Nat) (b : Nat) (m : Nat) (σ : Env) (F : Fz) (M : Hp) : Prop := Q2 F0 su L k n r11 a q c σ F M ∧ Ax.look σ 14 = some (.int .i64 b) ∧ ∃ o : Nat, o + m = 33 ∧ Ax.look σ 15 = some (.int .i64 o)
/-- A scalar of the row. -/
theorem sc_at {F : Fz} {M : Hp} {su : Value} {L : List Sc} (h : RdG 4 Sc.cs F M su L) {j : Nat} (hj : j < L.length) : ∃ b o cap cs, su = .slice (some ⟨b, o, none⟩) L.length cap ∧ blk F M b = some cs ∧ o + j * 4 + 4 ≤ cs.length ∧ (cs.drop (o + j * 4)).take 4 = L[j].cs ∧ cs[o + j * 4 + 2]? = some (.int .i64 L[j].b) := by
  obtain ⟨_, ad, cap, _, rfl, h⟩ := h
  rcases h with h | ⟨b, o, cs, rfl, hb, hc⟩
  · rw [h] at hj; simp at hj
  · exact ⟨b, o, cap, cs, rfl, hb, (hc j hj).1, (hc j hj).2, sc_row (hc j hj).1 (hc j hj).2⟩

theorem call (W : World) (cs : List Value) (h : Rd (fzOf W) shAsk15 cs) :
  CallsA Try.prog 3 [.agg cs.toArray] (fzOf W) noHp fun r _ _ => r = .bool true := by
  obtain ⟨vX, vS, vV, vN, rfl, hX, hS, hV, hN⟩ := rd_ask15 h
  obtain ⟨aX, cX, lX, rfl, hlX, hrX, hXr⟩ := rd_Xs hX
  obtain ⟨aS, cS, lS, rfl, hlS, hSr⟩ := rd_Ss hS
  have hS0 := rd_slice0 hS
  obtain ⟨aV, cV, lv, rfl, hlV, _, hlen, _, hcV⟩ := rd_Vs hV
  obtain ⟨aN, cN, ln, rfl, hl, hmx, hs, hin, h0, hc⟩ := rd_ints hN
  refine callsA_of hm Try.func3 e3 (Nat.le_of_ble_eq_true rfl) ?_
  have rS : ∀ M, Old (fzOf W) M → RdG 4 Sc.cs (fzOf W) M (.slice aS lS.length cS) lS := fun M old => hSr _ _ fun b c hb => old.blk hb
  have rX : ∀ M, Old (fzOf W) M → RdG 7 Ab.cs (fzOf W) M (.slice aX lX.length cX) lX := fun M old => hXr _ _ fun b c hb => old.blk hb
  have hXn : ∀ x ∈ lX, x.n ≤ 140737488351232 := fun x hx => by
    obtain ⟨l, h1, h2, _⟩ := hrX x hx
    omega
  simp only [c3, go_sem, reduceCtorEq, reduceIte, Nat.reduceEqDiff, Nat.reduceAdd, Nat.reduceLeDiff, Nat.reduceMul, Int.reduceLT, Int.reduceLE, Int.reduceAdd, Int.reduceSub, Int.reduceMul, Int.reduceNeg, Int.reduceToNat, Int.reduceEq]
  intro r hF hM
  have old1 := (Old.start (fzOf W)).upd (e := ⟨[.slice aX lX.length cX, .slice aS lS.length cS, .slice aV lv.length cV, .slice aN ln.length cN], 29, 4⟩) hF
  simp only [go_sem, reduceCtorEq, reduceIte, Nat.reduceEqDiff, Nat.reduceAdd, Nat.reduceLeDiff, Nat.reduceMul, Int.reduceLT, Int.reduceLE, Int.reduceAdd, Int.reduceSub, Int.reduceMul, Int.reduceNeg, Int.reduceToNat, Int.reduceEq]
  refine callK_of (k14 _ _ lX _ aS aV aN lS.length cS lv.length cV ln.length cN (rX _ old1) hlX hXn hlS) ?_
  rintro u G M2 ⟨hG, hM2, b, rfl, hb⟩
  rw [hG, hM2]
  refine ⟨fun _ => Le.refl _ _, ?_⟩
  cases b
  rotate_left
  · simp only [go_sem, reduceCtorEq, reduceIte, Nat.reduceEqDiff, Nat.reduceAdd, Nat.reduceLeDiff, Nat.reduceMul, Int.reduceLT, Int.reduceLE, Int.reduceAdd, Int.reduceSub, Int.reduceMul, Int.reduceNeg, Int.reduceToNat, Int.reduceEq]
    exact endK_same rfl
  obtain ⟨-, hS4, -, -⟩ := hb rfl
  simp only [go_sem, reduceCtorEq, reduceIte, Nat.reduceEqDiff, Nat.reduceAdd, Nat.reduceLeDiff, Nat.reduceMul, Int.reduceLT, Int.reduceLE, Int.reduceAdd, Int.reduceSub, Int.reduceMul, Int.reduceNeg, Int.reduceToNat, Int.reduceEq]
  simp only [go_sem, reduceCtorEq, reduceIte, Nat.reduceEqDiff, Nat.reduceAdd, Nat.reduceLeDiff, Nat.reduceMul, Int.reduceLT, Int.reduceLE, Int.reduceAdd, Int.reduceSub, Int.reduceMul, Int.reduceNeg, Int.reduceToNat, Int.reduceEq, List.append_assoc, Sc.drop_app, Sc.take_app]
  intro g hFg hMg
  have gg := fresh_of hMg
  simp only [go_sem, reduceCtorEq, reduceIte, Nat.reduceEqDiff, Nat.reduceAdd, Nat.reduceLeDiff, Nat.reduceMul, Int.reduceLT, Int.reduceLE, Int.reduceAdd, Int.reduceSub, Int.reduceMul, Int.reduceNeg, Int.reduceToNat, Int.reduceEq, gg]
  have old2 : Old (fzOf W) ((noHp.upd r ⟨[.slice aX lX.length cX, .slice aS lS.length cS, .slice aV lv.length cV, .slice aN ln.length cN], 29, 4⟩).upd g ⟨(Sc.mk false 0 0 0).cs ++ ((Sc.mk false 7 0 0).cs ++ ((Sc.mk false 300 0 0).cs ++ ((Sc.mk true 0 0 0).cs ++ ((Sc.mk true 0 2 3).cs ++ ((Sc.mk true 0 20 0).cs ++ (Sc.mk true 0 0 2).cs))))), 32, 28⟩) := old1.upd hFg
  have f2 : ((noHp.upd r ⟨[.slice aX lX.length cX, .slice aS lS.length cS, .slice aV lv.length cV, .slice aN ln.length cN], 29, 4⟩).upd g ⟨(Sc.mk false 0 0 0).cs ++ ((Sc.mk false 7 0 0).cs ++ ((Sc.mk false 300 0 0).cs ++ ((Sc.mk true 0 0 0).cs ++ ((Sc.mk true 0 2 3).cs ++ ((Sc.mk true 0 20 0).cs ++ (Sc.mk true 0 0 2).cs))))), 32, 28⟩) g = some ⟨seven.flatMap Sc.cs, 32, 7 * 4⟩ := Hp.upd_same _ _ _
  generalize (noHp.upd r ⟨[.slice aX lX.length cX, .slice aS lS.length cS, .slice aV lv.length cV, .slice aN ln.length cN], 29, 4⟩).upd g ⟨(Sc.mk false 0 0 0).cs ++ ((Sc.mk false 7 0 0).cs ++ ((Sc.mk false 300 0 0).cs ++ ((Sc.mk true 0 0 0).cs ++ ((Sc.mk true 0 2 3).cs ++ ((Sc.mk true 0 20 0).cs ++ (Sc.mk true 0 0 2).cs))))), 32, 28⟩ = M2a at *
  refine apG_any (xs := seven) (ys := lS) (fun x => rfl) Sc.plain (by decide) (.inr ⟨g, 7, rfl, hFg, f2, by decide, by decide⟩) (RdG.src (fun x => rfl) (rS _ old2) hS0) (by decide) (by simp [seven]; omega) ?_
  rintro g' cap M3 hgo hF' hM3 own
  have old3 : Old (fzOf W) M3 := by rw [hM3]; exact old2.upd hF'
  have hL7 : (seven ++ lS).length ≤ 407 := by simp [seven]; omega
  have rd3 := own.rd (f := Sc.cs) (fun x => rfl) (by omega)
  generalize seven ++ lS = L at *
  clear own hgo hF' gg hFg hMg old1 old2 f2 rS rX hXn hb hG hM2 hcV hc hF hM hM3
  obtain ⟨su, hsu⟩ : ∃ su, su = Value.slice (some ⟨g', 0, none⟩) L.length cap := ⟨_, rfl⟩
  rw [← hsu] at rd3 ⊢
  simp only [go_sem, reduceCtorEq, reduceIte, Nat.reduceEqDiff, Nat.reduceAdd, Nat.reduceLeDiff, Nat.reduceMul, Int.reduceLT, Int.reduceLE, Int.reduceAdd, Int.reduceSub, Int.reduceMul, Int.reduceNeg, Int.reduceToNat, Int.reduceEq]
  refine loop_of (kI (fzOf W) su L) 12 ?_ ?_
  · exact ⟨0, ⟨⟨rfl, old3, by simp only [go_sem, reduceCtorEq, reduceIte, Nat.reduceEqDiff, Nat.reduceAdd, Nat.reduceLeDiff, Nat.reduceMul, Int.reduceLT, Int.reduceLE, Int.reduceAdd, Int.reduceSub, Int.reduceMul, Int.reduceNeg, Int.reduceToNat, Int.reduceEq], rd3⟩, by simp only [go_sem, reduceCtorEq, reduceIte, Nat.reduceEqDiff, Nat.reduceAdd, Nat.reduceLeDiff, Nat.reduceMul, Int.reduceLT, Int.reduceLE, Int.reduceAdd, Int.reduceSub, Int.reduceMul, Int.reduceNeg, Int.reduceToNat, Int.reduceEq] <;> rfl⟩, by omega⟩
  clear old3 rd3
  clear M3
  rintro mk σ F M ⟨k, s, hk⟩
  obtain rfl := s.ff
  by_cases hk11 : (k : Int) ≤ 11
  rotate_left
  · simp only [go_sem, reduceCtorEq, reduceIte, Nat.reduceEqDiff, Nat.reduceAdd, Nat.reduceLeDiff, Nat.reduceMul, Int.reduceLT, Int.reduceLE, Int.reduceAdd, Int.reduceSub, Int.reduceMul, Int.reduceNeg, Int.reduceToNat, Int.reduceEq, s.h3, s.h4, hk11]
    refine callK_same (k24 _ _) ?_
    simp only [go_sem, reduceCtorEq, reduceIte, Nat.reduceEqDiff, Nat.reduceAdd, Nat.reduceLeDiff, Nat.reduceMul, Int.reduceLT, Int.reduceLE, Int.reduceAdd, Int.reduceSub, Int.reduceMul, Int.reduceNeg, Int.reduceToNat, Int.reduceEq]
    exact endK_same rfl
  have ek : IntKind.i64.wrap ((k : Int) + 1) = k + 1 := w64 (by omega) (by omega)
  refine cut (Q1 (fzOf W) su L k) ?_ ?_
  · simp only [go_sem, reduceCtorEq, reduceIte, Nat.reduceEqDiff, Nat.reduceAdd, Nat.reduceLeDiff, Nat.reduceMul, Int.reduceLT, Int.reduceLE, Int.reduceAdd, Int.reduceSub, Int.reduceMul, Int.reduceNeg, Int.reduceToNat, Int.reduceEq, s.h3, s.h4, hk11]
    exact s.ext (by simp only [go_sem, reduceCtorEq, reduceIte, Nat.reduceEqDiff, Nat.reduceAdd, Nat.reduceLeDiff, Nat.reduceMul, Int.reduceLT, Int.reduceLE, Int.reduceAdd, Int.reduceSub, Int.reduceMul, Int.reduceNeg, Int.reduceToNat, Int.reduceEq]) (by simp only [go_sem, reduceCtorEq, reduceIte, Nat.reduceEqDiff, Nat.reduceAdd, Nat.reduceLeDiff, Nat.reduceMul, Int.reduceLT, Int.reduceLE, Int.reduceAdd, Int.reduceSub, Int.reduceMul, Int.reduceNeg, Int.reduceToNat, Int.reduceEq])
  clear s
  rintro σ F M s
  obtain rfl := s.ff
  refine cut (Q1 (fzOf W) su L k) ?_ ?_
  rotate_left
  · rintro σ F M s
    obtain rfl := s.ff
    simp only [go_sem, reduceCtorEq, reduceIte, Nat.reduceEqDiff, Nat.reduceAdd, Nat.reduceLeDiff, Nat.reduceMul, Int.reduceLT, Int.reduceLE, Int.reduceAdd, Int.reduceSub, Int.reduceMul, Int.reduceNeg, Int.reduceToNat, Int.reduceEq, s.h3, s.h4, ek]
    exact ⟨mk - 1, by omega, k + 1, ⟨s.toQ0.ext (by simp only [go_sem, reduceCtorEq, reduceIte, Nat.reduceEqDiff, Nat.reduceAdd, Nat.reduceLeDiff, Nat.reduceMul, Int.reduceLT, Int.reduceLE, Int.reduceAdd, Int.reduceSub, Int.reduceMul, Int.reduceNeg, Int.reduceToNat, Int.reduceEq]), by simp only [go_sem, reduceCtorEq, reduceIte, Nat.reduceEqDiff, Nat.reduceAdd, Nat.reduceLeDiff, Nat.reduceMul, Int.reduceLT, Int.reduceLE, Int.reduceAdd, Int.reduceSub, Int.reduceMul, Int.reduceNeg, Int.reduceToNat, Int.reduceEq]; rfl⟩, by omega⟩
  rw [W_block]
  refine cut (Q1 (fzOf W) su L k) ?_ ?_
  · -- single scalars
    simp only [go_sem, reduceCtorEq, reduceIte, Nat.reduceEqDiff, Nat.reduceAdd, Nat.reduceLeDiff, Nat.reduceMul, Int.reduceLT, Int.reduceLE, Int.reduceAdd, Int.reduceSub, Int.reduceMul, Int.reduceNeg, Int.reduceToNat, Int.reduceEq, s.h3, s.h4]
    refine loop_of (jI (fzOf W) su L k) L.length ?_ ?_
    · exact ⟨s.ext (by simp only [go_sem, reduceCtorEq, reduceIte, Nat.reduceEqDiff, Nat.reduceAdd, Nat.reduceLeDiff, Nat.reduceMul, Int.reduceLT, Int.reduceLE, Int.reduceAdd, Int.reduceSub, Int.reduceMul, Int.reduceNeg, Int.reduceToNat, Int.reduceEq]) (by simp only [go_sem, reduceCtorEq, reduceIte, Nat.reduceEqDiff, Nat.reduceAdd, Nat.reduceLeDiff, Nat.reduceMul, Int.reduceLT, Int.reduceLE, Int.reduceAdd, Int.reduceSub, Int.reduceMul, Int.reduceNeg, Int.reduceToNat, Int.reduceEq]), 0, by omega, by simp only [go_sem, reduceCtorEq, reduceIte, Nat.reduceEqDiff, Nat.reduceAdd, Nat.reduceLeDiff, Nat.reduceMul, Int.reduceLT, Int.reduceLE, Int.reduceAdd, Int.reduceSub, Int.reduceMul, Int.reduceNeg, Int.reduceToNat, Int.reduceEq] <;> rfl⟩
    clear s
    rintro mj σ F M ⟨s, j, hj, h5⟩
    obtain rfl := s.ff
    have h3 := s.h3
    rw [hsu] at h3
    by_cases hjl : (j : Int) < L.length
    rotate_left
    · simp only [go_sem, reduceCtorEq, reduceIte, Nat.reduceEqDiff, Nat.reduceAdd, Nat.reduceLeDiff, Nat.reduceMul, Int.reduceLT, Int.reduceLE, Int.reduceAdd, Int.reduceSub, Int.reduceMul, Int.reduceNeg, Int.reduceToNat, Int.reduceEq, h3, s.h4, h5, hjl]
      exact s.ext (by simp only [go_sem, reduceCtorEq, reduceIte, Nat.reduceEqDiff, Nat.reduceAdd, Nat.reduceLeDiff, Nat.reduceMul, Int.reduceLT, Int.reduceLE, Int.reduceAdd, Int.reduceSub, Int.reduceMul, Int.reduceNeg, Int.reduceToNat, Int.reduceEq, s.h3]) (by simp only [go_sem, reduceCtorEq, reduceIte, Nat.reduceEqDiff, Nat.reduceAdd, Nat.reduceLeDiff, Nat.reduceMul, Int.reduceLT, Int.reduceLE, Int.reduceAdd, Int.reduceSub, Int.reduceMul, Int.reduceNeg, Int.reduceToNat, Int.reduceEq])
    by_cases hj12 : (j : Int) < 12
    rotate_left
    · simp only [go_sem, reduceCtorEq, reduceIte, Nat.reduceEqDiff, Nat.reduceAdd, Nat.reduceLeDiff, Nat.reduceMul, Int.reduceLT, Int.reduceLE, Int.reduceAdd, Int.reduceSub, Int.reduceMul, Int.reduceNeg, Int.reduceToNat, Int.reduceEq, h3, s.h4, h5, hjl, hj12]
      exact s.ext (by simp only [go_sem, reduceCtorEq, reduceIte, Nat.reduceEqDiff, Nat.reduceAdd, Nat.reduceLeDiff, Nat.reduceMul, Int.reduceLT, Int.reduceLE, Int.reduceAdd, Int.reduceSub, Int.reduceMul, Int.reduceNeg, Int.reduceToNat, Int.reduceEq, s.h3]) (by simp only [go_sem, reduceCtorEq, reduceIte, Nat.reduceEqDiff, Nat.reduceAdd, Nat.reduceLeDiff, Nat.reduceMul, Int.reduceLT, Int.reduceLE, Int.reduceAdd, Int.reduceSub, Int.reduceMul, Int.reduceNeg, Int.reduceToNat, Int.reduceEq])
    have ej : IntKind.i64.wrap ((j : Int) + 1) = j + 1 := w64 (by omega) (by omega)
    refine cut (jB (fzOf W) su L k j) ?_ ?_
    · simp only [go_sem, reduceCtorEq, reduceIte, Nat.reduceEqDiff, Nat.reduceAdd, Nat.reduceLeDiff, Nat.reduceMul, Int.reduceLT, Int.reduceLE, Int.reduceAdd, Int.reduceSub, Int.reduceMul, Int.reduceNeg, Int.reduceToNat, Int.reduceEq, h3, s.h4, h5, hjl, hj12]
      exact ⟨s.ext (by simp only [go_sem, reduceCtorEq, reduceIte, Nat.reduceEqDiff, Nat.reduceAdd, Nat.reduceLeDiff, Nat.reduceMul, Int.reduceLT, Int.reduceLE, Int.reduceAdd, Int.reduceSub, Int.reduceMul, Int.reduceNeg, Int.reduceToNat, Int.reduceEq, s.h3]) (by simp only [go_sem, reduceCtorEq, reduceIte, Nat.reduceEqDiff, Nat.reduceAdd, Nat.reduceLeDiff, Nat.reduceMul, Int.reduceLT, Int.reduceLE, Int.reduceAdd, Int.reduceSub, Int.reduceMul, Int.reduceNeg, Int.reduceToNat, Int.reduceEq]), by simp only [go_sem, reduceCtorEq, reduceIte, Nat.reduceEqDiff, Nat.reduceAdd, Nat.reduceLeDiff, Nat.reduceMul, Int.reduceLT, Int.reduceLE, Int.reduceAdd, Int.reduceSub, Int.reduceMul, Int.reduceNeg, Int.reduceToNat, Int.reduceEq, h5]⟩
    clear h3 h5
    clear s
    rintro σ F M ⟨s, h5⟩
    obtain rfl := s.ff
    refine cut (jB (fzOf W) su L k j) ?_ ?_
    rotate_left
    · rintro σ F M ⟨s, h5⟩
      obtain rfl := s.ff
      simp only [go_sem, reduceCtorEq, reduceIte, Nat.reduceEqDiff, Nat.reduceAdd, Nat.reduceLeDiff, Nat.reduceMul, Int.reduceLT, Int.reduceLE, Int.reduceAdd, Int.reduceSub, Int.reduceMul, Int.reduceNeg, Int.reduceToNat, Int.reduceEq, s.h3, s.h4, h5, ej]
      exact ⟨mj - 1, by omega, s.ext (by simp only [go_sem, reduceCtorEq, reduceIte, Nat.reduceEqDiff, Nat.reduceAdd, Nat.reduceLeDiff, Nat.reduceMul, Int.reduceLT, Int.reduceLE, Int.reduceAdd, Int.reduceSub, Int.reduceMul, Int.reduceNeg, Int.reduceToNat, Int.reduceEq]) (by simp only [go_sem, reduceCtorEq, reduceIte, Nat.reduceEqDiff, Nat.reduceAdd, Nat.reduceLeDiff, Nat.reduceMul, Int.reduceLT, Int.reduceLE, Int.reduceAdd, Int.reduceSub, Int.reduceMul, Int.reduceNeg, Int.reduceToNat, Int.reduceEq]), j + 1, by omega, by simp only [go_sem, reduceCtorEq, reduceIte, Nat.reduceEqDiff, Nat.reduceAdd, Nat.reduceLeDiff, Nat.reduceMul, Int.reduceLT, Int.reduceLE, Int.reduceAdd, Int.reduceSub, Int.reduceMul, Int.reduceNeg, Int.reduceToNat, Int.reduceEq]; rfl⟩
    rw [W_block]
    have hj' : j < L.length := by omega
    have hj0 : (0 : Int) ≤ j := by omega
    refine cut (J1 (fzOf W) su L k j L[j]) ?_ ?_
    · obtain ⟨b, o, cap', cs, eu, hb, d1, d2, _⟩ := sc_at s.rd hj'
      have h3 := s.h3
      rw [eu] at h3
      generalize L[j] = x at *
      simp only [go_sem, reduceCtorEq, reduceIte, Nat.reduceEqDiff, Nat.reduceAdd, Nat.reduceLeDiff, Nat.reduceMul, Int.reduceLT, Int.reduceLE, Int.reduceAdd, Int.reduceSub, Int.reduceMul, Int.reduceNeg, Int.reduceToNat, Int.reduceEq, h3, s.h4, h5, hjl, hj0, Int.toNat_natCast, hb, d1, d2]
      refine callK_of (k15 _ _ k x) ?_
      rintro w G M1 (⟨hx, w, rfl, ha⟩ | ⟨hx, rfl, hG, hM'⟩)
      · obtain ⟨hG, le, kp, ho, a, n, c, rfl, hrd⟩ := ha.le
        rw [hG]
        have rd1 := hrd (by have := one_len (k := k) (s := x); simp only [oneL] at this; omega)
        refine ⟨fun _ => le, ?_⟩
        simp only [go_sem, reduceCtorEq, reduceIte, Nat.reduceEqDiff, Nat.reduceAdd, Nat.reduceLeDiff, Nat.reduceMul, Int.reduceLT, Int.reduceLE, Int.reduceAdd, Int.reduceSub, Int.reduceMul, Int.reduceNeg, Int.reduceToNat, Int.reduceEq, h3, s.h4, h5]
        intro r6 hF6 hM6
        simp only [go_sem, reduceCtorEq, reduceIte, Nat.reduceEqDiff, Nat.reduceAdd, Nat.reduceLeDiff, Nat.reduceMul, Int.reduceLT, Int.reduceLE, Int.reduceAdd, Int.reduceSub, Int.reduceMul, Int.reduceNeg, Int.reduceToNat, Int.reduceEq, h3, s.h4, h5]
        exact ⟨(s.grow (kp.new (kp.free hM6)) ((ho s.old).upd hF6)).ext (by simp only [go_sem, reduceCtorEq, reduceIte, Nat.reduceEqDiff, Nat.reduceAdd, Nat.reduceLeDiff, Nat.reduceMul, Int.reduceLT, Int.reduceLE, Int.reduceAdd, Int.reduceSub, Int.reduceMul, Int.reduceNeg, Int.reduceToNat, Int.reduceEq, s.h3, eu]) (by simp only [go_sem, reduceCtorEq, reduceIte, Nat.reduceEqDiff, Nat.reduceAdd, Nat.reduceLeDiff, Nat.reduceMul, Int.reduceLT, Int.reduceLE, Int.reduceAdd, Int.reduceSub, Int.reduceMul, Int.reduceNeg, Int.reduceToNat, Int.reduceEq]), by simp only [go_sem, reduceCtorEq, reduceIte, Nat.reduceEqDiff, Nat.reduceAdd, Nat.reduceLeDiff, Nat.reduceMul, Int.reduceLT, Int.reduceLE, Int.reduceAdd, Int.reduceSub, Int.reduceMul, Int.reduceNeg, Int.reduceToNat, Int.reduceEq, h5], r6, a, n, c, _, by simp only [go_sem, reduceCtorEq, reduceIte, Nat.reduceEqDiff, Nat.reduceAdd, Nat.reduceLeDiff, Nat.reduceMul, Int.reduceLT, Int.reduceLE, Int.reduceAdd, Int.reduceSub, Int.reduceMul, Int.reduceNeg, Int.reduceToNat, Int.reduceEq], Hp.upd_same _ _ _, .inl ⟨hx, by simp only [go_sem, reduceCtorEq, reduceIte, Nat.reduceEqDiff, Nat.reduceAdd, Nat.reduceLeDiff, Nat.reduceMul, Int.reduceLT, Int.reduceLE, Int.reduceAdd, Int.reduceSub, Int.reduceMul, Int.reduceNeg, Int.reduceToNat, Int.reduceEq], rfl, rd1.new hF6 hM6⟩⟩
      · rw [hG, hM']
        refine ⟨fun _ => Le.refl _ _, ?_⟩
        simp only [go_sem, reduceCtorEq, reduceIte, Nat.reduceEqDiff, Nat.reduceAdd, Nat.reduceLeDiff, Nat.reduceMul, Int.reduceLT, Int.reduceLE, Int.reduceAdd, Int.reduceSub, Int.reduceMul, Int.reduceNeg, Int.reduceToNat, Int.reduceEq, h3, s.h4, h5]
        intro r6 hF6 hM6
        simp only [go_sem, reduceCtorEq, reduceIte, Nat.reduceEqDiff, Nat.reduceAdd, Nat.reduceLeDiff, Nat.reduceMul, Int.reduceLT, Int.reduceLE, Int.reduceAdd, Int.reduceSub, Int.reduceMul, Int.reduceNeg, Int.reduceToNat, Int.reduceEq, h3, s.h4, h5]
        exact ⟨(s.grow ((Keep.refl _).new hM6) (s.old.upd hF6)).ext (by simp only [go_sem, reduceCtorEq, reduceIte, Nat.reduceEqDiff, Nat.reduceAdd, Nat.reduceLeDiff, Nat.reduceMul, Int.reduceLT, Int.reduceLE, Int.reduceAdd, Int.reduceSub, Int.reduceMul, Int.reduceNeg, Int.reduceToNat, Int.reduceEq, s.h3, eu]) (by simp only [go_sem, reduceCtorEq, reduceIte, Nat.reduceEqDiff, Nat.reduceAdd, Nat.reduceLeDiff, Nat.reduceMul, Int.reduceLT, Int.reduceLE, Int.reduceAdd, Int.reduceSub, Int.reduceMul, Int.reduceNeg, Int.reduceToNat, Int.reduceEq]), by simp only [go_sem, reduceCtorEq, reduceIte, Nat.reduceEqDiff, Nat.reduceAdd, Nat.reduceLeDiff, Nat.reduceMul, Int.reduceLT, Int.reduceLE, Int.reduceAdd, Int.reduceSub, Int.reduceMul, Int.reduceNeg, Int.reduceToNat, Int.reduceEq, h5], r6, none, 0, 0, V.zero, by simp only [go_sem, reduceCtorEq, reduceIte, Nat.reduceEqDiff, Nat.reduceAdd, Nat.reduceLeDiff, Nat.reduceMul, Int.reduceLT, Int.reduceLE, Int.reduceAdd, Int.reduceSub, Int.reduceMul, Int.reduceNeg, Int.reduceToNat, Int.reduceEq], Hp.upd_same _ _ _, .inr ⟨hx, by simp only [go_sem, reduceCtorEq, reduceIte, Nat.reduceEqDiff, Nat.reduceAdd, Nat.reduceLeDiff, Nat.reduceMul, Int.reduceLT, Int.reduceLE, Int.reduceAdd, Int.reduceSub, Int.reduceMul, Int.reduceNeg, Int.reduceToNat, Int.reduceEq]⟩⟩
    clear h5
    clear s
    rintro σ F M ⟨s, h5, r6, a, n, c, v, h6, f6, hh⟩
    obtain rfl := s.ff
    obtain ⟨b, o, cap', cs, eu, hb, d1, d2, _⟩ := sc_at s.rd hj'
    have h3 := s.h3
    rw [eu] at h3
    generalize L[j] = x at *
    have b6 := blk_M (F := fzOf W) f6
    rcases hh with ⟨hx, h7, rfl, rd1⟩ | ⟨hx, h7⟩
    rotate_left
    · simp only [go_sem, reduceCtorEq, reduceIte, Nat.reduceEqDiff, Nat.reduceAdd, Nat.reduceLeDiff, Nat.reduceMul, Int.reduceLT, Int.reduceLE, Int.reduceAdd, Int.reduceSub, Int.reduceMul, Int.reduceNeg, Int.reduceToNat, Int.reduceEq, h3, s.h4, h5, h6, h7, hjl, hj0, Int.toNat_natCast, hb, d1, d2]
      refine callK_same (k16 _ _ k x) ?_
      simp only [go_sem, reduceCtorEq, reduceIte, Nat.reduceEqDiff, Nat.reduceAdd, Nat.reduceLeDiff, Nat.reduceMul, Int.reduceLT, Int.reduceLE, Int.reduceAdd, Int.reduceSub, Int.reduceMul, Int.reduceNeg, Int.reduceToNat, Int.reduceEq, h3, s.h4, h5, h6, h7, hx]
      refine callK_same (k17 _ _ 1) ?_
      simp only [go_sem, reduceCtorEq, reduceIte, Nat.reduceEqDiff, Nat.reduceAdd, Nat.reduceLeDiff, Nat.reduceMul, Int.reduceLT, Int.reduceLE, Int.reduceAdd, Int.reduceSub, Int.reduceMul, Int.reduceNeg, Int.reduceToNat, Int.reduceEq, h3, s.h4, h5, h6, h7, hx]
      refine callK_same (k17 _ _ 1) ?_
      simp only [go_sem, reduceCtorEq, reduceIte, Nat.reduceEqDiff, Nat.reduceAdd, Nat.reduceLeDiff, Nat.reduceMul, Int.reduceLT, Int.reduceLE, Int.reduceAdd, Int.reduceSub, Int.reduceMul, Int.reduceNeg, Int.reduceToNat, Int.reduceEq, h3, s.h4, h5, h6, h7, hx]
      refine callK_same (k17 _ _ 1) ?_
      simp only [go_sem, reduceCtorEq, reduceIte, Nat.reduceEqDiff, Nat.reduceAdd, Nat.reduceLeDiff, Nat.reduceMul, Int.reduceLT, Int.reduceLE, Int.reduceAdd, Int.reduceSub, Int.reduceMul, Int.reduceNeg, Int.reduceToNat, Int.reduceEq, h3, s.h4, h5, h6, h7, hx]
      refine callK_same (k17 _ _ 1) ?_
      simp only [go_sem, reduceCtorEq, reduceIte, Nat.reduceEqDiff, Nat.reduceAdd, Nat.reduceLeDiff, Nat.reduceMul, Int.reduceLT, Int.reduceLE, Int.reduceAdd, Int.reduceSub, Int.reduceMul, Int.reduceNeg, Int.reduceToNat, Int.reduceEq, h3, s.h4, h5, h6, h7, hx]
      exact ⟨s.ext (by simp only [go_sem, reduceCtorEq, reduceIte, Nat.reduceEqDiff, Nat.reduceAdd, Nat.reduceLeDiff, Nat.reduceMul, Int.reduceLT, Int.reduceLE, Int.reduceAdd, Int.reduceSub, Int.reduceMul, Int.reduceNeg, Int.reduceToNat, Int.reduceEq, s.h3, eu]) (by simp only [go_sem, reduceCtorEq, reduceIte, Nat.reduceEqDiff, Nat.reduceAdd, Nat.reduceLeDiff, Nat.reduceMul, Int.reduceLT, Int.reduceLE, Int.reduceAdd, Int.reduceSub, Int.reduceMul, Int.reduceNeg, Int.reduceToNat, Int.reduceEq]), by simp only [go_sem, reduceCtorEq, reduceIte, Nat.reduceEqDiff, Nat.reduceAdd, Nat.reduceLeDiff, Nat.reduceMul, Int.reduceLT, Int.reduceLE, Int.reduceAdd, Int.reduceSub, Int.reduceMul, Int.reduceNeg, Int.reduceToNat, Int.reduceEq, h5]⟩
    · have hpre := one_pre hx
      simp only [go_sem, reduceCtorEq, reduceIte, Nat.reduceEqDiff, Nat.reduceAdd, Nat.reduceLeDiff, Nat.reduceMul, Int.reduceLT, Int.reduceLE, Int.reduceAdd, Int.reduceSub, Int.reduceMul, Int.reduceNeg, Int.reduceToNat, Int.reduceEq, h3, s.h4, h5, h6, h7, hjl, hj0, Int.toNat_natCast, hb, d1, d2]
      refine callK_same (k16 _ _ k x) ?_
      simp only [go_sem, reduceCtorEq, reduceIte, Nat.reduceEqDiff, Nat.reduceAdd, Nat.reduceLeDiff, Nat.reduceMul, Int.reduceLT, Int.reduceLE, Int.reduceAdd, Int.reduceSub, Int.reduceMul, Int.reduceNeg, Int.reduceToNat, Int.reduceEq, h3, s.h4, h5, h6, h7, hx]
      refine callK_same (k17 _ _ 0) ?_
      simp only [go_sem, reduceCtorEq, reduceIte, Nat.reduceEqDiff, Nat.reduceAdd, Nat.reduceLeDiff, Nat.reduceMul, Int.reduceLT, Int.reduceLE, Int.reduceAdd, Int.reduceSub, Int.reduceMul, Int.reduceNeg, Int.reduceToNat, Int.reduceEq, h3, s.h4, h5, h6, h7, hx]
      refine callK_same (k17 _ _ 0) ?_
      simp only [go_sem, reduceCtorEq, reduceIte, Nat.reduceEqDiff, Nat.reduceAdd, Nat.reduceLeDiff, Nat.reduceMul, Int.reduceLT, Int.reduceLE, Int.reduceAdd, Int.reduceSub, Int.reduceMul, Int.reduceNeg, Int.reduceToNat, Int.reduceEq, h3, s.h4, h5, h6, h7, hx]
      refine callK_same (k17 _ _ 0) ?_
      simp only [go_sem, reduceCtorEq, reduceIte, Nat.reduceEqDiff, Nat.reduceAdd, Nat.reduceLeDiff, Nat.reduceMul, Int.reduceLT, Int.reduceLE, Int.reduceAdd, Int.reduceSub, Int.reduceMul, Int.reduceNeg, Int.reduceToNat, Int.reduceEq, h3, s.h4, h5, h6, h7, hx, b6]
      refine callK_same (k18 _ _ k _ _ _ rd1 (by have := one_len (k := k) (s := x); omega) (by intro h; exact hpre.1 h) hpre.2) ?_
      rw [one_only hx]
      simp only [go_sem, reduceCtorEq, reduceIte, Nat.reduceEqDiff, Nat.reduceAdd, Nat.reduceLeDiff, Nat.reduceMul, Int.reduceLT, Int.reduceLE, Int.reduceAdd, Int.reduceSub, Int.reduceMul, Int.reduceNeg, Int.reduceToNat, Int.reduceEq, h3, s.h4, h5, h6, h7, hx, b6]
      intro r8 hF8 hM8
      have rd8 := rd1.new hF8 hM8 (e := ⟨x.cs, 32, 4⟩)
      have b86 := blk_ne b6 hF8 hM8
      have b8b := blk_ne hb hF8 hM8
      simp only [go_sem, reduceCtorEq, reduceIte, Nat.reduceEqDiff, Nat.reduceAdd, Nat.reduceLeDiff, Nat.reduceMul, Int.reduceLT, Int.reduceLE, Int.reduceAdd, Int.reduceSub, Int.reduceMul, Int.reduceNeg, Int.reduceToNat, Int.reduceEq, h3, s.h4, h5, h6, h7, hx, b86, b6]
      refine callK_same (k19 _ _ k _ _ _ rd8) ?_
      simp only [go_sem, reduceCtorEq, reduceIte, Nat.reduceEqDiff, Nat.reduceAdd, Nat.reduceLeDiff, Nat.reduceMul, Int.reduceLT, Int.reduceLE, Int.reduceAdd, Int.reduceSub, Int.reduceMul, Int.reduceNeg, Int.reduceToNat, Int.reduceEq, h3, s.h4, h5, h6, h7, hx, one_abs hx, b86, b6, b8b, hjl, hj0, Int.toNat_natCast, hb, d1, d2]
      exact ⟨(s.grow ((Keep.refl _).new hM8) (s.old.upd hF8)).ext (by simp only [go_sem, reduceCtorEq, reduceIte, Nat.reduceEqDiff, Nat.reduceAdd, Nat.reduceLeDiff, Nat.reduceMul, Int.reduceLT, Int.reduceLE, Int.reduceAdd, Int.reduceSub, Int.reduceMul, Int.reduceNeg, Int.reduceToNat, Int.reduceEq, s.h3, eu]) (by simp only [go_sem, reduceCtorEq, reduceIte, Nat.reduceEqDiff, Nat.reduceAdd, Nat.reduceLeDiff, Nat.reduceMul, Int.reduceLT, Int.reduceLE, Int.reduceAdd, Int.reduceSub, Int.reduceMul, Int.reduceNeg, Int.reduceToNat, Int.reduceEq]), by simp only [go_sem, reduceCtorEq, reduceIte, Nat.reduceEqDiff, Nat.reduceAdd, Nat.reduceLeDiff, Nat.reduceMul, Int.reduceLT, Int.reduceLE, Int.reduceAdd, Int.reduceSub, Int.reduceMul, Int.reduceNeg, Int.reduceToNat, Int.reduceEq, h5]⟩
  -- all of so many blocks
  clear s
  rintro σ F M s
  obtain rfl := s.ff
  simp only [go_sem, reduceCtorEq, reduceIte, Nat.reduceEqDiff, Nat.reduceAdd, Nat.reduceLeDiff, Nat.reduceMul, Int.reduceLT, Int.reduceLE, Int.reduceAdd, Int.reduceSub, Int.reduceMul, Int.reduceNeg, Int.reduceToNat, Int.reduceEq, s.h3, s.h4]
  refine loop_of (nI (fzOf W) su L k) 9 ?_ ?_
  · exact ⟨s.ext (by simp only [go_sem, reduceCtorEq, reduceIte, Nat.reduceEqDiff, Nat.reduceAdd, Nat.reduceLeDiff, Nat.reduceMul, Int.reduceLT, Int.reduceLE, Int.reduceAdd, Int.reduceSub, Int.reduceMul, Int.reduceNeg, Int.reduceToNat, Int.reduceEq]) (by simp only [go_sem, reduceCtorEq, reduceIte, Nat.reduceEqDiff, Nat.reduceAdd, Nat.reduceLeDiff, Nat.reduceMul, Int.reduceLT, Int.reduceLE, Int.reduceAdd, Int.reduceSub, Int.reduceMul, Int.reduceNeg, Int.reduceToNat, Int.reduceEq]), -1, by omega, by omega, by simp only [go_sem, reduceCtorEq, reduceIte, Nat.reduceEqDiff, Nat.reduceAdd, Nat.reduceLeDiff, Nat.reduceMul, Int.reduceLT, Int.reduceLE, Int.reduceAdd, Int.reduceSub, Int.reduceMul, Int.reduceNeg, Int.reduceToNat, Int.reduceEq]⟩
  clear s
  rintro mn σ F M ⟨s, n, hn, hn1, h10⟩
  obtain rfl := s.ff
  by_cases hn7 : n ≤ 7
  rotate_left
  · simp only [go_sem, reduceCtorEq, reduceIte, Nat.reduceEqDiff, Nat.reduceAdd, Nat.reduceLeDiff, Nat.reduceMul, Int.reduceLT, Int.reduceLE, Int.reduceAdd, Int.reduceSub, Int.reduceMul, Int.reduceNeg, Int.reduceToNat, Int.reduceEq, s.h3, s.h4, h10, hn7]
    exact s.ext (by simp only [go_sem, reduceCtorEq, reduceIte, Nat.reduceEqDiff, Nat.reduceAdd, Nat.reduceLeDiff, Nat.reduceMul, Int.reduceLT, Int.reduceLE, Int.reduceAdd, Int.reduceSub, Int.reduceMul, Int.reduceNeg, Int.reduceToNat, Int.reduceEq]) (by simp only [go_sem, reduceCtorEq, reduceIte, Nat.reduceEqDiff, Nat.reduceAdd, Nat.reduceLeDiff, Nat.reduceMul, Int.reduceLT, Int.reduceLE, Int.reduceAdd, Int.reduceSub, Int.reduceMul, Int.reduceNeg, Int.reduceToNat, Int.reduceEq])
  have en : IntKind.i64.wrap (n + 1) = n + 1 := w64 (by omega) (by omega)
  refine cut (nB (fzOf W) su L k n) ?_ ?_
  · simp only [go_sem, reduceCtorEq, reduceIte, Nat.reduceEqDiff, Nat.reduceAdd, Nat.reduceLeDiff, Nat.reduceMul, Int.reduceLT, Int.reduceLE, Int.reduceAdd, Int.reduceSub, Int.reduceMul, Int.reduceNeg, Int.reduceToNat, Int.reduceEq, s.h3, s.h4, h10, hn7]
    exact ⟨s.ext (by simp only [go_sem, reduceCtorEq, reduceIte, Nat.reduceEqDiff, Nat.reduceAdd, Nat.reduceLeDiff, Nat.reduceMul, Int.reduceLT, Int.reduceLE, Int.reduceAdd, Int.reduceSub, Int.reduceMul, Int.reduceNeg, Int.reduceToNat, Int.reduceEq]) (by simp only [go_sem, reduceCtorEq, reduceIte, Nat.reduceEqDiff, Nat.reduceAdd, Nat.reduceLeDiff, Nat.reduceMul, Int.reduceLT, Int.reduceLE, Int.reduceAdd, Int.reduceSub, Int.reduceMul, Int.reduceNeg, Int.reduceToNat, Int.reduceEq]), by simp only [go_sem, reduceCtorEq, reduceIte, Nat.reduceEqDiff, Nat.reduceAdd, Nat.reduceLeDiff, Nat.reduceMul, Int.reduceLT, Int.reduceLE, Int.reduceAdd, Int.reduceSub, Int.reduceMul, Int.reduceNeg, Int.reduceToNat, Int.reduceEq, h10]⟩
  clear h10
  clear s
  rintro σ F M ⟨s, h10⟩
  obtain rfl := s.ff
  refine cut (nB (fzOf W) su L k n) ?_ ?_
  rotate_left
  · rintro σ F M ⟨s, h10⟩
    obtain rfl := s.ff
    simp only [go_sem, reduceCtorEq, reduceIte, Nat.reduceEqDiff, Nat.reduceAdd, Nat.reduceLeDiff, Nat.reduceMul, Int.reduceLT, Int.reduceLE, Int.reduceAdd, Int.reduceSub, Int.reduceMul, Int.reduceNeg, Int.reduceToNat, Int.reduceEq, s.h3, s.h4, h10, en]
    exact ⟨mn - 1, by omega, s.ext (by simp only [go_sem, reduceCtorEq, reduceIte, Nat.reduceEqDiff, Nat.reduceAdd, Nat.reduceLeDiff, Nat.reduceMul, Int.reduceLT, Int.reduceLE, Int.reduceAdd, Int.reduceSub, Int.reduceMul, Int.reduceNeg, Int.reduceToNat, Int.reduceEq]) (by simp only [go_sem, reduceCtorEq, reduceIte, Nat.reduceEqDiff, Nat.reduceAdd, Nat.reduceLeDiff, Nat.reduceMul, Int.reduceLT, Int.reduceLE, Int.reduceAdd, Int.reduceSub, Int.reduceMul, Int.reduceNeg, Int.reduceToNat, Int.reduceEq]), n + 1, by omega, by omega, by simp only [go_sem, reduceCtorEq, reduceIte, Nat.reduceEqDiff, Nat.reduceAdd, Nat.reduceLeDiff, Nat.reduceMul, Int.reduceLT, Int.reduceLE, Int.reduceAdd, Int.reduceSub, Int.reduceMul, Int.reduceNeg, Int.reduceToNat, Int.reduceEq]⟩
  rw [W_block]
  refine cut (J2 (fzOf W) su L k n) ?_ ?_
  · simp only [go_sem, reduceCtorEq, reduceIte, Nat.reduceEqDiff, Nat.reduceAdd, Nat.reduceLeDiff, Nat.reduceMul, Int.reduceLT, Int.reduceLE, Int.reduceAdd, Int.reduceSub, Int.reduceMul, Int.reduceNeg, Int.reduceToNat, Int.reduceEq, s.h3, s.h4, h10]
    refine callK_of (k20 _ _ k n) ?_
    rintro w G M1 (⟨hx, w, rfl, ha⟩ | ⟨hx, rfl, hG, hM'⟩)
    · obtain ⟨hG, le, kp, ho, a, q, c, rfl, hrd⟩ := ha.le
      rw [hG]
      have rd1 := hrd (by have := all_len (k := k) (n := n.toNat); simp only [allL] at this; omega)
      refine ⟨fun _ => le, ?_⟩
      simp only [go_sem, reduceCtorEq, reduceIte, Nat.reduceEqDiff, Nat.reduceAdd, Nat.reduceLeDiff, Nat.reduceMul, Int.reduceLT, Int.reduceLE, Int.reduceAdd, Int.reduceSub, Int.reduceMul, Int.reduceNeg, Int.reduceToNat, Int.reduceEq, s.h3, s.h4, h10]
      intro r6 hF6 hM6
      simp only [go_sem, reduceCtorEq, reduceIte, Nat.reduceEqDiff, Nat.reduceAdd, Nat.reduceLeDiff, Nat.reduceMul, Int.reduceLT, Int.reduceLE, Int.reduceAdd, Int.reduceSub, Int.reduceMul, Int.reduceNeg, Int.reduceToNat, Int.reduceEq, s.h3, s.h4, h10]
      exact ⟨(s.grow (kp.new (kp.free hM6)) ((ho s.old).upd hF6)).ext (by simp only [go_sem, reduceCtorEq, reduceIte, Nat.reduceEqDiff, Nat.reduceAdd, Nat.reduceLeDiff, Nat.reduceMul, Int.reduceLT, Int.reduceLE, Int.reduceAdd, Int.reduceSub, Int.reduceMul, Int.reduceNeg, Int.reduceToNat, Int.reduceEq]) (by simp only [go_sem, reduceCtorEq, reduceIte, Nat.reduceEqDiff, Nat.reduceAdd, Nat.reduceLeDiff, Nat.reduceMul, Int.reduceLT, Int.reduceLE, Int.reduceAdd, Int.reduceSub, Int.reduceMul, Int.reduceNeg, Int.reduceToNat, Int.reduceEq]), by simp only [go_sem, reduceCtorEq, reduceIte, Nat.reduceEqDiff, Nat.reduceAdd, Nat.reduceLeDiff, Nat.reduceMul, Int.reduceLT, Int.reduceLE, Int.reduceAdd, Int.reduceSub, Int.reduceMul, Int.reduceNeg, Int.reduceToNat, Int.reduceEq, h10], r6, a, q, c, _, by simp only [go_sem, reduceCtorEq, reduceIte, Nat.reduceEqDiff, Nat.reduceAdd, Nat.reduceLeDiff, Nat.reduceMul, Int.reduceLT, Int.reduceLE, Int.reduceAdd, Int.reduceSub, Int.reduceMul, Int.reduceNeg, Int.reduceToNat, Int.reduceEq], Hp.upd_same _ _ _, .inl ⟨hx, by simp only [go_sem, reduceCtorEq, reduceIte, Nat.reduceEqDiff, Nat.reduceAdd, Nat.reduceLeDiff, Nat.reduceMul, Int.reduceLT, Int.reduceLE, Int.reduceAdd, Int.reduceSub, Int.reduceMul, Int.reduceNeg, Int.reduceToNat, Int.reduceEq], rfl, rd1.new hF6 hM6⟩⟩
    · rw [hG, hM']
      refine ⟨fun _ => Le.refl _ _, ?_⟩
      simp only [go_sem, reduceCtorEq, reduceIte, Nat.reduceEqDiff, Nat.reduceAdd, Nat.reduceLeDiff, Nat.reduceMul, Int.reduceLT, Int.reduceLE, Int.reduceAdd, Int.reduceSub, Int.reduceMul, Int.reduceNeg, Int.reduceToNat, Int.reduceEq, s.h3, s.h4, h10]
      intro r6 hF6 hM6
      simp only [go_sem, reduceCtorEq, reduceIte, Nat.reduceEqDiff, Nat.reduceAdd, Nat.reduceLeDiff, Nat.reduceMul, Int.reduceLT, Int.reduceLE, Int.reduceAdd, Int.reduceSub, Int.reduceMul, Int.reduceNeg, Int.reduceToNat, Int.reduceEq, s.h3, s.h4, h10]
      exact ⟨(s.grow ((Keep.refl _).new hM6) (s.old.upd hF6)).ext (by simp only [go_sem, reduceCtorEq, reduceIte, Nat.reduceEqDiff, Nat.reduceAdd, Nat.reduceLeDiff, Nat.reduceMul, Int.reduceLT, Int.reduceLE, Int.reduceAdd, Int.reduceSub, Int.reduceMul, Int.reduceNeg, Int.reduceToNat, Int.reduceEq]) (by simp only [go_sem, reduceCtorEq, reduceIte, Nat.reduceEqDiff, Nat.reduceAdd, Nat.reduceLeDiff, Nat.reduceMul, Int.reduceLT, Int.reduceLE, Int.reduceAdd, Int.reduceSub, Int.reduceMul, Int.reduceNeg, Int.reduceToNat, Int.reduceEq]), by simp only [go_sem, reduceCtorEq, reduceIte, Nat.reduceEqDiff, Nat.reduceAdd, Nat.reduceLeDiff, Nat.reduceMul, Int.reduceLT, Int.reduceLE, Int.reduceAdd, Int.reduceSub, Int.reduceMul, Int.reduceNeg, Int.reduceToNat, Int.reduceEq, h10], r6, none, 0, 0, V.zero, by simp only [go_sem, reduceCtorEq, reduceIte, Nat.reduceEqDiff, Nat.reduceAdd, Nat.reduceLeDiff, Nat.reduceMul, Int.reduceLT, Int.reduceLE, Int.reduceAdd, Int.reduceSub, Int.reduceMul, Int.reduceNeg, Int.reduceToNat, Int.reduceEq], Hp.upd_same _ _ _, .inr ⟨hx, by simp only [go_sem, reduceCtorEq, reduceIte, Nat.reduceEqDiff, Nat.reduceAdd, Nat.reduceLeDiff, Nat.reduceMul, Int.reduceLT, Int.reduceLE, Int.reduceAdd, Int.reduceSub, Int.reduceMul, Int.reduceNeg, Int.reduceToNat, Int.reduceEq]⟩⟩
  clear h10
  clear s
  rintro σ F M ⟨s, h10, r11, a, q, c, v, h11, f11, hh⟩
  obtain rfl := s.ff
  have b11 := blk_M (F := fzOf W) f11
  rcases hh with ⟨hx, h12, rfl, rd1⟩ | ⟨hx, h12⟩
  rotate_left
  · simp only [go_sem, reduceCtorEq, reduceIte, Nat.reduceEqDiff, Nat.reduceAdd, Nat.reduceLeDiff, Nat.reduceMul, Int.reduceLT, Int.reduceLE, Int.reduceAdd, Int.reduceSub, Int.reduceMul, Int.reduceNeg, Int.reduceToNat, Int.reduceEq, s.h3, s.h4, h10, h11, h12]
    refine callK_same (k21 _ _ k) ?_
    have fin : ∀ σ', Ax.look σ' 3 = Ax.look σ 3 → Ax.look σ' 4 = Ax.look σ 4 → Ax.look σ' 10 = Ax.look σ 10 → nB (fzOf W) su L k n σ' (fzOf W) M := fun σ' e3 e4 e10 => ⟨s.ext e3 e4, e10.trans h10⟩
    cases hS : isS k
    · simp only [go_sem, reduceCtorEq, reduceIte, Nat.reduceEqDiff, Nat.reduceAdd, Nat.reduceLeDiff, Nat.reduceMul, Int.reduceLT, Int.reduceLE, Int.reduceAdd, Int.reduceSub, Int.reduceMul, Int.reduceNeg, Int.reduceToNat, Int.reduceEq, s.h3, s.h4, h10, h11, h12]
      refine callK_same (k17 _ _ 1) ?_
      simp only [go_sem, reduceCtorEq, reduceIte, Nat.reduceEqDiff, Nat.reduceAdd, Nat.reduceLeDiff, Nat.reduceMul, Int.reduceLT, Int.reduceLE, Int.reduceAdd, Int.reduceSub, Int.reduceMul, Int.reduceNeg, Int.reduceToNat, Int.reduceEq, s.h3, s.h4, h10, h11, h12]
      refine callK_same (k17 _ _ 1) ?_
      simp only [go_sem, reduceCtorEq, reduceIte, Nat.reduceEqDiff, Nat.reduceAdd, Nat.reduceLeDiff, Nat.reduceMul, Int.reduceLT, Int.reduceLE, Int.reduceAdd, Int.reduceSub, Int.reduceMul, Int.reduceNeg, Int.reduceToNat, Int.reduceEq, s.h3, s.h4, h10, h11, h12]
      refine callK_same (k17 _ _ 1) ?_
      simp only [go_sem, reduceCtorEq, reduceIte, Nat.reduceEqDiff, Nat.reduceAdd, Nat.reduceLeDiff, Nat.reduceMul, Int.reduceLT, Int.reduceLE, Int.reduceAdd, Int.reduceSub, Int.reduceMul, Int.reduceNeg, Int.reduceToNat, Int.reduceEq, s.h3, s.h4, h10, h11, h12]
      refine callK_same (k17 _ _ 1) ?_
      simp only [go_sem, reduceCtorEq, reduceIte, Nat.reduceEqDiff, Nat.reduceAdd, Nat.reduceLeDiff, Nat.reduceMul, Int.reduceLT, Int.reduceLE, Int.reduceAdd, Int.reduceSub, Int.reduceMul, Int.reduceNeg, Int.reduceToNat, Int.reduceEq, s.h3, s.h4, h10, h11, h12]
      exact fin _ (by simp only [go_sem, reduceCtorEq, reduceIte, Nat.reduceEqDiff, Nat.reduceAdd, Nat.reduceLeDiff, Nat.reduceMul, Int.reduceLT, Int.reduceLE, Int.reduceAdd, Int.reduceSub, Int.reduceMul, Int.reduceNeg, Int.reduceToNat, Int.reduceEq]) (by simp only [go_sem, reduceCtorEq, reduceIte, Nat.reduceEqDiff, Nat.reduceAdd, Nat.reduceLeDiff, Nat.reduceMul, Int.reduceLT, Int.reduceLE, Int.reduceAdd, Int.reduceSub, Int.reduceMul, Int.reduceNeg, Int.reduceToNat, Int.reduceEq]) (by simp only [go_sem, reduceCtorEq, reduceIte, Nat.reduceEqDiff, Nat.reduceAdd, Nat.reduceLeDiff, Nat.reduceMul, Int.reduceLT, Int.reduceLE, Int.reduceAdd, Int.reduceSub, Int.reduceMul, Int.reduceNeg, Int.reduceToNat, Int.reduceEq])
    · rw [hS, Bool.true_and] at hx
      simp only [go_sem, reduceCtorEq, reduceIte, Nat.reduceEqDiff, Nat.reduceAdd, Nat.reduceLeDiff, Nat.reduceMul, Int.reduceLT, Int.reduceLE, Int.reduceAdd, Int.reduceSub, Int.reduceMul, Int.reduceNeg, Int.reduceToNat, Int.reduceEq, s.h3, s.h4, h10, h11, h12]
      refine callK_same (k22 _ _ n 6) ?_
      rw [hx]
      simp only [go_sem, reduceCtorEq, reduceIte, Nat.reduceEqDiff, Nat.reduceAdd, Nat.reduceLeDiff, Nat.reduceMul, Int.reduceLT, Int.reduceLE, Int.reduceAdd, Int.reduceSub, Int.reduceMul, Int.reduceNeg, Int.reduceToNat, Int.reduceEq, s.h3, s.h4, h10, h11, h12]
      refine callK_same (k17 _ _ 1) ?_
      simp only [go_sem, reduceCtorEq, reduceIte, Nat.reduceEqDiff, Nat.reduceAdd, Nat.reduceLeDiff, Nat.reduceMul, Int.reduceLT, Int.reduceLE, Int.reduceAdd, Int.reduceSub, Int.reduceMul, Int.reduceNeg, Int.reduceToNat, Int.reduceEq, s.h3, s.h4, h10, h11, h12]
      refine callK_same (k17 _ _ 1) ?_
      simp only [go_sem, reduceCtorEq, reduceIte, Nat.reduceEqDiff, Nat.reduceAdd, Nat.reduceLeDiff, Nat.reduceMul, Int.reduceLT, Int.reduceLE, Int.reduceAdd, Int.reduceSub, Int.reduceMul, Int.reduceNeg, Int.reduceToNat, Int.reduceEq, s.h3, s.h4, h10, h11, h12]
      refine callK_same (k17 _ _ 1) ?_
      simp only [go_sem, reduceCtorEq, reduceIte, Nat.reduceEqDiff, Nat.reduceAdd, Nat.reduceLeDiff, Nat.reduceMul, Int.reduceLT, Int.reduceLE, Int.reduceAdd, Int.reduceSub, Int.reduceMul, Int.reduceNeg, Int.reduceToNat, Int.reduceEq, s.h3, s.h4, h10, h11, h12]
      refine callK_same (k17 _ _ 1) ?_
      simp only [go_sem, reduceCtorEq, reduceIte, Nat.reduceEqDiff, Nat.reduceAdd, Nat.reduceLeDiff, Nat.reduceMul, Int.reduceLT, Int.reduceLE, Int.reduceAdd, Int.reduceSub, Int.reduceMul, Int.reduceNeg, Int.reduceToNat, Int.reduceEq, s.h3, s.h4, h10, h11, h12]
      exact fin _ (by simp only [go_sem, reduceCtorEq, reduceIte, Nat.reduceEqDiff, Nat.reduceAdd, Nat.reduceLeDiff, Nat.reduceMul, Int.reduceLT, Int.reduceLE, Int.reduceAdd, Int.reduceSub, Int.reduceMul, Int.reduceNeg, Int.reduceToNat, Int.reduceEq]) (by simp only [go_sem, reduceCtorEq, reduceIte, Nat.reduceEqDiff, Nat.reduceAdd, Nat.reduceLeDiff, Nat.reduceMul, Int.reduceLT, Int.reduceLE, Int.reduceAdd, Int.reduceSub, Int.reduceMul, Int.reduceNeg, Int.reduceToNat, Int.reduceEq]) (by simp only [go_sem, reduceCtorEq, reduceIte, Nat.reduceEqDiff, Nat.reduceAdd, Nat.reduceLeDiff, Nat.reduceMul, Int.reduceLT, Int.reduceLE, Int.reduceAdd, Int.reduceSub, Int.reduceMul, Int.reduceNeg, Int.reduceToNat, Int.reduceEq])
  have hx' := hx
  simp only [Bool.and_eq_true, decide_eq_true_eq] at hx'
  obtain ⟨hS, hn0, hn6⟩ := hx'
  obtain ⟨z, rfl⟩ : ∃ z : Nat, n = z := ⟨n.toNat, by omega⟩
  rw [Int.toNat_natCast] at rd1
  have hz6 : z ≤ 6 := by omega
  refine cut (QA (fzOf W) su L k z r11 a q c) ?_ ?_
  · simp only [go_sem, reduceCtorEq, reduceIte, Nat.reduceEqDiff, Nat.reduceAdd, Nat.reduceLeDiff, Nat.reduceMul, Int.reduceLT, Int.reduceLE, Int.reduceAdd, Int.reduceSub, Int.reduceMul, Int.reduceNeg, Int.reduceToNat, Int.reduceEq, s.h3, s.h4, h10, h11, h12]
    refine callK_same (k21 _ _ k) ?_
    simp only [go_sem, reduceCtorEq, reduceIte, Nat.reduceEqDiff, Nat.reduceAdd, Nat.reduceLeDiff, Nat.reduceMul, Int.reduceLT, Int.reduceLE, Int.reduceAdd, Int.reduceSub, Int.reduceMul, Int.reduceNeg, Int.reduceToNat, Int.reduceEq, s.h3, s.h4, h10, h11, h12, hS]
    refine callK_same (k22 _ _ z 6) ?_
    have e1 : (decide ((0 : Int) ≤ z) && decide ((z : Int) ≤ 6)) = true := by simp; omega
    rw [e1]
    simp only [go_sem, reduceCtorEq, reduceIte, Nat.reduceEqDiff, Nat.reduceAdd, Nat.reduceLeDiff, Nat.reduceMul, Int.reduceLT, Int.reduceLE, Int.reduceAdd, Int.reduceSub, Int.reduceMul, Int.reduceNeg, Int.reduceToNat, Int.reduceEq, s.h3, s.h4, h10, h11, h12]
    refine callK_same (k17 _ _ 0) ?_
    simp only [go_sem, reduceCtorEq, reduceIte, Nat.reduceEqDiff, Nat.reduceAdd, Nat.reduceLeDiff, Nat.reduceMul, Int.reduceLT, Int.reduceLE, Int.reduceAdd, Int.reduceSub, Int.reduceMul, Int.reduceNeg, Int.reduceToNat, Int.reduceEq, s.h3, s.h4, h10, h11, h12]
    refine callK_same (k17 _ _ 0) ?_
    simp only [go_sem, reduceCtorEq, reduceIte, Nat.reduceEqDiff, Nat.reduceAdd, Nat.reduceLeDiff, Nat.reduceMul, Int.reduceLT, Int.reduceLE, Int.reduceAdd, Int.reduceSub, Int.reduceMul, Int.reduceNeg, Int.reduceToNat, Int.reduceEq, s.h3, s.h4, h10, h11, h12]
    exact ⟨⟨s.ext (by simp only [go_sem, reduceCtorEq, reduceIte, Nat.reduceEqDiff, Nat.reduceAdd, Nat.reduceLeDiff, Nat.reduceMul, Int.reduceLT, Int.reduceLE, Int.reduceAdd, Int.reduceSub, Int.reduceMul, Int.reduceNeg, Int.reduceToNat, Int.reduceEq]) (by simp only [go_sem, reduceCtorEq, reduceIte, Nat.reduceEqDiff, Nat.reduceAdd, Nat.reduceLeDiff, Nat.reduceMul, Int.reduceLT, Int.reduceLE, Int.reduceAdd, Int.reduceSub, Int.reduceMul, Int.reduceNeg, Int.reduceToNat, Int.reduceEq]), by simp only [go_sem, reduceCtorEq, reduceIte, Nat.reduceEqDiff, Nat.reduceAdd, Nat.reduceLeDiff, Nat.reduceMul, Int.reduceLT, Int.reduceLE, Int.reduceAdd, Int.reduceSub, Int.reduceMul, Int.reduceNeg, Int.reduceToNat, Int.reduceEq, h10], by simp only [go_sem, reduceCtorEq, reduceIte, Nat.reduceEqDiff, Nat.reduceAdd, Nat.reduceLeDiff, Nat.reduceMul, Int.reduceLT, Int.reduceLE, Int.reduceAdd, Int.reduceSub, Int.reduceMul, Int.reduceNeg, Int.reduceToNat, Int.reduceEq, h11], f11, rd1⟩, by simp only [go_sem, reduceCtorEq, reduceIte, Nat.reduceEqDiff, Nat.reduceAdd, Nat.reduceLeDiff, Nat.reduceMul, Int.reduceLT, Int.reduceLE, Int.reduceAdd, Int.reduceSub, Int.reduceMul, Int.reduceNeg, Int.reduceToNat, Int.reduceEq, h12]⟩
  clear h10 h11 h12 f11 b11 rd1 hx
  clear s
  rintro σ F M ⟨s, h12⟩
  obtain rfl := s.ff
  refine cut (Q2 (fzOf W) su L k z r11 a q c) ?_ ?_
  · simp only [go_sem, reduceCtorEq, reduceIte, Nat.reduceEqDiff, Nat.reduceAdd, Nat.reduceLeDiff, Nat.reduceMul, Int.reduceLT, Int.reduceLE, Int.reduceAdd, Int.reduceSub, Int.reduceMul, Int.reduceNeg, Int.reduceToNat, Int.reduceEq, s.h3, s.h4, s.h10, s.h11, h12]
    refine callK_same (k17 _ _ 0) ?_
    simp only [go_sem, reduceCtorEq, reduceIte, Nat.reduceEqDiff, Nat.reduceAdd, Nat.reduceLeDiff, Nat.reduceMul, Int.reduceLT, Int.reduceLE, Int.reduceAdd, Int.reduceSub, Int.reduceMul, Int.reduceNeg, Int.reduceToNat, Int.reduceEq, s.h3, s.h4, s.h10, s.h11, h12]
    exact s.ext (by simp only [go_sem, reduceCtorEq, reduceIte, Nat.reduceEqDiff, Nat.reduceAdd, Nat.reduceLeDiff, Nat.reduceMul, Int.reduceLT, Int.reduceLE, Int.reduceAdd, Int.reduceSub, Int.reduceMul, Int.reduceNeg, Int.reduceToNat, Int.reduceEq]) (by simp only [go_sem, reduceCtorEq, reduceIte, Nat.reduceEqDiff, Nat.reduceAdd, Nat.reduceLeDiff, Nat.reduceMul, Int.reduceLT, Int.reduceLE, Int.reduceAdd, Int.reduceSub, Int.reduceMul, Int.reduceNeg, Int.reduceToNat, Int.reduceEq]) (by simp only [go_sem, reduceCtorEq, reduceIte, Nat.reduceEqDiff, Nat.reduceAdd, Nat.reduceLeDiff, Nat.reduceMul, Int.reduceLT, Int.reduceLE, Int.reduceAdd, Int.reduceSub, Int.reduceMul, Int.reduceNeg, Int.reduceToNat, Int.reduceEq]) (by simp only [go_sem, reduceCtorEq, reduceIte, Nat.reduceEqDiff, Nat.reduceAdd, Nat.reduceLeDiff, Nat.reduceMul, Int.reduceLT, Int.reduceLE, Int.reduceAdd, Int.reduceSub, Int.reduceMul, Int.reduceNeg, Int.reduceToNat, Int.reduceEq])
  clear h12
  clear s
  rintro σ F M s
  obtain rfl := s.ff
  have ez : ∀ m : Nat, IntKind.i64.wrap ((z : Int) + 1) = z + 1 := fun _ => w64 (by omega) (by omega)
  have b11 := blk_M (F := fzOf W) s.f11
  refine cut (Q2 (fzOf W) su L k z r11 a q c) ?_ ?_
  · simp only [go_sem, reduceCtorEq, reduceIte, Nat.reduceEqDiff, Nat.reduceAdd, Nat.reduceLeDiff, Nat.reduceMul, Int.reduceLT, Int.reduceLE, Int.reduceAdd, Int.reduceSub, Int.reduceMul, Int.reduceNeg, Int.reduceToNat, Int.reduceEq, s.h3, s.h4, s.h10, s.h11, b11]
    refine callK_same (k19 _ _ k _ _ _ s.rda) ?_
    simp only [go_sem, reduceCtorEq, reduceIte, Nat.reduceEqDiff, Nat.reduceAdd, Nat.reduceLeDiff, Nat.reduceMul, Int.reduceLT, Int.reduceLE, Int.reduceAdd, Int.reduceSub, Int.reduceMul, Int.reduceNeg, Int.reduceToNat, Int.reduceEq, s.h3, s.h4, s.h10, s.h11, b11, all_abs hS hz6]
    exact s.ext (by simp only [go_sem, reduceCtorEq, reduceIte, Nat.reduceEqDiff, Nat.reduceAdd, Nat.reduceLeDiff, Nat.reduceMul, Int.reduceLT, Int.reduceLE, Int.reduceAdd, Int.reduceSub, Int.reduceMul, Int.reduceNeg, Int.reduceToNat, Int.reduceEq]) (by simp only [go_sem, reduceCtorEq, reduceIte, Nat.reduceEqDiff, Nat.reduceAdd, Nat.reduceLeDiff, Nat.reduceMul, Int.reduceLT, Int.reduceLE, Int.reduceAdd, Int.reduceSub, Int.reduceMul, Int.reduceNeg, Int.reduceToNat, Int.reduceEq]) (by simp only [go_sem, reduceCtorEq, reduceIte, Nat.reduceEqDiff, Nat.reduceAdd, Nat.reduceLeDiff, Nat.reduceMul, Int.reduceLT, Int.reduceLE, Int.reduceAdd, Int.reduceSub, Int.reduceMul, Int.reduceNeg, Int.reduceToNat, Int.reduceEq]) (by simp only [go_sem, reduceCtorEq, reduceIte, Nat.reduceEqDiff, Nat.reduceAdd, Nat.reduceLeDiff, Nat.reduceMul, Int.reduceLT, Int.reduceLE, Int.reduceAdd, Int.reduceSub, Int.reduceMul, Int.reduceNeg, Int.reduceToNat, Int.reduceEq])
  clear b11
  clear s
  rintro σ F M s
  obtain rfl := s.ff
  refine cut (Q2 (fzOf W) su L k z r11 a q c) ?_ ?_
  · -- each scalar
    simp only [go_sem, reduceCtorEq, reduceIte, Nat.reduceEqDiff, Nat.reduceAdd, Nat.reduceLeDiff, Nat.reduceMul, Int.reduceLT, Int.reduceLE, Int.reduceAdd, Int.reduceSub, Int.reduceMul, Int.reduceNeg, Int.reduceToNat, Int.reduceEq, s.h3, s.h4, s.h10, s.h11]
    refine loop_of (vI (fzOf W) su L k z r11 a q c) L.length ?_ ?_
    · exact ⟨s.ext (by simp only [go_sem, reduceCtorEq, reduceIte, Nat.reduceEqDiff, Nat.reduceAdd, Nat.reduceLeDiff, Nat.reduceMul, Int.reduceLT, Int.reduceLE, Int.reduceAdd, Int.reduceSub, Int.reduceMul, Int.reduceNeg, Int.reduceToNat, Int.reduceEq]) (by simp only [go_sem, reduceCtorEq, reduceIte, Nat.reduceEqDiff, Nat.reduceAdd, Nat.reduceLeDiff, Nat.reduceMul, Int.reduceLT, Int.reduceLE, Int.reduceAdd, Int.reduceSub, Int.reduceMul, Int.reduceNeg, Int.reduceToNat, Int.reduceEq]) (by simp only [go_sem, reduceCtorEq, reduceIte, Nat.reduceEqDiff, Nat.reduceAdd, Nat.reduceLeDiff, Nat.reduceMul, Int.reduceLT, Int.reduceLE, Int.reduceAdd, Int.reduceSub, Int.reduceMul, Int.reduceNeg, Int.reduceToNat, Int.reduceEq]) (by simp only [go_sem, reduceCtorEq, reduceIte, Nat.reduceEqDiff, Nat.reduceAdd, Nat.reduceLeDiff, Nat.reduceMul, Int.reduceLT, Int.reduceLE, Int.reduceAdd, Int.reduceSub, Int.reduceMul, Int.reduceNeg, Int.reduceToNat, Int.reduceEq]), 0, by omega, by simp only [go_sem, reduceCtorEq, reduceIte, Nat.reduceEqDiff, Nat.reduceAdd, Nat.reduceLeDiff, Nat.reduceMul, Int.reduceLT, Int.reduceLE, Int.reduceAdd, Int.reduceSub, Int.reduceMul, Int.reduceNeg, Int.reduceToNat, Int.reduceEq] <;> rfl⟩
    clear s
    rintro mj σ F M ⟨s, j, hj, h13⟩
    obtain rfl := s.ff
    have h3 := s.h3
    rw [hsu] at h3
    by_cases hjl : (j : Int) < L.length
    rotate_left
    · simp only [go_sem, reduceCtorEq, reduceIte, Nat.reduceEqDiff, Nat.reduceAdd, Nat.reduceLeDiff, Nat.reduceMul, Int.reduceLT, Int.reduceLE, Int.reduceAdd, Int.reduceSub, Int.reduceMul, Int.reduceNeg, Int.reduceToNat, Int.reduceEq, h3, s.h4, s.h10, s.h11, h13, hjl]
      exact s.ext (by simp only [go_sem, reduceCtorEq, reduceIte, Nat.reduceEqDiff, Nat.reduceAdd, Nat.reduceLeDiff, Nat.reduceMul, Int.reduceLT, Int.reduceLE, Int.reduceAdd, Int.reduceSub, Int.reduceMul, Int.reduceNeg, Int.reduceToNat, Int.reduceEq, s.h3]) (by simp only [go_sem, reduceCtorEq, reduceIte, Nat.reduceEqDiff, Nat.reduceAdd, Nat.reduceLeDiff, Nat.reduceMul, Int.reduceLT, Int.reduceLE, Int.reduceAdd, Int.reduceSub, Int.reduceMul, Int.reduceNeg, Int.reduceToNat, Int.reduceEq]) (by simp only [go_sem, reduceCtorEq, reduceIte, Nat.reduceEqDiff, Nat.reduceAdd, Nat.reduceLeDiff, Nat.reduceMul, Int.reduceLT, Int.reduceLE, Int.reduceAdd, Int.reduceSub, Int.reduceMul, Int.reduceNeg, Int.reduceToNat, Int.reduceEq]) (by simp only [go_sem, reduceCtorEq, reduceIte, Nat.reduceEqDiff, Nat.reduceAdd, Nat.reduceLeDiff, Nat.reduceMul, Int.reduceLT, Int.reduceLE, Int.reduceAdd, Int.reduceSub, Int.reduceMul, Int.reduceNeg, Int.reduceToNat, Int.reduceEq])
    by_cases hj12 : (j : Int) < 12
    rotate_left
    · simp only [go_sem, reduceCtorEq, reduceIte, Nat.reduceEqDiff, Nat.reduceAdd, Nat.reduceLeDiff, Nat.reduceMul, Int.reduceLT, Int.reduceLE, Int.reduceAdd, Int.reduceSub, Int.reduceMul, Int.reduceNeg, Int.reduceToNat, Int.reduceEq, h3, s.h4, s.h10, s.h11, h13, hjl, hj12]
      exact s.ext (by simp only [go_sem, reduceCtorEq, reduceIte, Nat.reduceEqDiff, Nat.reduceAdd, Nat.reduceLeDiff, Nat.reduceMul, Int.reduceLT, Int.reduceLE, Int.reduceAdd, Int.reduceSub, Int.reduceMul, Int.reduceNeg, Int.reduceToNat, Int.reduceEq, s.h3]) (by simp only [go_sem, reduceCtorEq, reduceIte, Nat.reduceEqDiff, Nat.reduceAdd, Nat.reduceLeDiff, Nat.reduceMul, Int.reduceLT, Int.reduceLE, Int.reduceAdd, Int.reduceSub, Int.reduceMul, Int.reduceNeg, Int.reduceToNat, Int.reduceEq]) (by simp only [go_sem, reduceCtorEq, reduceIte, Nat.reduceEqDiff, Nat.reduceAdd, Nat.reduceLeDiff, Nat.reduceMul, Int.reduceLT, Int.reduceLE, Int.reduceAdd, Int.reduceSub, Int.reduceMul, Int.reduceNeg, Int.reduceToNat, Int.reduceEq]) (by simp only [go_sem, reduceCtorEq, reduceIte, Nat.reduceEqDiff, Nat.reduceAdd, Nat.reduceLeDiff, Nat.reduceMul, Int.reduceLT, Int.reduceLE, Int.reduceAdd, Int.reduceSub, Int.reduceMul, Int.reduceNeg, Int.reduceToNat, Int.reduceEq])
    have ej : IntKind.i64.wrap ((j : Int) + 1) = j + 1 := w64 (by omega) (by omega)
    refine cut (vB (fzOf W) su L k z r11 a q c j) ?_ ?_
    · simp only [go_sem, reduceCtorEq, reduceIte, Nat.reduceEqDiff, Nat.reduceAdd, Nat.reduceLeDiff, Nat.reduceMul, Int.reduceLT, Int.reduceLE, Int.reduceAdd, Int.reduceSub, Int.reduceMul, Int.reduceNeg, Int.reduceToNat, Int.reduceEq, h3, s.h4, s.h10, s.h11, h13, hjl, hj12]
      exact ⟨s.ext (by simp only [go_sem, reduceCtorEq, reduceIte, Nat.reduceEqDiff, Nat.reduceAdd, Nat.reduceLeDiff, Nat.reduceMul, Int.reduceLT, Int.reduceLE, Int.reduceAdd, Int.reduceSub, Int.reduceMul, Int.reduceNeg, Int.reduceToNat, Int.reduceEq, s.h3]) (by simp only [go_sem, reduceCtorEq, reduceIte, Nat.reduceEqDiff, Nat.reduceAdd, Nat.reduceLeDiff, Nat.reduceMul, Int.reduceLT, Int.reduceLE, Int.reduceAdd, Int.reduceSub, Int.reduceMul, Int.reduceNeg, Int.reduceToNat, Int.reduceEq]) (by simp only [go_sem, reduceCtorEq, reduceIte, Nat.reduceEqDiff, Nat.reduceAdd, Nat.reduceLeDiff, Nat.reduceMul, Int.reduceLT, Int.reduceLE, Int.reduceAdd, Int.reduceSub, Int.reduceMul, Int.reduceNeg, Int.reduceToNat, Int.reduceEq]) (by simp only [go_sem, reduceCtorEq, reduceIte, Nat.reduceEqDiff, Nat.reduceAdd, Nat.reduceLeDiff, Nat.reduceMul, Int.reduceLT, Int.reduceLE, Int.reduceAdd, Int.reduceSub, Int.reduceMul, Int.reduceNeg, Int.reduceToNat, Int.reduceEq]), by simp only [go_sem, reduceCtorEq, reduceIte, Nat.reduceEqDiff, Nat.reduceAdd, Nat.reduceLeDiff, Nat.reduceMul, Int.reduceLT, Int.reduceLE, Int.reduceAdd, Int.reduceSub, Int.reduceMul, Int.reduceNeg, Int.reduceToNat, Int.reduceEq, h13]⟩
    clear h3 h13
    clear s
    rintro σ F M ⟨s, h13⟩
    obtain rfl := s.ff
    refine cut (vB (fzOf W) su L k z r11 a q c j) ?_ ?_
    rotate_left
    · rintro σ F M ⟨s, h13⟩
      obtain rfl := s.ff
      simp only [go_sem, reduceCtorEq, reduceIte, Nat.reduceEqDiff, Nat.reduceAdd, Nat.reduceLeDiff, Nat.reduceMul, Int.reduceLT, Int.reduceLE, Int.reduceAdd, Int.reduceSub, Int.reduceMul, Int.reduceNeg, Int.reduceToNat, Int.reduceEq, s.h3, s.h4, s.h10, s.h11, h13, ej]
      exact ⟨mj - 1, by omega, s.ext (by simp only [go_sem, reduceCtorEq, reduceIte, Nat.reduceEqDiff, Nat.reduceAdd, Nat.reduceLeDiff, Nat.reduceMul, Int.reduceLT, Int.reduceLE, Int.reduceAdd, Int.reduceSub, Int.reduceMul, Int.reduceNeg, Int.reduceToNat, Int.reduceEq]) (by simp only [go_sem, reduceCtorEq, reduceIte, Nat.reduceEqDiff, Nat.reduceAdd, Nat.reduceLeDiff, Nat.reduceMul, Int.reduceLT, Int.reduceLE, Int.reduceAdd, Int.reduceSub, Int.reduceMul, Int.reduceNeg, Int.reduceToNat, Int.reduceEq]) (by simp only [go_sem, reduceCtorEq, reduceIte, Nat.reduceEqDiff, Nat.reduceAdd, Nat.reduceLeDiff, Nat.reduceMul, Int.reduceLT, Int.reduceLE, Int.reduceAdd, Int.reduceSub, Int.reduceMul, Int.reduceNeg, Int.reduceToNat, Int.reduceEq]) (by simp only [go_sem, reduceCtorEq, reduceIte, Nat.reduceEqDiff, Nat.reduceAdd, Nat.reduceLeDiff, Nat.reduceMul, Int.reduceLT, Int.reduceLE, Int.reduceAdd, Int.reduceSub, Int.reduceMul, Int.reduceNeg, Int.reduceToNat, Int.reduceEq]), j + 1, by omega, by simp only [go_sem, reduceCtorEq, reduceIte, Nat.reduceEqDiff, Nat.reduceAdd, Nat.reduceLeDiff, Nat.reduceMul, Int.reduceLT, Int.reduceLE, Int.reduceAdd, Int.reduceSub, Int.reduceMul, Int.reduceNeg, Int.reduceToNat, Int.reduceEq]; rfl⟩
    rw [W_block]
    have hj' : j < L.length := by omega
    have hj0 : (0 : Int) ≤ j := by omega
    obtain ⟨b, o, cap', cs, eu, hb, d1, d2, d3⟩ := sc_at s.rd hj'
    have h3 := s.h3
    rw [eu] at h3
    generalize L[j] = x at *
    have b11 := blk_M (F := fzOf W) s.f11
    simp only [go_sem, reduceCtorEq, reduceIte, Nat.reduceEqDiff, Nat.reduceAdd, Nat.reduceLeDiff, Nat.reduceMul, Int.reduceLT, Int.reduceLE, Int.reduceAdd, Int.reduceSub, Int.reduceMul, Int.reduceNeg, Int.reduceToNat, Int.reduceEq, h3, s.h4, s.h10, s.h11, h13, hjl, hj0, Int.toNat_natCast, hb, d1, d2, b11]
    refine callK_same (k16 _ _ k x) ?_
    cases hx : sc6B k x
    · simp only [go_sem, reduceCtorEq, reduceIte, Nat.reduceEqDiff, Nat.reduceAdd, Nat.reduceLeDiff, Nat.reduceMul, Int.reduceLT, Int.reduceLE, Int.reduceAdd, Int.reduceSub, Int.reduceMul, Int.reduceNeg, Int.reduceToNat, Int.reduceEq, h3, s.h4, s.h10, s.h11, h13]
      exact ⟨s.ext (by simp only [go_sem, reduceCtorEq, reduceIte, Nat.reduceEqDiff, Nat.reduceAdd, Nat.reduceLeDiff, Nat.reduceMul, Int.reduceLT, Int.reduceLE, Int.reduceAdd, Int.reduceSub, Int.reduceMul, Int.reduceNeg, Int.reduceToNat, Int.reduceEq, s.h3, eu]) (by simp only [go_sem, reduceCtorEq, reduceIte, Nat.reduceEqDiff, Nat.reduceAdd, Nat.reduceLeDiff, Nat.reduceMul, Int.reduceLT, Int.reduceLE, Int.reduceAdd, Int.reduceSub, Int.reduceMul, Int.reduceNeg, Int.reduceToNat, Int.reduceEq]) (by simp only [go_sem, reduceCtorEq, reduceIte, Nat.reduceEqDiff, Nat.reduceAdd, Nat.reduceLeDiff, Nat.reduceMul, Int.reduceLT, Int.reduceLE, Int.reduceAdd, Int.reduceSub, Int.reduceMul, Int.reduceNeg, Int.reduceToNat, Int.reduceEq]) (by simp only [go_sem, reduceCtorEq, reduceIte, Nat.reduceEqDiff, Nat.reduceAdd, Nat.reduceLeDiff, Nat.reduceMul, Int.reduceLT, Int.reduceLE, Int.reduceAdd, Int.reduceSub, Int.reduceMul, Int.reduceNeg, Int.reduceToNat, Int.reduceEq]), by simp only [go_sem, reduceCtorEq, reduceIte, Nat.reduceEqDiff, Nat.reduceAdd, Nat.reduceLeDiff, Nat.reduceMul, Int.reduceLT, Int.reduceLE, Int.reduceAdd, Int.reduceSub, Int.reduceMul, Int.reduceNeg, Int.reduceToNat, Int.reduceEq, h13]⟩
    · simp only [go_sem, reduceCtorEq, reduceIte, Nat.reduceEqDiff, Nat.reduceAdd, Nat.reduceLeDiff, Nat.reduceMul, Int.reduceLT, Int.reduceLE, Int.reduceAdd, Int.reduceSub, Int.reduceMul, Int.reduceNeg, Int.reduceToNat, Int.reduceEq, h3, s.h4, s.h10, s.h11, h13, hjl, hj0, Int.toNat_natCast, hb, d1, d2, d3, b11]
      refine callK_same (k23 _ _ k _ _ _ x s.rda) ?_
      rw [all_has hx hz6]
      simp only [go_sem, reduceCtorEq, reduceIte, Nat.reduceEqDiff, Nat.reduceAdd, Nat.reduceLeDiff, Nat.reduceMul, Int.reduceLT, Int.reduceLE, Int.reduceAdd, Int.reduceSub, Int.reduceMul, Int.reduceNeg, Int.reduceToNat, Int.reduceEq, h3, s.h4, s.h10, s.h11, h13]
      exact ⟨s.ext (by simp only [go_sem, reduceCtorEq, reduceIte, Nat.reduceEqDiff, Nat.reduceAdd, Nat.reduceLeDiff, Nat.reduceMul, Int.reduceLT, Int.reduceLE, Int.reduceAdd, Int.reduceSub, Int.reduceMul, Int.reduceNeg, Int.reduceToNat, Int.reduceEq, s.h3, eu]) (by simp only [go_sem, reduceCtorEq, reduceIte, Nat.reduceEqDiff, Nat.reduceAdd, Nat.reduceLeDiff, Nat.reduceMul, Int.reduceLT, Int.reduceLE, Int.reduceAdd, Int.reduceSub, Int.reduceMul, Int.reduceNeg, Int.reduceToNat, Int.reduceEq]) (by simp only [go_sem, reduceCtorEq, reduceIte, Nat.reduceEqDiff, Nat.reduceAdd, Nat.reduceLeDiff, Nat.reduceMul, Int.reduceLT, Int.reduceLE, Int.reduceAdd, Int.reduceSub, Int.reduceMul, Int.reduceNeg, Int.reduceToNat, Int.reduceEq]) (by simp only [go_sem, reduceCtorEq, reduceIte, Nat.reduceEqDiff, Nat.reduceAdd, Nat.reduceLeDiff, Nat.reduceMul, Int.reduceLT, Int.reduceLE, Int.reduceAdd, Int.reduceSub, Int.reduceMul, Int.reduceNeg, Int.reduceToNat, Int.reduceEq]), by simp only [go_sem, reduceCtorEq, reduceIte, Nat.reduceEqDiff, Nat.reduceAdd, Nat.reduceLeDiff, Nat.reduceMul, Int.reduceLT, Int.reduceLE, Int.reduceAdd, Int.reduceSub, Int.reduceMul, Int.reduceNeg, Int.reduceToNat, Int.reduceEq, h13]⟩
  -- each block
  clear s
  rintro σ F M s
  obtain rfl := s.ff
  simp only [go_sem, reduceCtorEq, reduceIte, Nat.reduceEqDiff, Nat.reduceAdd, Nat.reduceLeDiff, Nat.reduceMul, Int.reduceLT, Int.reduceLE, Int.reduceAdd, Int.reduceSub, Int.reduceMul, Int.reduceNeg, Int.reduceToNat, Int.reduceEq, s.h3, s.h4, s.h10, s.h11]
  refine loop_of (bI (fzOf W) su L k z r11 a q c) (z + 1) ?_ ?_
  · exact ⟨s.ext (by simp only [go_sem, reduceCtorEq, reduceIte, Nat.reduceEqDiff, Nat.reduceAdd, Nat.reduceLeDiff, Nat.reduceMul, Int.reduceLT, Int.reduceLE, Int.reduceAdd, Int.reduceSub, Int.reduceMul, Int.reduceNeg, Int.reduceToNat, Int.reduceEq]) (by simp only [go_sem, reduceCtorEq, reduceIte, Nat.reduceEqDiff, Nat.reduceAdd, Nat.reduceLeDiff, Nat.reduceMul, Int.reduceLT, Int.reduceLE, Int.reduceAdd, Int.reduceSub, Int.reduceMul, Int.reduceNeg, Int.reduceToNat, Int.reduceEq]) (by simp only [go_sem, reduceCtorEq, reduceIte, Nat.reduceEqDiff, Nat.reduceAdd, Nat.reduceLeDiff, Nat.reduceMul, Int.reduceLT, Int.reduceLE, Int.reduceAdd, Int.reduceSub, Int.reduceMul, Int.reduceNeg, Int.reduceToNat, Int.reduceEq]) (by simp only [go_sem, reduceCtorEq, reduceIte, Nat.reduceEqDiff, Nat.reduceAdd, Nat.reduceLeDiff, Nat.reduceMul, Int.reduceLT, Int.reduceLE, Int.reduceAdd, Int.reduceSub, Int.reduceMul, Int.reduceNeg, Int.reduceToNat, Int.reduceEq]), 0, by omega, by simp only [go_sem, reduceCtorEq, reduceIte, Nat.reduceEqDiff, Nat.reduceAdd, Nat.reduceLeDiff, Nat.reduceMul, Int.reduceLT, Int.reduceLE, Int.reduceAdd, Int.reduceSub, Int.reduceMul, Int.reduceNeg, Int.reduceToNat, Int.reduceEq] <;> rfl⟩
  clear s
  rintro mb σ F M ⟨s, b, hb, h14⟩
  obtain rfl := s.ff
  by_cases hbz : (b : Int) ≤ z
  rotate_left
  · simp only [go_sem, reduceCtorEq, reduceIte, Nat.reduceEqDiff, Nat.reduceAdd, Nat.reduceLeDiff, Nat.reduceMul, Int.reduceLT, Int.reduceLE, Int.reduceAdd, Int.reduceSub, Int.reduceMul, Int.reduceNeg, Int.reduceToNat, Int.reduceEq, s.h3, s.h4, s.h10, s.h11, h14, hbz]
    exact ⟨s.toQ1.ext (by simp only [go_sem, reduceCtorEq, reduceIte, Nat.reduceEqDiff, Nat.reduceAdd, Nat.reduceLeDiff, Nat.reduceMul, Int.reduceLT, Int.reduceLE, Int.reduceAdd, Int.reduceSub, Int.reduceMul, Int.reduceNeg, Int.reduceToNat, Int.reduceEq]) (by simp only [go_sem, reduceCtorEq, reduceIte, Nat.reduceEqDiff, Nat.reduceAdd, Nat.reduceLeDiff, Nat.reduceMul, Int.reduceLT, Int.reduceLE, Int.reduceAdd, Int.reduceSub, Int.reduceMul, Int.reduceNeg, Int.reduceToNat, Int.reduceEq]), by simp only [go_sem, reduceCtorEq, reduceIte, Nat.reduceEqDiff, Nat.reduceAdd, Nat.reduceLeDiff, Nat.reduceMul, Int.reduceLT, Int.reduceLE, Int.reduceAdd, Int.reduceSub, Int.reduceMul, Int.reduceNeg, Int.reduceToNat, Int.reduceEq, s.h10]⟩
  by_cases hk7 : (k : Int) = 7
  rotate_left
  · simp only [go_sem, reduceCtorEq, reduceIte, Nat.reduceEqDiff, Nat.reduceAdd, Nat.reduceLeDiff, Nat.reduceMul, Int.reduceLT, Int.reduceLE, Int.reduceAdd, Int.reduceSub, Int.reduceMul, Int.reduceNeg, Int.reduceToNat, Int.reduceEq, s.h3, s.h4, s.h10, s.h11, h14, hbz, hk7]
    exact ⟨s.toQ1.ext (by simp only [go_sem, reduceCtorEq, reduceIte, Nat.reduceEqDiff, Nat.reduceAdd, Nat.reduceLeDiff, Nat.reduceMul, Int.reduceLT, Int.reduceLE, Int.reduceAdd, Int.reduceSub, Int.reduceMul, Int.reduceNeg, Int.reduceToNat, Int.reduceEq]) (by simp only [go_sem, reduceCtorEq, reduceIte, Nat.reduceEqDiff, Nat.reduceAdd, Nat.reduceLeDiff, Nat.reduceMul, Int.reduceLT, Int.reduceLE, Int.reduceAdd, Int.reduceSub, Int.reduceMul, Int.reduceNeg, Int.reduceToNat, Int.reduceEq]), by simp only [go_sem, reduceCtorEq, reduceIte, Nat.reduceEqDiff, Nat.reduceAdd, Nat.reduceLeDiff, Nat.reduceMul, Int.reduceLT, Int.reduceLE, Int.reduceAdd, Int.reduceSub, Int.reduceMul, Int.reduceNeg, Int.reduceToNat, Int.reduceEq, s.h10]⟩
  have eb : IntKind.i64.wrap ((b : Int) + 1) = b + 1 := w64 (by omega) (by omega)
  refine cut (bB (fzOf W) su L k z r11 a q c b) ?_ ?_
  · simp only [go_sem, reduceCtorEq, reduceIte, Nat.reduceEqDiff, Nat.reduceAdd, Nat.reduceLeDiff, Nat.reduceMul, Int.reduceLT, Int.reduceLE, Int.reduceAdd, Int.reduceSub, Int.reduceMul, Int.reduceNeg, Int.reduceToNat, Int.reduceEq, s.h3, s.h4, s.h10, s.h11, h14, hbz, hk7]
    exact ⟨s.ext (by simp only [go_sem, reduceCtorEq, reduceIte, Nat.reduceEqDiff, Nat.reduceAdd, Nat.reduceLeDiff, Nat.reduceMul, Int.reduceLT, Int.reduceLE, Int.reduceAdd, Int.reduceSub, Int.reduceMul, Int.reduceNeg, Int.reduceToNat, Int.reduceEq]) (by simp only [go_sem, reduceCtorEq, reduceIte, Nat.reduceEqDiff, Nat.reduceAdd, Nat.reduceLeDiff, Nat.reduceMul, Int.reduceLT, Int.reduceLE, Int.reduceAdd, Int.reduceSub, Int.reduceMul, Int.reduceNeg, Int.reduceToNat, Int.reduceEq, s.h4]) (by simp only [go_sem, reduceCtorEq, reduceIte, Nat.reduceEqDiff, Nat.reduceAdd, Nat.reduceLeDiff, Nat.reduceMul, Int.reduceLT, Int.reduceLE, Int.reduceAdd, Int.reduceSub, Int.reduceMul, Int.reduceNeg, Int.reduceToNat, Int.reduceEq]) (by simp only [go_sem, reduceCtorEq, reduceIte, Nat.reduceEqDiff, Nat.reduceAdd, Nat.reduceLeDiff, Nat.reduceMul, Int.reduceLT, Int.reduceLE, Int.reduceAdd, Int.reduceSub, Int.reduceMul, Int.reduceNeg, Int.reduceToNat, Int.reduceEq]), by simp only [go_sem, reduceCtorEq, reduceIte, Nat.reduceEqDiff, Nat.reduceAdd, Nat.reduceLeDiff, Nat.reduceMul, Int.reduceLT, Int.reduceLE, Int.reduceAdd, Int.reduceSub, Int.reduceMul, Int.reduceNeg, Int.reduceToNat, Int.reduceEq, h14]⟩
  clear h14
  clear s
  rintro σ F M ⟨s, h14⟩
  obtain rfl := s.ff
  refine cut (bB (fzOf W) su L k z r11 a q c b) ?_ ?_
  rotate_left
  · rintro σ F M ⟨s, h14⟩
    obtain rfl := s.ff
    simp only [go_sem, reduceCtorEq, reduceIte, Nat.reduceEqDiff, Nat.reduceAdd, Nat.reduceLeDiff, Nat.reduceMul, Int.reduceLT, Int.reduceLE, Int.reduceAdd, Int.reduceSub, Int.reduceMul, Int.reduceNeg, Int.reduceToNat, Int.reduceEq, s.h3, s.h4, s.h10, s.h11, h14, eb]
    exact ⟨mb - 1, by omega, s.ext (by simp only [go_sem, reduceCtorEq, reduceIte, Nat.reduceEqDiff, Nat.reduceAdd, Nat.reduceLeDiff, Nat.reduceMul, Int.reduceLT, Int.reduceLE, Int.reduceAdd, Int.reduceSub, Int.reduceMul, Int.reduceNeg, Int.reduceToNat, Int.reduceEq]) (by simp only [go_sem, reduceCtorEq, reduceIte, Nat.reduceEqDiff, Nat.reduceAdd, Nat.reduceLeDiff, Nat.reduceMul, Int.reduceLT, Int.reduceLE, Int.reduceAdd, Int.reduceSub, Int.reduceMul, Int.reduceNeg, Int.reduceToNat, Int.reduceEq]) (by simp only [go_sem, reduceCtorEq, reduceIte, Nat.reduceEqDiff, Nat.reduceAdd, Nat.reduceLeDiff, Nat.reduceMul, Int.reduceLT, Int.reduceLE, Int.reduceAdd, Int.reduceSub, Int.reduceMul, Int.reduceNeg, Int.reduceToNat, Int.reduceEq]) (by simp only [go_sem, reduceCtorEq, reduceIte, Nat.reduceEqDiff, Nat.reduceAdd, Nat.reduceLeDiff, Nat.reduceMul, Int.reduceLT, Int.reduceLE, Int.reduceAdd, Int.reduceSub, Int.reduceMul, Int.reduceNeg, Int.reduceToNat, Int.reduceEq]), b + 1, by omega, by simp only [go_sem, reduceCtorEq, reduceIte, Nat.reduceEqDiff, Nat.reduceAdd, Nat.reduceLeDiff, Nat.reduceMul, Int.reduceLT, Int.reduceLE, Int.reduceAdd, Int.reduceSub, Int.reduceMul, Int.reduceNeg, Int.reduceToNat, Int.reduceEq]; rfl⟩
  simp only [go_sem, reduceCtorEq, reduceIte, Nat.reduceEqDiff, Nat.reduceAdd, Nat.reduceLeDiff, Nat.reduceMul, Int.reduceLT, Int.reduceLE, Int.reduceAdd, Int.reduceSub, Int.reduceMul, Int.reduceNeg, Int.reduceToNat, Int.reduceEq, s.h3, s.h4, s.h10, s.h11, h14]
  refine loop_of (oI (fzOf W) su L k z r11 a q c b) 33 ?_ ?_
  · exact ⟨s.ext (by simp only [go_sem, reduceCtorEq, reduceIte, Nat.reduceEqDiff, Nat.reduceAdd, Nat.reduceLeDiff, Nat.reduceMul, Int.reduceLT, Int.reduceLE, Int.reduceAdd, Int.reduceSub, Int.reduceMul, Int.reduceNeg, Int.reduceToNat, Int.reduceEq]) (by simp only [go_sem, reduceCtorEq, reduceIte, Nat.reduceEqDiff, Nat.reduceAdd, Nat.reduceLeDiff, Nat.reduceMul, Int.reduceLT, Int.reduceLE, Int.reduceAdd, Int.reduceSub, Int.reduceMul, Int.reduceNeg, Int.reduceToNat, Int.reduceEq]) (by simp only [go_sem, reduceCtorEq, reduceIte, Nat.reduceEqDiff, Nat.reduceAdd, Nat.reduceLeDiff, Nat.reduceMul, Int.reduceLT, Int.reduceLE, Int.reduceAdd, Int.reduceSub, Int.reduceMul, Int.reduceNeg, Int.reduceToNat, Int.reduceEq]) (by simp only [go_sem, reduceCtorEq, reduceIte, Nat.reduceEqDiff, Nat.reduceAdd, Nat.reduceLeDiff, Nat.reduceMul, Int.reduceLT, Int.reduceLE, Int.reduceAdd, Int.reduceSub, Int.reduceMul, Int.reduceNeg, Int.reduceToNat, Int.reduceEq]), by simp only [go_sem, reduceCtorEq, reduceIte, Nat.reduceEqDiff, Nat.reduceAdd, Nat.reduceLeDiff, Nat.reduceMul, Int.reduceLT, Int.reduceLE, Int.reduceAdd, Int.reduceSub, Int.reduceMul, Int.reduceNeg, Int.reduceToNat, Int.reduceEq, h14], 0, by omega, by simp only [go_sem, reduceCtorEq, reduceIte, Nat.reduceEqDiff, Nat.reduceAdd, Nat.reduceLeDiff, Nat.reduceMul, Int.reduceLT, Int.reduceLE, Int.reduceAdd, Int.reduceSub, Int.reduceMul, Int.reduceNeg, Int.reduceToNat, Int.reduceEq] <;> rfl⟩
  clear h14
  clear s
  rintro mo σ F M ⟨s, h14, o, ho, h15⟩
  obtain rfl := s.ff
  have eo : IntKind.i64.wrap ((o : Int) + 1) = o + 1 := w64 (by omega) (by omega)
  have out : ∀ σ', Ax.look σ' 3 = Ax.look σ 3 → Ax.look σ' 4 = Ax.look σ 4 → Ax.look σ' 10 = Ax.look σ 10 → Ax.look σ' 11 = Ax.look σ 11 → Ax.look σ' 14 = Ax.look σ 14 → bB (fzOf W) su L k z r11 a q c b σ' (fzOf W) M := fun σ' e3 e4 e10 e11 e14 => ⟨s.ext e3 e4 e10 e11, e14.trans h14⟩
  have b11 := blk_M (F := fzOf W) s.f11
  have s4 := s.h4
  have srda := s.rda
  have ek7 : k = 7 := by omega
  rw [hk7] at s4
  by_cases ho32 : (o : Int) ≤ 32
  rotate_left
  · simp only [go_sem, reduceCtorEq, reduceIte, Nat.reduceEqDiff, Nat.reduceAdd, Nat.reduceLeDiff, Nat.reduceMul, Int.reduceLT, Int.reduceLE, Int.reduceAdd, Int.reduceSub, Int.reduceMul, Int.reduceNeg, Int.reduceToNat, Int.reduceEq, s.h3, s4, s.h10, s.h11, h14, h15, ho32]
    exact out _ (by simp only [go_sem, reduceCtorEq, reduceIte, Nat.reduceEqDiff, Nat.reduceAdd, Nat.reduceLeDiff, Nat.reduceMul, Int.reduceLT, Int.reduceLE, Int.reduceAdd, Int.reduceSub, Int.reduceMul, Int.reduceNeg, Int.reduceToNat, Int.reduceEq]) (by simp only [go_sem, reduceCtorEq, reduceIte, Nat.reduceEqDiff, Nat.reduceAdd, Nat.reduceLeDiff, Nat.reduceMul, Int.reduceLT, Int.reduceLE, Int.reduceAdd, Int.reduceSub, Int.reduceMul, Int.reduceNeg, Int.reduceToNat, Int.reduceEq, s.h4, hk7]) (by simp only [go_sem, reduceCtorEq, reduceIte, Nat.reduceEqDiff, Nat.reduceAdd, Nat.reduceLeDiff, Nat.reduceMul, Int.reduceLT, Int.reduceLE, Int.reduceAdd, Int.reduceSub, Int.reduceMul, Int.reduceNeg, Int.reduceToNat, Int.reduceEq]) (by simp only [go_sem, reduceCtorEq, reduceIte, Nat.reduceEqDiff, Nat.reduceAdd, Nat.reduceLeDiff, Nat.reduceMul, Int.reduceLT, Int.reduceLE, Int.reduceAdd, Int.reduceSub, Int.reduceMul, Int.reduceNeg, Int.reduceToNat, Int.reduceEq]) (by simp only [go_sem, reduceCtorEq, reduceIte, Nat.reduceEqDiff, Nat.reduceAdd, Nat.reduceLeDiff, Nat.reduceMul, Int.reduceLT, Int.reduceLE, Int.reduceAdd, Int.reduceSub, Int.reduceMul, Int.reduceNeg, Int.reduceToNat, Int.reduceEq])

  have e1 : (0 : Int) ≤ o := by omega
  have fin : ∀ σ', Ax.look σ' 3 = Ax.look σ 3 → Ax.look σ' 4 = Ax.look σ 4 → Ax.look σ' 10 = Ax.look σ 10 → Ax.look σ' 11 = Ax.look σ 11 → Ax.look σ' 14 = Ax.look σ 14 → Ax.look σ' 15 = some (.int .i64 (o + 1)) →
      ∃ m, m < mo ∧ oI (fzOf W) su L k z r11 a q c b m σ' (fzOf W) M := fun σ' e3 e4 e10 e11 e14 e15 => ⟨mo - 1, by omega, s.ext e3 e4 e10 e11, e14.trans h14, o + 1, by omega, e15⟩
  by_cases hb0 : (0 : Int) < b
  · simp only [go_sem, reduceCtorEq, reduceIte, Nat.reduceEqDiff, Nat.reduceAdd, Nat.reduceLeDiff, Nat.reduceMul, Int.reduceLT, Int.reduceLE, Int.reduceAdd, Int.reduceSub, Int.reduceMul, Int.reduceNeg, Int.reduceToNat, Int.reduceEq, s.h3, s4, s.h10, s.h11, h14, h15, ho32, hb0, b11]
    refine callK_same (k23 _ _ 7 _ _ _ ⟨true, 0, b, o⟩ srda) ?_
    have hpt : hasB 7 (allV k) (allL k z) ⟨true, 0, b, o⟩ = true := by rw [hk7]; exact all_pt hz6 (by omega) (by omega) (by omega)
    rw [hpt]
    simp only [go_sem, reduceCtorEq, reduceIte, Nat.reduceEqDiff, Nat.reduceAdd, Nat.reduceLeDiff, Nat.reduceMul, Int.reduceLT, Int.reduceLE, Int.reduceAdd, Int.reduceSub, Int.reduceMul, Int.reduceNeg, Int.reduceToNat, Int.reduceEq, s.h3, s4, s.h10, s.h11, h14, h15, ho32, hb0, b11, eo]
    exact fin _ (by simp only [go_sem, reduceCtorEq, reduceIte, Nat.reduceEqDiff, Nat.reduceAdd, Nat.reduceLeDiff, Nat.reduceMul, Int.reduceLT, Int.reduceLE, Int.reduceAdd, Int.reduceSub, Int.reduceMul, Int.reduceNeg, Int.reduceToNat, Int.reduceEq]) (by simp only [go_sem, reduceCtorEq, reduceIte, Nat.reduceEqDiff, Nat.reduceAdd, Nat.reduceLeDiff, Nat.reduceMul, Int.reduceLT, Int.reduceLE, Int.reduceAdd, Int.reduceSub, Int.reduceMul, Int.reduceNeg, Int.reduceToNat, Int.reduceEq, s.h4, hk7]) (by simp only [go_sem, reduceCtorEq, reduceIte, Nat.reduceEqDiff, Nat.reduceAdd, Nat.reduceLeDiff, Nat.reduceMul, Int.reduceLT, Int.reduceLE, Int.reduceAdd, Int.reduceSub, Int.reduceMul, Int.reduceNeg, Int.reduceToNat, Int.reduceEq]) (by simp only [go_sem, reduceCtorEq, reduceIte, Nat.reduceEqDiff, Nat.reduceAdd, Nat.reduceLeDiff, Nat.reduceMul, Int.reduceLT, Int.reduceLE, Int.reduceAdd, Int.reduceSub, Int.reduceMul, Int.reduceNeg, Int.reduceToNat, Int.reduceEq]) (by simp only [go_sem, reduceCtorEq, reduceIte, Nat.reduceEqDiff, Nat.reduceAdd, Nat.reduceLeDiff, Nat.reduceMul, Int.reduceLT, Int.reduceLE, Int.reduceAdd, Int.reduceSub, Int.reduceMul, Int.reduceNeg, Int.reduceToNat, Int.reduceEq]) (by simp only [go_sem, reduceCtorEq, reduceIte, Nat.reduceEqDiff, Nat.reduceAdd, Nat.reduceLeDiff, Nat.reduceMul, Int.reduceLT, Int.reduceLE, Int.reduceAdd, Int.reduceSub, Int.reduceMul, Int.reduceNeg, Int.reduceToNat, Int.reduceEq])
  by_cases ho0 : (o : Int) = 0
  rotate_left
  · simp only [go_sem, reduceCtorEq, reduceIte, Nat.reduceEqDiff, Nat.reduceAdd, Nat.reduceLeDiff, Nat.reduceMul, Int.reduceLT, Int.reduceLE, Int.reduceAdd, Int.reduceSub, Int.reduceMul, Int.reduceNeg, Int.reduceToNat, Int.reduceEq, s.h3, s4, s.h10, s.h11, h14, h15, ho32, hb0, ho0]
    exact out _ (by simp only [go_sem, reduceCtorEq, reduceIte, Nat.reduceEqDiff, Nat.reduceAdd, Nat.reduceLeDiff, Nat.reduceMul, Int.reduceLT, Int.reduceLE, Int.reduceAdd, Int.reduceSub, Int.reduceMul, Int.reduceNeg, Int.reduceToNat, Int.reduceEq]) (by simp only [go_sem, reduceCtorEq, reduceIte, Nat.reduceEqDiff, Nat.reduceAdd, Nat.reduceLeDiff, Nat.reduceMul, Int.reduceLT, Int.reduceLE, Int.reduceAdd, Int.reduceSub, Int.reduceMul, Int.reduceNeg, Int.reduceToNat, Int.reduceEq, s.h4, hk7]) (by simp only [go_sem, reduceCtorEq, reduceIte, Nat.reduceEqDiff, Nat.reduceAdd, Nat.reduceLeDiff, Nat.reduceMul, Int.reduceLT, Int.reduceLE, Int.reduceAdd, Int.reduceSub, Int.reduceMul, Int.reduceNeg, Int.reduceToNat, Int.reduceEq]) (by simp only [go_sem, reduceCtorEq, reduceIte, Nat.reduceEqDiff, Nat.reduceAdd, Nat.reduceLeDiff, Nat.reduceMul, Int.reduceLT, Int.reduceLE, Int.reduceAdd, Int.reduceSub, Int.reduceMul, Int.reduceNeg, Int.reduceToNat, Int.reduceEq]) (by simp only [go_sem, reduceCtorEq, reduceIte, Nat.reduceEqDiff, Nat.reduceAdd, Nat.reduceLeDiff, Nat.reduceMul, Int.reduceLT, Int.reduceLE, Int.reduceAdd, Int.reduceSub, Int.reduceMul, Int.reduceNeg, Int.reduceToNat, Int.reduceEq])
  have hpt : hasB 7 (allV k) (allL k z) ⟨true, 0, b, o⟩ = true := by rw [hk7]; exact all_pt hz6 (by omega) (by omega) (by omega)
  have hb0' : b = 0 := by omega
  have ho0' : o = 0 := by omega
  subst hb0' ho0'
  have e2 : ((0 : Nat) : Int) = 0 := rfl
  rw [e2] at h14 h15 hpt eo
  simp only [go_sem, reduceCtorEq, reduceIte, Nat.reduceEqDiff, Nat.reduceAdd, Nat.reduceLeDiff, Nat.reduceMul, Int.reduceLT, Int.reduceLE, Int.reduceAdd, Int.reduceSub, Int.reduceMul, Int.reduceNeg, Int.reduceToNat, Int.reduceEq, s.h3, s4, s.h10, s.h11, h14, h15, b11]
  refine callK_same (k23 _ _ 7 _ _ _ ⟨true, 0, 0, 0⟩ srda) ?_
  rw [hpt]
  simp only [go_sem, reduceCtorEq, reduceIte, Nat.reduceEqDiff, Nat.reduceAdd, Nat.reduceLeDiff, Nat.reduceMul, Int.reduceLT, Int.reduceLE, Int.reduceAdd, Int.reduceSub, Int.reduceMul, Int.reduceNeg, Int.reduceToNat, Int.reduceEq, s.h3, s4, s.h10, s.h11, h14, h15, b11]
  exact fin _ (by simp only [go_sem, reduceCtorEq, reduceIte, Nat.reduceEqDiff, Nat.reduceAdd, Nat.reduceLeDiff, Nat.reduceMul, Int.reduceLT, Int.reduceLE, Int.reduceAdd, Int.reduceSub, Int.reduceMul, Int.reduceNeg, Int.reduceToNat, Int.reduceEq]) (by simp only [go_sem, reduceCtorEq, reduceIte, Nat.reduceEqDiff, Nat.reduceAdd, Nat.reduceLeDiff, Nat.reduceMul, Int.reduceLT, Int.reduceLE, Int.reduceAdd, Int.reduceSub, Int.reduceMul, Int.reduceNeg, Int.reduceToNat, Int.reduceEq, s.h4, hk7]) (by simp only [go_sem, reduceCtorEq, reduceIte, Nat.reduceEqDiff, Nat.reduceAdd, Nat.reduceLeDiff, Nat.reduceMul, Int.reduceLT, Int.reduceLE, Int.reduceAdd, Int.reduceSub, Int.reduceMul, Int.reduceNeg, Int.reduceToNat, Int.reduceEq]) (by simp only [go_sem, reduceCtorEq, reduceIte, Nat.reduceEqDiff, Nat.reduceAdd, Nat.reduceLeDiff, Nat.reduceMul, Int.reduceLT, Int.reduceLE, Int.reduceAdd, Int.reduceSub, Int.reduceMul, Int.reduceNeg, Int.reduceToNat, Int.reduceEq]) (by simp only [go_sem, reduceCtorEq, reduceIte, Nat.reduceEqDiff, Nat.reduceAdd, Nat.reduceLeDiff, Nat.reduceMul, Int.reduceLT, Int.reduceLE, Int.reduceAdd, Int.reduceSub, Int.reduceMul, Int.reduceNeg, Int.reduceToNat, Int.reduceEq, h14]) (by simp only [go_sem, reduceCtorEq, reduceIte, Nat.reduceEqDiff, Nat.reduceAdd, Nat.reduceLeDiff, Nat.reduceMul, Int.reduceLT, Int.reduceLE, Int.reduceAdd, Int.reduceSub, Int.reduceMul, Int.reduceNeg, Int.reduceToNat, Int.reduceEq] <;> rfl)
end Go.Proofs.Ytmaclakgkllojaa.absMakes
