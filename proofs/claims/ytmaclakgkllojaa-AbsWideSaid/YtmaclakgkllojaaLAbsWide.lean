/- The law AbsWide, walked: it returns true at every input. -/
import Derived.Test.YtmaclakgkllojaaProg
import Derived.Test.YtmaclakgkllojaaK50to59
namespace Go.Proofs.Try.S
open Go Go.Ax Go.Ax.N
set_option maxRecDepth 100000

/-- cellar/cellarlaw15.AbsWide -/
def c13 : SF := ⟨237, [.t 2], (.seq (.ops [k 1 (.bx 29 (t 0)),
 o 2 (.mv (b false))])
 (.seq (.seq (.ops [o 18 (.ld true 4 (t 1)),
 k 19 (.ca (.func 14) [(t 18)])])
 (.cond (t 19)
 (.seq (.ops [o 2 (.mv (b true))])
 .ret)
 .skip))
 (.seq (.ops [o 20 (.ld true 4 (t 1)),
 k 21 (.ca (.func 25) [(t 20)]),
 o 3 (.mv (t 21))])
 (.seq (.seq (.ops [o 4 (.mv (i 0))])
 (.block 0 (.loop (.seq (.seq (.ops [o 22 (.mv (t 4)),
 o 23 (.bin .leq (t 22) (i 7))])
 (.cond (t 23)
 .skip
 (.exit 0)))
 (.seq (.block 1 (.seq (.ops [o 5 (.mv (.const (.slice none 0 0)))])
 (.seq (.seq (.ops [o 6 (.mv (i 0))])
 (.block 2 (.loop (.seq (.seq (.ops [o 26 (.mv (t 6)),
 o 27 (.mv (t 3)),
 o 28 (.ln (t 27)),
 o 29 (.bin .lss (t 26) (t 28))])
 (.cond (t 29)
 .skip
 (.exit 2)))
 (.seq (.block 3 (.seq (.seq (.ops [o 7 (.mv (i 0))])
 (.block 4 (.loop (.seq (.seq (.ops [o 32 (.mv (t 7)),
 o 33 (.mv (t 3)),
 o 34 (.ln (t 33)),
 o 35 (.bin .lss (t 32) (t 34))])
 (.cond (t 35)
 .skip
 (.exit 4)))
 (.seq (.block 5 (.seq (.opd [o 39 (.mv (t 4)),
 o 40 (.mv (t 3)),
 o 41 (.mv (t 6)),
 o 42 (.ia 7 (t 40) (t 41)),
 o 43 (.ld true 7 (t 42)),
 o 44 (.mv (t 3)),
 o 45 (.mv (t 7)),
 o 46 (.ia 7 (t 44) (t 45)),
 o 47 (.ld true 7 (t 46)),
 k 48 (.ca (.func 55) [(t 39), (t 43), (t 47)]),
 o 38 (.mv (t 48)),
 o 49 (.ex (t 38) 0),
 o 50 (.ex (t 38) 1),
 k 8 (.al 37 [.int .i64 0, .bool false, .int .i64 0, .int .i64 0, .int .i64 0, .int .i64 0, .slice none 0 0]),
 kn (.st [] 7 (t 8) (t 49)),
 o 9 (.mv (t 50))])
 (.seq (.seq (.ops [o 51 (.mv (t 4)),
 o 52 (.mv (t 3)),
 o 53 (.mv (t 6)),
 o 54 (.ia 7 (t 52) (t 53)),
 o 55 (.ld true 7 (t 54)),
 k 56 (.ca (.func 19) [(t 51), (t 55)]),
 o 57 (.mv (t 56)),
 og 58 57 true (.mv (t 4)),
 og 59 57 true (.mv (t 3)),
 og 60 57 true (.mv (t 7)),
 og 61 57 true (.ia 7 (t 59) (t 60)),
 og 62 57 true (.ld true 7 (t 61)),
 ⟨some 63, some (57, true), .ca (.func 19) [(t 58), (t 62)]⟩,
 o 64 (.pick (t 57) (t 63) (b false)),
 o 65 (.mv (t 9)),
 k 66 (.ca (.func 17) [(t 65)]),
 o 67 (.bin .eql (t 66) (i 0)),
 o 68 (.eqb true (t 64) (t 67)),
 o 69 (.mv (t 68)),
 og 70 69 false (.mv (t 9)),
 ⟨some 71, some (69, false), .ca (.func 17) [(t 70)]⟩,
 og 72 69 false (.bin .neq (t 71) (i 0)),
 og 73 69 false (.mv (t 72)),
 og 74 73 true (.mv (t 9)),
 ⟨some 75, some (73, true), .ca (.func 17) [(t 74)]⟩,
 og 76 73 true (.bin .neq (t 75) (i 1)),
 og 77 69 false (.pick (t 73) (t 76) (b false)),
 o 78 (.pick (t 69) (b true) (t 77))])
 (.cond (t 78)
 (.seq (.ops [o 2 (.mv (b false))])
 .ret)
 .skip))
 (.seq (.seq (.ops [o 79 (.mv (t 9)),
 k 80 (.ca (.func 17) [(t 79)]),
 o 81 (.bin .neq (t 80) (i 0))])
 (.cond (t 81)
 (.exit 5)
 .skip))
 (.seq (.opq [o 83 (.mv (t 4)),
 o 84 (.mv (t 3)),
 o 85 (.mv (t 7)),
 o 86 (.ia 7 (t 84) (t 85)),
 o 87 (.ld true 7 (t 86)),
 o 88 (.mv (t 3)),
 o 89 (.mv (t 6)),
 o 90 (.ia 7 (t 88) (t 89)),
 o 91 (.ld true 7 (t 90)),
 k 92 (.ca (.func 53) [(t 83), (t 87), (t 91)]),
 o 82 (.mv (t 92)),
 o 93 (.ex (t 82) 0),
 o 94 (.ex (t 82) 1),
 o 10 (.mv (t 93)),
 o 11 (.mv (t 94))])
 (.seq (.opq [o 95 (.mv (t 4)),
 o 96 (.ld true 7 (t 8)),
 k 97 (.ca (.func 19) [(t 95), (t 96)]),
 o 98 (.un .not (t 97)),
 o 99 (.mv (t 98)),
 og 100 99 false (.mv (t 4)),
 og 101 99 false (.mv (t 3)),
 og 102 99 false (.mv (t 6)),
 og 103 99 false (.ia 7 (t 101) (t 102)),
 og 104 99 false (.ld true 7 (t 103)),
 og 105 99 false (.ld true 7 (t 8)),
 og 106 99 false (.mv (t 6)),
 ⟨some 107, some (99, false), .ca (.func 52) [(t 100), (t 104), (t 105), (t 106)]⟩,
 og 108 99 false (.un .not (t 107)),
 o 109 (.pick (t 99) (b true) (t 108)),
 o 110 (.mv (t 109)),
 og 111 110 false (.mv (t 4)),
 og 112 110 false (.mv (t 3)),
 og 113 110 false (.mv (t 7)),
 og 114 110 false (.ia 7 (t 112) (t 113)),
 og 115 110 false (.ld true 7 (t 114)),
 og 116 110 false (.ld true 7 (t 8)),
 og 117 110 false (.mv (t 7)),
 ⟨some 118, some (110, false), .ca (.func 52) [(t 111), (t 115), (t 116), (t 117)]⟩,
 og 119 110 false (.un .not (t 118)),
 o 120 (.pick (t 110) (b true) (t 119)),
 o 121 (.mv (t 120)),
 og 122 121 false (.mv (t 11)),
 ⟨some 123, some (121, false), .ca (.func 17) [(t 122)]⟩,
 og 124 121 false (.bin .neq (t 123) (i 0)),
 o 125 (.pick (t 121) (b true) (t 124)),
 o 126 (.mv (t 125)),
 og 127 126 false (.mv (t 10)),
 og 128 126 false (.mv (t 127)),
 og 129 128 true (.ld true 7 (t 8)),
 og 130 128 true (.mv (t 3)),
 og 131 128 true (.mv (t 6)),
 og 132 128 true (.ia 7 (t 130) (t 131)),
 og 133 128 true (.ld true 7 (t 132)),
 ⟨some 134, some (128, true), .ca (.func 32) [(t 129), (t 133)]⟩,
 og 135 128 true (.un .not (t 134)),
 og 136 126 false (.pick (t 128) (t 135) (b false)),
 o 137 (.pick (t 126) (b true) (t 136))])
 (.cond (t 137)
 (.seq (.ops [o 2 (.mv (b false))])
 .ret)
 .skip)))))))
 (.ops [o 36 (.mv (t 7)),
 o 37 (.bin .add (t 36) (i 1)),
 o 7 (.mv (t 37))]))))))
 (.seq (.ops [o 138 (.mv (t 4)),
 o 139 (.mv (t 3)),
 o 140 (.mv (t 6)),
 o 141 (.ia 7 (t 139) (t 140)),
 o 142 (.ld true 7 (t 141)),
 k 143 (.ca (.func 19) [(t 138), (t 142)])])
 (.cond (t 143)
 (.ops [o 144 (.mv (t 5)),
 o 145 (.mv (t 3)),
 o 146 (.mv (t 6)),
 o 147 (.ia 7 (t 145) (t 146)),
 o 148 (.ld true 7 (t 147)),
 k 149 (.bs 37 1 [.int .i64 0, .bool false, .int .i64 0, .int .i64 0, .int .i64 0, .int .i64 0, .slice none 0 0] [(0, 7, (t 148))]),
 k 150 (.ap 37 7 72 (t 144) (t 149)),
 o 5 (.mv (t 150))])
 .skip))))
 (.ops [o 30 (.mv (t 6)),
 o 31 (.bin .add (t 30) (i 1)),
 o 6 (.mv (t 31))]))))))
 (.seq (.seq (.ops [o 12 (.mv (i 0))])
 (.block 6 (.loop (.seq (.seq (.ops [o 151 (.mv (t 12)),
 o 152 (.bin .lss (t 151) (i 80))])
 (.cond (t 152)
 .skip
 (.exit 6)))
 (.seq (.block 7 (.seq (.ops [o 155 (.mv (t 4)),
 o 156 (.bin .eql (t 155) (i 7))])
 (.cond (t 156)
 (.ops [o 157 (.mv (t 5)),
 o 158 (.mv (t 4)),
 o 159 (.mv (t 12)),
 o 160 (.bin .mul (t 159) (i 5)),
 o 161 (.bin .rem (t 160) (i 6)),
 o 162 (.bin .add (i 1) (t 161)),
 o 163 (.mv (t 12)),
 o 164 (.bin .mul (t 163) (i 7)),
 o 165 (.bin .rem (t 164) (i 33)),
 o 166 (.bd [.bool false, .int .i64 0, .int .i64 0, .int .i64 0] [(0, 1, (b true)), (2, 1, (t 162)), (3, 1, (t 165))]),
 k 167 (.ca (.func 56) [(t 158), (t 166)]),
 k 168 (.bs 37 1 [.int .i64 0, .bool false, .int .i64 0, .int .i64 0, .int .i64 0, .int .i64 0, .slice none 0 0] [(0, 7, (t 167))]),
 k 169 (.ap 37 7 72 (t 157) (t 168)),
 o 5 (.mv (t 169))])
 (.seq (.ops [o 170 (.mv (t 4)),
 o 171 (.bin .gtr (t 170) (i 0))])
 (.cond (t 171)
 (.ops [o 172 (.mv (t 5)),
 o 173 (.mv (t 4)),
 o 174 (.mv (t 12)),
 o 175 (.mv (t 12)),
 o 176 (.bin .mul (t 174) (t 175)),
 o 177 (.mv (t 12)),
 o 178 (.bin .mul (t 176) (t 177)),
 o 179 (.bin .mul (t 178) (i 131)),
 o 180 (.mv (t 4)),
 k 181 (.ca (.func 46) [(t 180)]),
 k 182 (.ca (.func 57) [(t 179), (t 181)]),
 o 183 (.bd [.bool false, .int .i64 0, .int .i64 0, .int .i64 0] [(1, 1, (t 182))]),
 k 184 (.ca (.func 56) [(t 173), (t 183)]),
 k 185 (.bs 37 1 [.int .i64 0, .bool false, .int .i64 0, .int .i64 0, .int .i64 0, .int .i64 0, .slice none 0 0] [(0, 7, (t 184))]),
 k 186 (.ap 37 7 72 (t 172) (t 185)),
 o 5 (.mv (t 186))])
 .skip)))))
 (.ops [o 153 (.mv (t 12)),
 o 154 (.bin .add (t 153) (i 1)),
 o 12 (.mv (t 154))]))))))
 (.seq (.seq (.ops [o 187 (.mv (t 5)),
 o 188 (.ln (t 187)),
 o 189 (.bin .eql (t 188) (i 0))])
 (.cond (t 189)
 (.exit 1)
 .skip))
 (.seq (.ops [o 190 (.mv (t 5)),
 o 191 (.ia 7 (t 190) (i 0)),
 o 192 (.ld true 7 (t 191)),
 k 13 (.al 37 [.int .i64 0, .bool false, .int .i64 0, .int .i64 0, .int .i64 0, .int .i64 0, .slice none 0 0]),
 kn (.st [] 7 (t 13) (t 192))])
 (.seq (.ops [o 14 (.mv (i 0))])
 (.seq (.seq (.ops [o 15 (.mv (i 1))])
 (.block 8 (.loop (.seq (.seq (.ops [o 193 (.mv (t 15)),
 o 194 (.mv (t 5)),
 o 195 (.ln (t 194)),
 o 196 (.bin .lss (t 193) (t 195))])
 (.cond (t 196)
 .skip
 (.exit 8)))
 (.seq (.block 9 (.seq (.opd [o 200 (.mv (t 4)),
 o 201 (.ld true 7 (t 13)),
 o 202 (.mv (t 5)),
 o 203 (.mv (t 15)),
 o 204 (.ia 7 (t 202) (t 203)),
 o 205 (.ld true 7 (t 204)),
 k 206 (.ca (.func 55) [(t 200), (t 201), (t 205)]),
 o 199 (.mv (t 206)),
 o 207 (.ex (t 199) 0),
 o 208 (.ex (t 199) 1),
 k 16 (.al 37 [.int .i64 0, .bool false, .int .i64 0, .int .i64 0, .int .i64 0, .int .i64 0, .slice none 0 0]),
 kn (.st [] 7 (t 16) (t 207)),
 o 17 (.mv (t 208))])
 (.seq (.seq (.opq [o 209 (.mv (t 17)),
 k 210 (.ca (.func 17) [(t 209)]),
 o 211 (.bin .neq (t 210) (i 0)),
 o 212 (.mv (t 211)),
 og 213 212 false (.mv (t 4)),
 og 214 212 false (.mv (t 5)),
 og 215 212 false (.mv (t 15)),
 og 216 212 false (.ia 7 (t 214) (t 215)),
 og 217 212 false (.ld true 7 (t 216)),
 og 218 212 false (.ld true 7 (t 16)),
 og 219 212 false (.mv (t 15)),
 ⟨some 220, some (212, false), .ca (.func 52) [(t 213), (t 217), (t 218), (t 219)]⟩,
 og 221 212 false (.un .not (t 220)),
 o 222 (.pick (t 212) (b true) (t 221))])
 (.cond (t 222)
 (.seq (.ops [o 2 (.mv (b false))])
 .ret)
 .skip))
 (.seq (.seq (.ops [o 223 (.ld true 7 (t 16)),
 o 224 (.ld true 7 (t 13)),
 k 225 (.ca (.func 32) [(t 223), (t 224)]),
 o 226 (.un .not (t 225))])
 (.cond (t 226)
 (.ops [o 227 (.mv (t 14)),
 o 228 (.bin .add (t 227) (i 1)),
 o 14 (.mv (t 228))])
 .skip))
 (.ops [o 229 (.ld true 7 (t 16)),
 kn (.st [] 7 (t 13) (t 229))])))))
 (.ops [o 197 (.mv (t 15)),
 o 198 (.bin .add (t 197) (i 1)),
 o 15 (.mv (t 198))]))))))
 (.seq (.ops [o 230 (.mv (t 14)),
 o 231 (.bin .gtr (t 230) (i 91))])
 (.cond (t 231)
 (.seq (.ops [o 2 (.mv (b false))])
 .ret)
 .skip))))))))))
 (.ops [o 24 (.mv (t 4)),
 o 25 (.bin .add (t 24) (i 1)),
 o 4 (.mv (t 25))]))))))
 (.seq (.ops [o 232 (.bd [.bool false, .int .i64 0, .int .i64 0, .int .i64 0] [(0, 1, (b true))]),
 k 233 (.ca (.func 58) [(i 7), (t 232)]),
 o 234 (.mv (t 233)),
 ⟨some 235, some (234, true), .ca (.func 24) []⟩,
 o 236 (.pick (t 234) (t 235) (b false)),
 o 2 (.mv (t 236))])
 .ret)))))⟩
theorem e13 : slimF Try.prog Try.f13 [[(0, []), (1, []), (2, []), (3, []), (4, []), (5, []), (6, []), (7, []), (8, []), (9, []), (10, []), (11, []), (12, []), (13, []), (14, []), (15, [])], [(0, []), (1, []), (2, []), (3, []), (4, []), (5, []), (6, []), (7, []), (8, []), (9, []), (10, []), (11, []), (12, []), (13, []), (14, [])], [(0, []), (1, []), (2, []), (3, []), (4, []), (5, []), (6, []), (7, []), (8, []), (9, []), (10, []), (11, []), (12, []), (13, []), (14, []), (15, []), (16, []), (17, []), (18, []), (19, []), (20, []), (21, []), (22, []), (23, []), (24, []), (25, []), (26, []), (27, []), (28, []), (29, []), (30, []), (31, []), (32, []), (33, []), (34, []), (35, []), (36, []), (37, []), (38, []), (39, []), (40, []), (41, []), (42, [])], [(0, []), (1, []), (2, []), (3, []), (4, []), (5, []), (6, []), (7, []), (8, []), (9, []), (10, []), (11, []), (12, [])], [(0, []), (1, []), (2, []), (3, []), (4, []), (5, []), (6, []), (7, []), (8, []), (9, []), (10, []), (11, []), (12, []), (13, [])]] = some c13 := by kernel_rfl
end Go.Proofs.Try.S
namespace Go.Proofs.Ytmaclakgkllojaa.absWide
open Go Go.Ax Go.Proofs.Try.S Go.Proofs.Try.K
set_option maxRecDepth 100000
set_option linter.unusedSimpArgs false
set_option linter.unusedVariables false
set_option maxHeartbeats 4000000

structure Q1 (F0 : Fz) (sx : Value) (X : List Ab) (k : Nat) (σ : Env) (F : Fz) (M : Hp) : Prop where
  ff : F = F0
  old : Old F0 M
  h3 : Ax.look σ 3 = some sx
  rx : RdG 7 Ab.cs F0 M sx X
  h4 : Ax.look σ 4 = some (.int .i64 k)
structure R1 (F0 : Fz) (sx : Value) (X : List Ab) (k : Nat) (Mb : Hp) (u : Value) (R : List Ab) (σ : Env) (F : Fz) (M : Hp) : Prop where
  ff : F = F0
  old : Old F0 M
  oldb : Old F0 Mb
  kb : Keep Mb M
  h3 : Ax.look σ 3 = some sx
  rx : RdG 7 Ab.cs F0 Mb sx X
  h4 : Ax.look σ 4 = some (.int .i64 k)
  h5 : Ax.look σ 5 = some u
  mine : MineG 7 Ab.cs 37 F0 Mb M u R
  good : ∀ x ∈ R, ∃ l, x.is F0 Mb l ∧ absB k x.v l = true
structure R1i (F0 : Fz) (sx : Value) (X : List Ab) (k : Nat) (Mb : Hp) (u : Value) (R : List Ab) (i : Nat) (σ : Env) (F : Fz) (M : Hp) : Prop extends R1 F0 sx X k Mb u R σ F M where
  h6 : Ax.look σ 6 = some (.int .i64 i)
structure R2 (F0 : Fz) (sx : Value) (X : List Ab) (k : Nat) (Mb : Hp) (u : Value) (R : List Ab) (i j : Nat) (σ : Env) (F : Fz) (M : Hp) : Prop extends R1i F0 sx X k Mb u R i σ F M where
  h7 : Ax.look σ 7 = some (.int .i64 j)
structure P3 (F0 : Fz) (sx : Value) (X : List Ab) (k : Nat) (Mb : Hp) (u : Value) (R : List Ab) (i j : Nat) (v1 : V) (l1 : List Ba) (v2 : V) (l2 : List Ba) (v : V) (l : List Ba) (σ : Env) (F : Fz) (M : Hp) : Prop extends R2 F0 sx X k Mb u R i j σ F M where
  s8 : SetAt F0 8 v l σ M
  h9 : Ax.look σ 9 = some (.int .i64 0)
  wide : WideA k v1 l1 v2 l2 v l
section
variable {F0 : Fz} {sx : Value} {X : List Ab} {k i j : Nat} {Mb : Hp} {u : Value} {R : List Ab} {v1 v2 v : V} {l1 l2 l : List Ba} {σ σ' : Env} {F : Fz} {M M' : Hp}
theorem Q1.ext (s : Q1 F0 sx X k σ F M) (e3 : Ax.look σ' 3 = Ax.look σ 3) (e4 : Ax.look σ' 4 = Ax.look σ 4) : Q1 F0 sx X k σ' F M := ⟨s.ff, s.old, e3.trans s.h3, s.rx, e4.trans s.h4⟩
theorem R1.ext (s : R1 F0 sx X k Mb u R σ F M) (e3 : Ax.look σ' 3 = Ax.look σ 3) (e4 : Ax.look σ' 4 = Ax.look σ 4) (e5 : Ax.look σ' 5 = Ax.look σ 5) : R1 F0 sx X k Mb u R σ' F M := ⟨s.ff, s.old, s.oldb, s.kb, e3.trans s.h3, s.rx, e4.trans s.h4, e5.trans s.h5, s.mine, s.good⟩
theorem R1.grow (s : R1 F0 sx X k Mb u R σ F M) (kp : Keep M M') (o : Old F0 M') : R1 F0 sx X k Mb u R σ F M' := ⟨s.ff, o, s.oldb, s.kb.trans kp, s.h3, s.rx, s.h4, s.h5, s.mine.keep kp, s.good⟩
theorem R1i.ext (s : R1i F0 sx X k Mb u R i σ F M) (e3 : Ax.look σ' 3 = Ax.look σ 3) (e4 : Ax.look σ' 4 = Ax.look σ 4) (e5 : Ax.look σ' 5 = Ax.look σ 5) (e6 : Ax.look σ' 6 = Ax.look σ 6) : R1i F0 sx X k Mb u R i σ' F M := ⟨s.toR1.ext e3 e4 e5, e6.trans s.h6⟩
theorem R1i.grow (s : R1i F0 sx X k Mb u R i σ F M) (kp : Keep M M') (o : Old F0 M') : R1i F0 sx X k Mb u R i σ F M' := ⟨s.toR1.grow kp o, s.h6⟩
theorem R2.ext (s : R2 F0 sx X k Mb u R i j σ F M) (e3 : Ax.look σ' 3 = Ax.look σ 3) (e4 : Ax.look σ' 4 = Ax.look σ 4) (e5 : Ax.look σ' 5 = Ax.look σ 5) (e6 : Ax.look σ' 6 = Ax.look σ 6) (e7 : Ax.look σ' 7 = Ax.look σ 7) : R2 F0 sx X k Mb u R i j σ' F M := ⟨s.toR1i.ext e3 e4 e5 e6, e7.trans s.h7⟩
theorem R2.grow (s : R2 F0 sx X k Mb u R i j σ F M) (kp : Keep M M') (o : Old F0 M') : R2 F0 sx X k Mb u R i j σ F M' := ⟨s.toR1i.grow kp o, s.h7⟩
theorem P3.ext (s : P3 F0 sx X k Mb u R i j v1 l1 v2 l2 v l σ F M) (e3 : Ax.look σ' 3 = Ax.look σ 3) (e4 : Ax.look σ' 4 = Ax.look σ 4) (e5 : Ax.look σ' 5 = Ax.look σ 5) (e6 : Ax.look σ' 6 = Ax.look σ 6) (e7 : Ax.look σ' 7 = Ax.look σ 7) (e8 : Ax.look σ' 8 = Ax.look σ 8) (e9 : Ax.look σ' 9 = Ax.look σ 9) : P3 F0 sx X k Mb u R i j v1 l1 v2 l2 v l σ' F M := ⟨s.toR2.ext e3 e4 e5 e6 e7, s.s8.ext e8, e9.trans s.h9, s.wide⟩
theorem P3.grow (s : P3 F0 sx X k Mb u R i j v1 l1 v2 l2 v l σ F M) (kp : Keep M M') (o : Old F0 M') : P3 F0 sx X k Mb u R i j v1 l1 v2 l2 v l σ F M' := ⟨s.toR2.grow kp o, s.s8.grow kp o, s.h9, s.wide⟩
theorem R1.rxM (s : R1 F0 sx X k Mb u R σ F M) : RdG 7 Ab.cs F0 M sx X := s.rx.keep s.kb s.old
end
def kI (F0 : Fz) (sx : Value) (X : List Ab) (m : Nat) (σ : Env) (F : Fz) (M : Hp) : Prop := ∃ k : Nat, Q1 F0 sx X k σ F M ∧ k + m = 8
def iI (F0 : Fz) (sx : Value) (X : List Ab) (k : Nat) (m : Nat) (σ : Env) (F : Fz) (M : Hp) : Prop := ∃ (i : Nat) (Mb : Hp) (u : Value) (R : List Ab), R1i F0 sx X k Mb u R i σ F M ∧ R.length ≤ i ∧ i + m = X.length
def jI (F0 : Fz) (sx : Value) (X : List Ab) (k : Nat) (Mb : Hp) (u : Value) (R : List Ab) (i : Nat) (m : Nat) (σ : Env) (F : Fz) (M : Hp) : Prop := ∃ j : Nat, R2 F0 sx X k Mb u R i j σ F M ∧ j + m = X.length
def rT (F0 : Fz) (sx : Value) (X : List Ab) (k : Nat) (n : Nat) (σ : Env) (F : Fz) (M : Hp) : Prop := ∃ (Mb : Hp) (u : Value) (R : List Ab), R1 F0 sx X k Mb u R σ F M ∧ R.length ≤ n
def T3 (F0 : Fz) (sx : Value) (X : List Ab) (k : Nat) (Mb : Hp) (u : Value) (R : List Ab) (i j : Nat) (v1 : V) (l1 : List Ba) (v2 : V) (l2 : List Ba) (σ : Env) (F : Fz) (M : Hp) : Prop := ∃ v l, P3 F0 sx X k Mb u R i j v1 l1 v2 l2 v l σ F M
def iN (F0 : Fz) (sx : Value) (X : List Ab) (k i : Nat) (σ : Env) (F : Fz) (M : Hp) : Prop := ∃ (Mb : Hp) (u : Value) (R : List Ab), R1i F0 sx X k Mb u R i σ F M ∧ R.length ≤ i + 1
def gI (F0 : Fz) (sx : Value) (X : List Ab) (k : Nat) (n : Nat) (m : Nat) (σ : Env) (F : Fz) (M : Hp) : Prop := ∃ (i : Nat), rT F0 sx X k (n + i) σ F M ∧ Ax.look σ 12 = some (.int .i64 i) ∧ i + m = 80
structure VI (F0 : Fz) (sx : Value) (X : List Ab) (k : Nat) (Mb : Hp) (u : Value) (R : List Ab) (r13 : Nat) (σ : Env) (F : Fz) (M : Hp) : Prop where
  ff : F = F0
  old : Old F0 M
  kb : Keep Mb M
  n13 : Mb r13 = none
  h3 : Ax.look σ 3 = some sx
  h4 : Ax.look σ 4 = some (.int .i64 k)
  h5 : Ax.look σ 5 = some u
  h13 : Ax.look σ 13 = some (.pointer (some ⟨r13, 0, none⟩))
  st : ∃ (v : V) (l : List Ba) (a : Option Addr) (n c t : Nat), M r13 = some ⟨abCs v (.slice a n c), 37, 7⟩ ∧ RdG 7 Ba.cs F0 M (.slice a n c) l ∧ absB k v l = true ∧ Ax.look σ 14 = some (.int .i64 t) ∧ t ≤ phiA k v l
def vI (F0 : Fz) (sx : Value) (X : List Ab) (k : Nat) (Mb : Hp) (u : Value) (R : List Ab) (r13 : Nat) (m : Nat) (σ : Env) (F : Fz) (M : Hp) : Prop := ∃ i : Nat, VI F0 sx X k Mb u R r13 σ F M ∧ Ax.look σ 15 = some (.int .i64 i) ∧ i + m = R.length
theorem wideLe {k : Int} {v1 v2 : V} {l1 l2 : List Ba} {F : Fz} {M : Hp} {u : Value} {F' : Fz} {M' : Hp} (h : wideR15 k v1 l1 v2 l2 F M u F' M') (hab : (absB k v1 l1 && absB k v2 l2) = true) :
    F' = F ∧ Le F M F M' ∧ Keep M M' ∧ (Old F M → Old F M') ∧ ∃ v l a n c, u = .tuple #[abV v (.slice a n c), .int .i64 0] ∧ RdG 7 Ba.cs F M' (.slice a n c) l ∧ WideA k v1 l1 v2 l2 v l := by
  rcases h with ⟨_, w, rfl, v, l, hb, hl, w', rfl, hr⟩ | ⟨h, _⟩
  · obtain ⟨h1, h2, h3, h4, a, c, rfl, h5⟩ := hr.le (f := Ba.cs) (fun x => rfl) (by omega)
    exact ⟨h1, h2, h3, h4, v, l, a, _, c, rfl, h5, hb⟩
  · rw [hab] at h; cases h
theorem wideNo {k : Int} {v1 v2 : V} {l1 l2 : List Ba} {F : Fz} {M : Hp} {u : Value} {F' : Fz} {M' : Hp} (h : wideR15 k v1 l1 v2 l2 F M u F' M') (hab : (absB k v1 l1 && absB k v2 l2) = false) :
    u = .tuple #[abV V.zero (.slice none 0 0), .int .i64 1] ∧ F' = F ∧ M' = M := by
  rcases h with ⟨h, _⟩ | ⟨_, h⟩
  · rw [hab] at h; cases h
  · exact h

/-- A new set's bases lie apart from the row. -/
theorem add_row {F0 : Fz} {Mb M2 : Hp} {u : Value} {R : List Ab} {vq : V} {lq : List Ba} {w : Value} {G : Fz} {M3 : Hp} (kb : Keep Mb M2) (old : Old F0 M2) (oldb : Old F0 Mb) (mine : MineG 7 Ab.cs 37 F0 Mb M2 u R) (hl : lq.length ≤ 7) (h : cpR vq lq F0 M2 w G M3) :
    G = F0 ∧ Le F0 M2 F0 M3 ∧ Keep M2 M3 ∧ Old F0 M3 ∧ ∃ a n c Mb', w = abV vq (.slice a n c) ∧ Keep Mb' M3 ∧ Keep Mb Mb' ∧ Old F0 Mb' ∧ MineG 7 Ab.cs 37 F0 Mb' M3 u R ∧ (Ab.mk vq a n c).is F0 Mb' lq := by
  obtain ⟨w', rfl, hr⟩ := h
  obtain ⟨h1, h2, h3, h4, _⟩ := hr.le (f := Ba.cs) (fun x => rfl) (by omega)
  refine ⟨h1, h2, h3, h4 old, ?_⟩
  obtain ⟨_, ⟨rfl, rfl, rfl⟩ | ⟨g, cap, q1, q2, rfl, q4, rfl⟩⟩ := hr
  · exact ⟨none, 0, 0, Mb, rfl, kb, Keep.refl _, oldb, mine, rfl, rdG_nil⟩
  · refine ⟨some ⟨g, 0, none⟩, lq.length, cap, Mb.upd g ⟨lq.flatMap Ba.cs, 87, cap * 7⟩, rfl, kb.both, (Keep.refl _).new (kb.free q2), oldb.upd q1, ⟨mine.own.keep h3, fun g' n c hu => ?_⟩, rfl, rdG_flat (fun x => rfl) (by omega) q4.1 blk_upd_same⟩
    have hne : ¬ g' = g := by
      rintro rfl
      rcases mine.own with ⟨h, _⟩ | ⟨g2, c2, h, _, h5, _⟩
      · rw [h] at hu; cases hu
      · rw [h] at hu; cases hu
        rw [q2] at h5; cases h5
    rw [Hp.upd_ne' hne]
    exact mine.new _ _ _ hu

theorem call (W : World) (cs : List Value) (h : Rd (fzOf W) shAsk15 cs) :
  CallsA Try.prog 13 [.agg cs.toArray] (fzOf W) noHp fun r _ _ => r = .bool true := by
  obtain ⟨vX, vS, vV, vN, rfl, hX, hS, hV, hN⟩ := rd_ask15 h
  obtain ⟨aX, cX, lX, rfl, hlX, hrX, hXr⟩ := rd_Xs hX
  have hX0 := rd_slice0 hX
  obtain ⟨aS, cS, lS, rfl, hlS, hSr⟩ := rd_Ss hS
  have hS0 := rd_slice0 hS
  obtain ⟨aV, cV, lv, rfl, hlV, _, hlen, _, hcV⟩ := rd_Vs hV
  obtain ⟨aN, cN, ln, rfl, hl, hmx, hs, hin, h0, hc⟩ := rd_ints hN
  refine callsA_of hm Try.func13 e13 (Nat.le_of_ble_eq_true rfl) ?_
  have rS : ∀ M, Old (fzOf W) M → RdG 4 Sc.cs (fzOf W) M (.slice aS lS.length cS) lS := fun M old => hSr _ _ fun b c hb => old.blk hb
  have rX : ∀ M, Old (fzOf W) M → RdG 7 Ab.cs (fzOf W) M (.slice aX lX.length cX) lX := fun M old => hXr _ _ fun b c hb => old.blk hb
  have rV : ∀ M, Old (fzOf W) M → RdV (fzOf W) M (.slice aV lv.length cV) lv := by
    intro M old
    refine ⟨by omega, aV, cV, hlV, rfl, ?_⟩
    rcases hcV with h | ⟨b, o, cs, h1, h2, h3⟩
    · exact .inl h
    · exact .inr ⟨b, o, cs, h1, old.blk h2, h3⟩
  have hXn : ∀ x ∈ lX, x.n ≤ 140737488351232 := fun x hx => by
    obtain ⟨l, h1, h2, _⟩ := hrX x hx
    omega
  simp only [c13, go_sem, reduceCtorEq, reduceIte, Nat.reduceEqDiff, Nat.reduceAdd, Nat.reduceLeDiff, Nat.reduceMul, Int.reduceLT, Int.reduceLE, Int.reduceAdd, Int.reduceSub, Int.reduceMul, Int.reduceNeg, Int.reduceToNat, Int.reduceEq]
  intro r hF hM
  have old1 := (Old.start (fzOf W)).upd (e := ⟨[.slice aX lX.length cX, .slice aS lS.length cS, .slice aV lv.length cV, .slice aN ln.length cN], 29, 4⟩) hF
  simp only [go_sem, reduceCtorEq, reduceIte, Nat.reduceEqDiff, Nat.reduceAdd, Nat.reduceLeDiff, Nat.reduceMul, Int.reduceLT, Int.reduceLE, Int.reduceAdd, Int.reduceSub, Int.reduceMul, Int.reduceNeg, Int.reduceToNat, Int.reduceEq]
  refine callK_of (k14 _ _ lX _ aS aV aN lS.length cS lv.length cV ln.length cN (rX _ old1) hlX hXn hlS) ?_
  rintro u G M2 ⟨hG, hM2, b, rfl, hb⟩
  rw [hG, hM2]
  refine ⟨fun _ => Le.refl _ _, ?_⟩
  cases b
  rotate_left
  · simp only [go_sem, reduceCtorEq, reduceIte, Nat.reduceEqDiff, Nat.reduceAdd, Nat.reduceLeDiff, Nat.reduceMul, Int.reduceLT, Int.reduceLE, Int.reduceAdd, Int.reduceSub, Int.reduceMul, Int.reduceNeg, Int.reduceToNat, Int.reduceEq]
    exact endK_same rfl
  obtain ⟨hX4, hS4, -, -, hx4⟩ := hb rfl
  have hgood : ∀ x, (x ∈ lX ∨ ∃ v, x = ⟨v, none, 0, 0⟩) → ∃ l, l.length ≤ 400 ∧ ∀ M, Old (fzOf W) M → x.is (fzOf W) M l := by
    rintro x (hx | ⟨v, rfl⟩)
    · obtain ⟨l, h1, _, h3⟩ := hrX x hx
      have := hx4 x hx
      exact ⟨l, by omega, fun M old => ⟨h1.symm, h3 _ _ fun b c hb => old.blk hb⟩⟩
    · exact ⟨[], by simp, fun M old => ⟨rfl, rdG_nil⟩⟩
  simp only [go_sem, reduceCtorEq, reduceIte, Nat.reduceEqDiff, Nat.reduceAdd, Nat.reduceLeDiff, Nat.reduceMul, Int.reduceLT, Int.reduceLE, Int.reduceAdd, Int.reduceSub, Int.reduceMul, Int.reduceNeg, Int.reduceToNat, Int.reduceEq]
  have b1 := blk_upd_same (F := fzOf W) (M := noHp) (b := r) (e := ⟨[.slice aX lX.length cX, .slice aS lS.length cS, .slice aV lv.length cV, .slice aN ln.length cN], 29, 4⟩)
  refine callK_of (k25 _ _ lX lv aX cX _ _ _ old1 (rX _ old1) hX0 hX4 (rV _ old1)) ?_
  rintro sx G M4 ⟨X, hX10, hXm, hr⟩
  obtain ⟨hG, le, kq, oq, ax, cx, rfl, rdx⟩ := hr.le Ab.len (by omega)
  rw [hG]
  refine ⟨(fun h => by cases h), ?_⟩
  have old4 := oq old1
  have hXg : ∀ x ∈ X, ∃ l, l.length ≤ 400 ∧ ∀ M, Old (fzOf W) M → x.is (fzOf W) M l := fun x hx => hgood x (hXm x hx)
  obtain ⟨sx, hsx⟩ : ∃ sx, sx = Value.slice ax X.length cx := ⟨_, rfl⟩
  rw [← hsx] at rdx ⊢
  clear hr le kq oq hXm hgood hcV hc rX rV hrX hXr hG old1 hX4 hx4 hin b1 hM2 rS
  simp only [go_sem, reduceCtorEq, reduceIte, Nat.reduceEqDiff, Nat.reduceAdd, Nat.reduceLeDiff, Nat.reduceMul, Int.reduceLT, Int.reduceLE, Int.reduceAdd, Int.reduceSub, Int.reduceMul, Int.reduceNeg, Int.reduceToNat, Int.reduceEq]
  refine loop_of (kI (fzOf W) sx X) 8 ?_ ?_
  · exact ⟨0, ⟨rfl, old4, by simp only [go_sem, reduceCtorEq, reduceIte, Nat.reduceEqDiff], rdx, by simp only [go_sem, reduceCtorEq, reduceIte, Nat.reduceEqDiff] <;> rfl⟩, by omega⟩
  clear old4 rdx
  clear M4
  rintro mk σ F M ⟨k, s, hk⟩
  obtain rfl := s.ff
  by_cases hk7 : (k : Int) ≤ 7
  rotate_left
  · simp only [go_sem, reduceCtorEq, reduceIte, Nat.reduceEqDiff, Nat.reduceAdd, Nat.reduceLeDiff, Nat.reduceMul, Int.reduceLT, Int.reduceLE, Int.reduceAdd, Int.reduceSub, Int.reduceMul, Int.reduceNeg, Int.reduceToNat, Int.reduceEq, s.h3, s.h4, hk7]
    refine callK_same (k58 _ _ 7 ⟨true, 0, 0, 0⟩) ?_
    have e7 : scB 7 ⟨true, 0, 0, 0⟩ = true := by decide
    rw [e7]
    simp only [go_sem, reduceCtorEq, reduceIte, Nat.reduceEqDiff, Nat.reduceAdd, Nat.reduceLeDiff, Nat.reduceMul, Int.reduceLT, Int.reduceLE, Int.reduceAdd, Int.reduceSub, Int.reduceMul, Int.reduceNeg, Int.reduceToNat, Int.reduceEq]
    refine callK_same (k24 _ _) ?_
    simp only [go_sem, reduceCtorEq, reduceIte, Nat.reduceEqDiff, Nat.reduceAdd, Nat.reduceLeDiff, Nat.reduceMul, Int.reduceLT, Int.reduceLE, Int.reduceAdd, Int.reduceSub, Int.reduceMul, Int.reduceNeg, Int.reduceToNat, Int.reduceEq]
    exact endK_same rfl
  have ek : IntKind.i64.wrap ((k : Int) + 1) = k + 1 := w64 (by omega) (by omega)
  refine cut (Q1 (fzOf W) sx X k) ?_ ?_
  · simp only [go_sem, reduceCtorEq, reduceIte, Nat.reduceEqDiff, Nat.reduceAdd, Nat.reduceLeDiff, Nat.reduceMul, Int.reduceLT, Int.reduceLE, Int.reduceAdd, Int.reduceSub, Int.reduceMul, Int.reduceNeg, Int.reduceToNat, Int.reduceEq, s.h3, s.h4, hk7]
    exact s.ext (by simp only [go_sem, reduceCtorEq, reduceIte, Nat.reduceEqDiff]) (by simp only [go_sem, reduceCtorEq, reduceIte, Nat.reduceEqDiff])
  clear s
  rintro σ F M s
  obtain rfl := s.ff
  refine cut (Q1 (fzOf W) sx X k) ?_ ?_
  rotate_left
  · rintro σ F M s
    obtain rfl := s.ff
    simp only [go_sem, reduceCtorEq, reduceIte, Nat.reduceEqDiff, Nat.reduceAdd, Nat.reduceLeDiff, Nat.reduceMul, Int.reduceLT, Int.reduceLE, Int.reduceAdd, Int.reduceSub, Int.reduceMul, Int.reduceNeg, Int.reduceToNat, Int.reduceEq, s.h3, s.h4, ek]
    exact ⟨mk - 1, by omega, k + 1, ⟨rfl, s.old, by simp only [go_sem, reduceCtorEq, reduceIte, Nat.reduceEqDiff, s.h3], s.rx, by simp only [go_sem, reduceCtorEq, reduceIte, Nat.reduceEqDiff]; rfl⟩, by omega⟩
  rw [W_block]
  -- the row of the sets
  refine cut (R1 (fzOf W) sx X k M (.slice none 0 0) []) ?_ ?_
  · simp only [go_sem, reduceCtorEq, reduceIte, Nat.reduceEqDiff, Nat.reduceAdd, Nat.reduceLeDiff, Nat.reduceMul, Int.reduceLT, Int.reduceLE, Int.reduceAdd, Int.reduceSub, Int.reduceMul, Int.reduceNeg, Int.reduceToNat, Int.reduceEq, s.h3, s.h4]
    exact ⟨rfl, s.old, s.old, Keep.refl _, by simp only [go_sem, reduceCtorEq, reduceIte, Nat.reduceEqDiff, s.h3], s.rx, by simp only [go_sem, reduceCtorEq, reduceIte, Nat.reduceEqDiff, s.h4], by simp only [go_sem, reduceCtorEq, reduceIte, Nat.reduceEqDiff], MineG.nil, by simp⟩
  clear s
  rintro σ F M2 s
  obtain rfl := s.ff
  refine cut (rT (fzOf W) sx X k 10) ?_ ?_
  · simp only [go_sem, reduceCtorEq, reduceIte, Nat.reduceEqDiff, Nat.reduceAdd, Nat.reduceLeDiff, Nat.reduceMul, Int.reduceLT, Int.reduceLE, Int.reduceAdd, Int.reduceSub, Int.reduceMul, Int.reduceNeg, Int.reduceToNat, Int.reduceEq, s.h3, s.h4, s.h5]
    refine loop_of (iI (fzOf W) sx X k) X.length ?_ ?_
    · exact ⟨0, M, .slice none 0 0, [], ⟨s.ext (by simp only [go_sem, reduceCtorEq, reduceIte, Nat.reduceEqDiff]) (by simp only [go_sem, reduceCtorEq, reduceIte, Nat.reduceEqDiff]) (by simp only [go_sem, reduceCtorEq, reduceIte, Nat.reduceEqDiff]), by simp only [go_sem, reduceCtorEq, reduceIte, Nat.reduceEqDiff] <;> rfl⟩, by simp, by omega⟩
    clear s
    rintro mi σ F M ⟨i, Mb, u, R, s, hRi, hi⟩
    obtain rfl := s.ff
    have h3 := s.h3
    rw [hsx] at h3
    by_cases hil : (i : Int) < X.length
    rotate_left
    · simp only [go_sem, reduceCtorEq, reduceIte, Nat.reduceEqDiff, Nat.reduceAdd, Nat.reduceLeDiff, Nat.reduceMul, Int.reduceLT, Int.reduceLE, Int.reduceAdd, Int.reduceSub, Int.reduceMul, Int.reduceNeg, Int.reduceToNat, Int.reduceEq, h3, s.h4, s.h5, s.h6, hil]
      exact ⟨Mb, u, R, s.toR1.ext (by simp only [go_sem, reduceCtorEq, reduceIte, Nat.reduceEqDiff, s.h3, hsx]) (by simp only [go_sem, reduceCtorEq, reduceIte, Nat.reduceEqDiff]) (by simp only [go_sem, reduceCtorEq, reduceIte, Nat.reduceEqDiff]), by omega⟩
    have ei : IntKind.i64.wrap ((i : Int) + 1) = i + 1 := w64 (by omega) (by omega)
    have hi0 : (0 : Int) ≤ i := by omega
    have hil' : i < X.length := by omega
    refine cut (R1i (fzOf W) sx X k Mb u R i) ?_ ?_
    · simp only [go_sem, reduceCtorEq, reduceIte, Nat.reduceEqDiff, Nat.reduceAdd, Nat.reduceLeDiff, Nat.reduceMul, Int.reduceLT, Int.reduceLE, Int.reduceAdd, Int.reduceSub, Int.reduceMul, Int.reduceNeg, Int.reduceToNat, Int.reduceEq, h3, s.h4, s.h5, s.h6, hil]
      exact s.ext (by simp only [go_sem, reduceCtorEq, reduceIte, Nat.reduceEqDiff, s.h3, hsx]) (by simp only [go_sem, reduceCtorEq, reduceIte, Nat.reduceEqDiff]) (by simp only [go_sem, reduceCtorEq, reduceIte, Nat.reduceEqDiff]) (by simp only [go_sem, reduceCtorEq, reduceIte, Nat.reduceEqDiff])
    clear h3
    clear s
    rintro σ F M s
    obtain rfl := s.ff
    refine cut (iN (fzOf W) sx X k i) ?_ ?_
    rotate_left
    · rintro σ F M ⟨Mb, u, R, s, hR⟩
      obtain rfl := s.ff
      simp only [go_sem, reduceCtorEq, reduceIte, Nat.reduceEqDiff, Nat.reduceAdd, Nat.reduceLeDiff, Nat.reduceMul, Int.reduceLT, Int.reduceLE, Int.reduceAdd, Int.reduceSub, Int.reduceMul, Int.reduceNeg, Int.reduceToNat, Int.reduceEq, s.h3, s.h4, s.h5, s.h6, ei]
      exact ⟨mi - 1, by omega, i + 1, Mb, u, R, ⟨s.toR1.ext (by simp only [go_sem, reduceCtorEq, reduceIte, Nat.reduceEqDiff]) (by simp only [go_sem, reduceCtorEq, reduceIte, Nat.reduceEqDiff]) (by simp only [go_sem, reduceCtorEq, reduceIte, Nat.reduceEqDiff]), by simp only [go_sem, reduceCtorEq, reduceIte, Nat.reduceEqDiff]; rfl⟩, hR, by omega⟩
    rw [W_block]
    refine cut (R1i (fzOf W) sx X k Mb u R i) ?_ ?_
    · simp only [go_sem, reduceCtorEq, reduceIte, Nat.reduceEqDiff, Nat.reduceAdd, Nat.reduceLeDiff, Nat.reduceMul, Int.reduceLT, Int.reduceLE, Int.reduceAdd, Int.reduceSub, Int.reduceMul, Int.reduceNeg, Int.reduceToNat, Int.reduceEq, s.h3, s.h4, s.h5, s.h6]
      refine loop_of (jI (fzOf W) sx X k Mb u R i) X.length ?_ ?_
      · exact ⟨0, ⟨s.ext (by simp only [go_sem, reduceCtorEq, reduceIte, Nat.reduceEqDiff]) (by simp only [go_sem, reduceCtorEq, reduceIte, Nat.reduceEqDiff]) (by simp only [go_sem, reduceCtorEq, reduceIte, Nat.reduceEqDiff]) (by simp only [go_sem, reduceCtorEq, reduceIte, Nat.reduceEqDiff]), by simp only [go_sem, reduceCtorEq, reduceIte, Nat.reduceEqDiff] <;> rfl⟩, by omega⟩
      clear s
      rintro mj σ F M ⟨j, s, hj⟩
      obtain rfl := s.ff
      have h3 := s.h3
      rw [hsx] at h3
      by_cases hjl : (j : Int) < X.length
      rotate_left
      · simp only [go_sem, reduceCtorEq, reduceIte, Nat.reduceEqDiff, Nat.reduceAdd, Nat.reduceLeDiff, Nat.reduceMul, Int.reduceLT, Int.reduceLE, Int.reduceAdd, Int.reduceSub, Int.reduceMul, Int.reduceNeg, Int.reduceToNat, Int.reduceEq, h3, s.h4, s.h5, s.h6, s.h7, hjl]
        exact s.toR1i.ext (by simp only [go_sem, reduceCtorEq, reduceIte, Nat.reduceEqDiff, s.h3, hsx]) (by simp only [go_sem, reduceCtorEq, reduceIte, Nat.reduceEqDiff]) (by simp only [go_sem, reduceCtorEq, reduceIte, Nat.reduceEqDiff]) (by simp only [go_sem, reduceCtorEq, reduceIte, Nat.reduceEqDiff])
      have ej : IntKind.i64.wrap ((j : Int) + 1) = j + 1 := w64 (by omega) (by omega)
      have hj0 : (0 : Int) ≤ j := by omega
      have hjl' : j < X.length := by omega
      refine cut (R2 (fzOf W) sx X k Mb u R i j) ?_ ?_
      · simp only [go_sem, reduceCtorEq, reduceIte, Nat.reduceEqDiff, Nat.reduceAdd, Nat.reduceLeDiff, Nat.reduceMul, Int.reduceLT, Int.reduceLE, Int.reduceAdd, Int.reduceSub, Int.reduceMul, Int.reduceNeg, Int.reduceToNat, Int.reduceEq, h3, s.h4, s.h5, s.h6, s.h7, hjl]
        exact s.ext (by simp only [go_sem, reduceCtorEq, reduceIte, Nat.reduceEqDiff, s.h3, hsx]) (by simp only [go_sem, reduceCtorEq, reduceIte, Nat.reduceEqDiff]) (by simp only [go_sem, reduceCtorEq, reduceIte, Nat.reduceEqDiff]) (by simp only [go_sem, reduceCtorEq, reduceIte, Nat.reduceEqDiff]) (by simp only [go_sem, reduceCtorEq, reduceIte, Nat.reduceEqDiff])
      clear h3
      clear s
      rintro σ F M s
      obtain rfl := s.ff
      refine cut (R2 (fzOf W) sx X k Mb u R i j) ?_ ?_
      rotate_left
      · rintro σ F M s
        obtain rfl := s.ff
        simp only [go_sem, reduceCtorEq, reduceIte, Nat.reduceEqDiff, Nat.reduceAdd, Nat.reduceLeDiff, Nat.reduceMul, Int.reduceLT, Int.reduceLE, Int.reduceAdd, Int.reduceSub, Int.reduceMul, Int.reduceNeg, Int.reduceToNat, Int.reduceEq, s.h3, s.h4, s.h5, s.h6, s.h7, ej]
        exact ⟨mj - 1, by omega, j + 1, ⟨s.toR1i.ext (by simp only [go_sem, reduceCtorEq, reduceIte, Nat.reduceEqDiff]) (by simp only [go_sem, reduceCtorEq, reduceIte, Nat.reduceEqDiff]) (by simp only [go_sem, reduceCtorEq, reduceIte, Nat.reduceEqDiff]) (by simp only [go_sem, reduceCtorEq, reduceIte, Nat.reduceEqDiff]), by simp only [go_sem, reduceCtorEq, reduceIte, Nat.reduceEqDiff]; rfl⟩, by omega⟩
      rw [W_block]
      obtain ⟨l1, hl1, hlg1⟩ := hXg X[i] (List.getElem_mem _)
      obtain ⟨l2, hl2, hlg2⟩ := hXg X[j] (List.getElem_mem _)
      have hxe : ∀ {M : Hp}, RdG 7 Ab.cs (fzOf W) M sx X → ∃ b o cs, sx = .slice (some ⟨b, o, none⟩) X.length cx ∧ blk (fzOf W) M b = some cs ∧ (o + i * 7 + 7 ≤ cs.length ∧ (cs.drop (o + i * 7)).take 7 = abCs X[i].v X[i].u) ∧ (o + j * 7 + 7 ≤ cs.length ∧ (cs.drop (o + j * 7)).take 7 = abCs X[j].v X[j].u) := by
        intro M hr
        obtain ⟨b, o, cap, cs, e, h1, h2, h3⟩ := ab_at hr hil'
        obtain ⟨b', o', cap', cs', e', h1', h2', h3'⟩ := ab_at hr hjl'
        rw [e] at e'
        cases e'
        rw [h1] at h1'
        cases h1'
        rw [e] at hsx
        cases hsx
        exact ⟨b, o, cs, e, h1, ⟨h2, h3⟩, h2', h3'⟩
      generalize X[i] = x at *
      generalize X[j] = y at *
      have hxu : x.u = .slice x.a l1.length x.c := (hlg1 _ (Old.start _)).u_eq
      have hyu : y.u = .slice y.a l2.length y.c := (hlg2 _ (Old.start _)).u_eq
      have hxr : ∀ M, Old (fzOf W) M → RdG 7 Ba.cs (fzOf W) M (.slice x.a l1.length x.c) l1 := fun M o => by
        have := (hlg1 _ o).2
        rw [hxu] at this; exact this
      have hyr : ∀ M, Old (fzOf W) M → RdG 7 Ba.cs (fzOf W) M (.slice y.a l2.length y.c) l2 := fun M o => by
        have := (hlg2 _ o).2
        rw [hyu] at this; exact this
      cases hab : (absB k x.v l1 && absB k y.v l2)
      · -- refused
        obtain ⟨b, o, cs, e, hb, ⟨d1, d2⟩, d3, d4⟩ := hxe s.rxM
        have h3 := s.h3
        rw [e] at h3
        rw [hxu] at d2
        rw [hyu] at d4
        simp only [go_sem, reduceCtorEq, reduceIte, Nat.reduceEqDiff, Nat.reduceAdd, Nat.reduceLeDiff, Nat.reduceMul, Int.reduceLT, Int.reduceLE, Int.reduceAdd, Int.reduceSub, Int.reduceMul, Int.reduceNeg, Int.reduceToNat, Int.reduceEq, h3, s.h4, s.h5, s.h6, s.h7, hil, hi0, hjl, hj0, Int.toNat_natCast, hb, d1, d2, d3, d4]
        refine callK_of (k55 _ _ k x.v y.v _ _ l1 l2 (hxr _ s.old) (hyr _ s.old) s.old) ?_
        rintro w G M1 hq
        obtain ⟨rfl, hG, hM1⟩ := wideNo hq hab
        rw [hG, hM1]
        refine ⟨fun _ => Le.refl _ _, ?_⟩
        simp only [go_sem, reduceCtorEq, reduceIte, Nat.reduceEqDiff, Nat.reduceAdd, Nat.reduceLeDiff, Nat.reduceMul, Int.reduceLT, Int.reduceLE, Int.reduceAdd, Int.reduceSub, Int.reduceMul, Int.reduceNeg, Int.reduceToNat, Int.reduceEq, h3, s.h4, s.h5, s.h6, s.h7]
        intro r8 hF8 hM8
        have kp : ∀ e, Keep M (M.upd r8 e) := fun e => (Keep.refl M).new hM8
        have oo : ∀ e, Old (fzOf W) (M.upd r8 e) := fun e => s.old.upd hF8
        have bb : ∀ e, blk (fzOf W) (M.upd r8 e) b = some cs := fun e => blk_keep hb (kp e) (oo e)
        have fin : ∀ (e : Ent) (σ' : Env), Ax.look σ' 3 = some sx → Ax.look σ' 4 = some (.int .i64 k) → Ax.look σ' 5 = some u → Ax.look σ' 6 = some (.int .i64 i) → Ax.look σ' 7 = some (.int .i64 j) → R2 (fzOf W) sx X k Mb u R i j σ' (fzOf W) (M.upd r8 e) :=
          fun e σ' e3 e4 e5 e6 e7 => (s.grow (kp e) (oo e)).ext (e3.trans s.h3.symm) (e4.trans s.h4.symm) (e5.trans s.h5.symm) (e6.trans s.h6.symm) (e7.trans s.h7.symm)
        simp only [go_sem, reduceCtorEq, reduceIte, Nat.reduceEqDiff, Nat.reduceAdd, Nat.reduceLeDiff, Nat.reduceMul, Int.reduceLT, Int.reduceLE, Int.reduceAdd, Int.reduceSub, Int.reduceMul, Int.reduceNeg, Int.reduceToNat, Int.reduceEq, h3, s.h4, s.h5, s.h6, s.h7, hil, hi0, hjl, hj0, Int.toNat_natCast, bb, d1, d2, d3, d4]
        refine callK_same (k19 _ _ k x.v _ l1 (hxr _ (oo _))) ?_
        have step : True := trivial
        cases ha : absB k x.v l1
        · simp only [go_sem, reduceCtorEq, reduceIte, Nat.reduceEqDiff, Nat.reduceAdd, Nat.reduceLeDiff, Nat.reduceMul, Int.reduceLT, Int.reduceLE, Int.reduceAdd, Int.reduceSub, Int.reduceMul, Int.reduceNeg, Int.reduceToNat, Int.reduceEq, h3, s.h4, s.h5, s.h6, s.h7]
          refine callK_same (k17 _ _ 1) ?_
          simp only [go_sem, reduceCtorEq, reduceIte, Nat.reduceEqDiff, Nat.reduceAdd, Nat.reduceLeDiff, Nat.reduceMul, Int.reduceLT, Int.reduceLE, Int.reduceAdd, Int.reduceSub, Int.reduceMul, Int.reduceNeg, Int.reduceToNat, Int.reduceEq, h3, s.h4, s.h5, s.h6, s.h7]
          refine callK_same (k17 _ _ 1) ?_
          simp only [go_sem, reduceCtorEq, reduceIte, Nat.reduceEqDiff, Nat.reduceAdd, Nat.reduceLeDiff, Nat.reduceMul, Int.reduceLT, Int.reduceLE, Int.reduceAdd, Int.reduceSub, Int.reduceMul, Int.reduceNeg, Int.reduceToNat, Int.reduceEq, h3, s.h4, s.h5, s.h6, s.h7]
          refine callK_same (k17 _ _ 1) ?_
          simp only [go_sem, reduceCtorEq, reduceIte, Nat.reduceEqDiff, Nat.reduceAdd, Nat.reduceLeDiff, Nat.reduceMul, Int.reduceLT, Int.reduceLE, Int.reduceAdd, Int.reduceSub, Int.reduceMul, Int.reduceNeg, Int.reduceToNat, Int.reduceEq, h3, s.h4, s.h5, s.h6, s.h7]
          refine callK_same (k17 _ _ 1) ?_
          simp only [go_sem, reduceCtorEq, reduceIte, Nat.reduceEqDiff, Nat.reduceAdd, Nat.reduceLeDiff, Nat.reduceMul, Int.reduceLT, Int.reduceLE, Int.reduceAdd, Int.reduceSub, Int.reduceMul, Int.reduceNeg, Int.reduceToNat, Int.reduceEq, h3, s.h4, s.h5, s.h6, s.h7]
          exact fin _ _ (by simp only [go_sem, reduceCtorEq, reduceIte, Nat.reduceEqDiff, h3, e]) (by simp only [go_sem, reduceCtorEq, reduceIte, Nat.reduceEqDiff, s.h4]) (by simp only [go_sem, reduceCtorEq, reduceIte, Nat.reduceEqDiff, s.h5]) (by simp only [go_sem, reduceCtorEq, reduceIte, Nat.reduceEqDiff, s.h6]) (by simp only [go_sem, reduceCtorEq, reduceIte, Nat.reduceEqDiff, s.h7])
        · have ha2 : absB k y.v l2 = false := by rw [ha] at hab; simpa using hab
          simp only [go_sem, reduceCtorEq, reduceIte, Nat.reduceEqDiff, Nat.reduceAdd, Nat.reduceLeDiff, Nat.reduceMul, Int.reduceLT, Int.reduceLE, Int.reduceAdd, Int.reduceSub, Int.reduceMul, Int.reduceNeg, Int.reduceToNat, Int.reduceEq, h3, s.h4, s.h5, s.h6, s.h7, hil, hi0, hjl, hj0, Int.toNat_natCast, bb, d1, d2, d3, d4]
          refine callK_same (k19 _ _ k y.v _ l2 (hyr _ (oo _))) ?_
          rw [ha2]
          simp only [go_sem, reduceCtorEq, reduceIte, Nat.reduceEqDiff, Nat.reduceAdd, Nat.reduceLeDiff, Nat.reduceMul, Int.reduceLT, Int.reduceLE, Int.reduceAdd, Int.reduceSub, Int.reduceMul, Int.reduceNeg, Int.reduceToNat, Int.reduceEq, h3, s.h4, s.h5, s.h6, s.h7]
          refine callK_same (k17 _ _ 1) ?_
          simp only [go_sem, reduceCtorEq, reduceIte, Nat.reduceEqDiff, Nat.reduceAdd, Nat.reduceLeDiff, Nat.reduceMul, Int.reduceLT, Int.reduceLE, Int.reduceAdd, Int.reduceSub, Int.reduceMul, Int.reduceNeg, Int.reduceToNat, Int.reduceEq, h3, s.h4, s.h5, s.h6, s.h7]
          refine callK_same (k17 _ _ 1) ?_
          simp only [go_sem, reduceCtorEq, reduceIte, Nat.reduceEqDiff, Nat.reduceAdd, Nat.reduceLeDiff, Nat.reduceMul, Int.reduceLT, Int.reduceLE, Int.reduceAdd, Int.reduceSub, Int.reduceMul, Int.reduceNeg, Int.reduceToNat, Int.reduceEq, h3, s.h4, s.h5, s.h6, s.h7]
          refine callK_same (k17 _ _ 1) ?_
          simp only [go_sem, reduceCtorEq, reduceIte, Nat.reduceEqDiff, Nat.reduceAdd, Nat.reduceLeDiff, Nat.reduceMul, Int.reduceLT, Int.reduceLE, Int.reduceAdd, Int.reduceSub, Int.reduceMul, Int.reduceNeg, Int.reduceToNat, Int.reduceEq, h3, s.h4, s.h5, s.h6, s.h7]
          refine callK_same (k17 _ _ 1) ?_
          simp only [go_sem, reduceCtorEq, reduceIte, Nat.reduceEqDiff, Nat.reduceAdd, Nat.reduceLeDiff, Nat.reduceMul, Int.reduceLT, Int.reduceLE, Int.reduceAdd, Int.reduceSub, Int.reduceMul, Int.reduceNeg, Int.reduceToNat, Int.reduceEq, h3, s.h4, s.h5, s.h6, s.h7]
          exact fin _ _ (by simp only [go_sem, reduceCtorEq, reduceIte, Nat.reduceEqDiff, h3, e]) (by simp only [go_sem, reduceCtorEq, reduceIte, Nat.reduceEqDiff, s.h4]) (by simp only [go_sem, reduceCtorEq, reduceIte, Nat.reduceEqDiff, s.h5]) (by simp only [go_sem, reduceCtorEq, reduceIte, Nat.reduceEqDiff, s.h6]) (by simp only [go_sem, reduceCtorEq, reduceIte, Nat.reduceEqDiff, s.h7])
      -- accepted
      have hab' := hab
      rw [Bool.and_eq_true] at hab'
      obtain ⟨ha1, ha2⟩ := hab'
      refine cut (T3 (fzOf W) sx X k Mb u R i j x.v l1 y.v l2) ?_ ?_
      · obtain ⟨b, o, cs, e, hb, ⟨d1, d2⟩, d3, d4⟩ := hxe s.rxM
        have h3 := s.h3
        rw [e] at h3
        rw [hxu] at d2
        rw [hyu] at d4
        simp only [go_sem, reduceCtorEq, reduceIte, Nat.reduceEqDiff, Nat.reduceAdd, Nat.reduceLeDiff, Nat.reduceMul, Int.reduceLT, Int.reduceLE, Int.reduceAdd, Int.reduceSub, Int.reduceMul, Int.reduceNeg, Int.reduceToNat, Int.reduceEq, h3, s.h4, s.h5, s.h6, s.h7, hil, hi0, hjl, hj0, Int.toNat_natCast, hb, d1, d2, d3, d4]
        refine callK_of (k55 _ _ k x.v y.v _ _ l1 l2 (hxr _ s.old) (hyr _ s.old) s.old) ?_
        rintro w G M1 hq
        obtain ⟨hG, le, kq, oq, v8, l8, a8, n8, c8, rfl, rd8, hw⟩ := wideLe hq hab
        rw [hG]
        refine ⟨fun _ => le, ?_⟩
        simp only [go_sem, reduceCtorEq, reduceIte, Nat.reduceEqDiff, Nat.reduceAdd, Nat.reduceLeDiff, Nat.reduceMul, Int.reduceLT, Int.reduceLE, Int.reduceAdd, Int.reduceSub, Int.reduceMul, Int.reduceNeg, Int.reduceToNat, Int.reduceEq, h3, s.h4, s.h5, s.h6, s.h7]
        intro r8 hF8 hM8
        have old8 := (oq s.old).upd (e := ⟨abCs v8 (.slice a8 n8 c8), 37, 7⟩) hF8
        have kp8 := kq.trans ((Keep.refl M1).new hM8 (e := ⟨abCs v8 (.slice a8 n8 c8), 37, 7⟩))
        simp only [go_sem, reduceCtorEq, reduceIte, Nat.reduceEqDiff, Nat.reduceAdd, Nat.reduceLeDiff, Nat.reduceMul, Int.reduceLT, Int.reduceLE, Int.reduceAdd, Int.reduceSub, Int.reduceMul, Int.reduceNeg, Int.reduceToNat, Int.reduceEq, h3, s.h4, s.h5, s.h6, s.h7]
        exact ⟨v8, l8, (s.grow kp8 old8).ext (by simp only [go_sem, reduceCtorEq, reduceIte, Nat.reduceEqDiff, s.h3, e]) (by simp only [go_sem, reduceCtorEq, reduceIte, Nat.reduceEqDiff]) (by simp only [go_sem, reduceCtorEq, reduceIte, Nat.reduceEqDiff]) (by simp only [go_sem, reduceCtorEq, reduceIte, Nat.reduceEqDiff]) (by simp only [go_sem, reduceCtorEq, reduceIte, Nat.reduceEqDiff]), ⟨r8, a8, n8, c8, by simp only [go_sem, reduceCtorEq, reduceIte, Nat.reduceEqDiff], Hp.upd_same _ _ _, rd8.new hF8 hM8⟩, by simp only [go_sem, reduceCtorEq, reduceIte, Nat.reduceEqDiff], hw⟩
      clear s
      rintro σ F M ⟨v8, l8, s⟩
      obtain rfl := s.ff
      rw [seq_assoc]
      refine cut (P3 (fzOf W) sx X k Mb u R i j x.v l1 y.v l2 v8 l8) ?_ ?_
      · obtain ⟨b, o, cs, e, hb, ⟨d1, d2⟩, d3, d4⟩ := hxe s.rxM
        have h3 := s.h3
        rw [e] at h3
        rw [hxu] at d2
        rw [hyu] at d4
        simp only [go_sem, reduceCtorEq, reduceIte, Nat.reduceEqDiff, Nat.reduceAdd, Nat.reduceLeDiff, Nat.reduceMul, Int.reduceLT, Int.reduceLE, Int.reduceAdd, Int.reduceSub, Int.reduceMul, Int.reduceNeg, Int.reduceToNat, Int.reduceEq, h3, s.h4, s.h5, s.h6, s.h7, s.h9, hil, hi0, hjl, hj0, Int.toNat_natCast, hb, d1, d2, d3, d4]
        refine callK_same (k19 _ _ k x.v _ l1 (hxr _ s.old)) ?_
        rw [ha1]
        simp only [go_sem, reduceCtorEq, reduceIte, Nat.reduceEqDiff, Nat.reduceAdd, Nat.reduceLeDiff, Nat.reduceMul, Int.reduceLT, Int.reduceLE, Int.reduceAdd, Int.reduceSub, Int.reduceMul, Int.reduceNeg, Int.reduceToNat, Int.reduceEq, h3, s.h4, s.h5, s.h6, s.h7, s.h9, hil, hi0, hjl, hj0, Int.toNat_natCast, hb, d1, d2, d3, d4]
        refine callK_same (k19 _ _ k y.v _ l2 (hyr _ s.old)) ?_
        rw [ha2]
        simp only [go_sem, reduceCtorEq, reduceIte, Nat.reduceEqDiff, Nat.reduceAdd, Nat.reduceLeDiff, Nat.reduceMul, Int.reduceLT, Int.reduceLE, Int.reduceAdd, Int.reduceSub, Int.reduceMul, Int.reduceNeg, Int.reduceToNat, Int.reduceEq, h3, s.h4, s.h5, s.h6, s.h7, s.h9]
        refine callK_same (k17 _ _ 0) ?_
        simp only [go_sem, reduceCtorEq, reduceIte, Nat.reduceEqDiff, Nat.reduceAdd, Nat.reduceLeDiff, Nat.reduceMul, Int.reduceLT, Int.reduceLE, Int.reduceAdd, Int.reduceSub, Int.reduceMul, Int.reduceNeg, Int.reduceToNat, Int.reduceEq, h3, s.h4, s.h5, s.h6, s.h7, s.h9]
        refine callK_same (k17 _ _ 0) ?_
        simp only [go_sem, reduceCtorEq, reduceIte, Nat.reduceEqDiff, Nat.reduceAdd, Nat.reduceLeDiff, Nat.reduceMul, Int.reduceLT, Int.reduceLE, Int.reduceAdd, Int.reduceSub, Int.reduceMul, Int.reduceNeg, Int.reduceToNat, Int.reduceEq, h3, s.h4, s.h5, s.h6, s.h7, s.h9]
        refine callK_same (k17 _ _ 0) ?_
        simp only [go_sem, reduceCtorEq, reduceIte, Nat.reduceEqDiff, Nat.reduceAdd, Nat.reduceLeDiff, Nat.reduceMul, Int.reduceLT, Int.reduceLE, Int.reduceAdd, Int.reduceSub, Int.reduceMul, Int.reduceNeg, Int.reduceToNat, Int.reduceEq, h3, s.h4, s.h5, s.h6, s.h7, s.h9]
        exact s.ext (by simp only [go_sem, reduceCtorEq, reduceIte, Nat.reduceEqDiff, s.h3, e]) (by simp only [go_sem, reduceCtorEq, reduceIte, Nat.reduceEqDiff]) (by simp only [go_sem, reduceCtorEq, reduceIte, Nat.reduceEqDiff]) (by simp only [go_sem, reduceCtorEq, reduceIte, Nat.reduceEqDiff]) (by simp only [go_sem, reduceCtorEq, reduceIte, Nat.reduceEqDiff]) (by simp only [go_sem, reduceCtorEq, reduceIte, Nat.reduceEqDiff]) (by simp only [go_sem, reduceCtorEq, reduceIte, Nat.reduceEqDiff])
      clear s
      rintro σ F M s
      obtain rfl := s.ff
      obtain ⟨r8, a8, n8, c8, h8, f8, rd8⟩ := s.s8
      have b8 := blk_M (F := fzOf W) f8
      obtain ⟨b, o, cs, e, hb, ⟨d1, d2⟩, d3, d4⟩ := hxe s.rxM
      have h3 := s.h3
      rw [e] at h3
      rw [hxu] at d2
      rw [hyu] at d4
      simp only [go_sem, reduceCtorEq, reduceIte, Nat.reduceEqDiff, Nat.reduceAdd, Nat.reduceLeDiff, Nat.reduceMul, Int.reduceLT, Int.reduceLE, Int.reduceAdd, Int.reduceSub, Int.reduceMul, Int.reduceNeg, Int.reduceToNat, Int.reduceEq, h3, s.h4, s.h5, s.h6, s.h7, s.h9, h8, hil, hi0, hjl, hj0, Int.toNat_natCast, hb, d1, d2, d3, d4]
      refine callK_same (k53 _ _ k y.v x.v _ _ l2 l1 (hyr _ s.old) (hxr _ s.old) s.old) ?_
      rw [ha1, ha2]
      simp only [go_sem, reduceCtorEq, reduceIte, Nat.reduceEqDiff, Nat.reduceAdd, Nat.reduceLeDiff, Nat.reduceMul, Int.reduceLT, Int.reduceLE, Int.reduceAdd, Int.reduceSub, Int.reduceMul, Int.reduceNeg, Int.reduceToNat, Int.reduceEq, h3, s.h4, s.h5, s.h6, s.h7, s.h9, h8, b8, Bool.and_self, if_true]
      refine callK_same (k19 _ _ k v8 _ l8 rd8) ?_
      rw [s.wide.may]
      simp only [go_sem, reduceCtorEq, reduceIte, Nat.reduceEqDiff, Nat.reduceAdd, Nat.reduceLeDiff, Nat.reduceMul, Int.reduceLT, Int.reduceLE, Int.reduceAdd, Int.reduceSub, Int.reduceMul, Int.reduceNeg, Int.reduceToNat, Int.reduceEq, h3, s.h4, s.h5, s.h6, s.h7, s.h9, h8, b8, hil, hi0, hjl, hj0, Int.toNat_natCast, hb, d1, d2, d3, d4]
      refine callK_same (k52 _ _ k x.v v8 _ _ l1 l8 i (hxr _ s.old) rd8 s.old ha1 s.wide.left) ?_
      simp only [go_sem, reduceCtorEq, reduceIte, Nat.reduceEqDiff, Nat.reduceAdd, Nat.reduceLeDiff, Nat.reduceMul, Int.reduceLT, Int.reduceLE, Int.reduceAdd, Int.reduceSub, Int.reduceMul, Int.reduceNeg, Int.reduceToNat, Int.reduceEq, h3, s.h4, s.h5, s.h6, s.h7, s.h9, h8, b8, hil, hi0, hjl, hj0, Int.toNat_natCast, hb, d1, d2, d3, d4]
      refine callK_same (k52 _ _ k y.v v8 _ _ l2 l8 j (hyr _ s.old) rd8 s.old ha2 s.wide.right) ?_
      simp only [go_sem, reduceCtorEq, reduceIte, Nat.reduceEqDiff, Nat.reduceAdd, Nat.reduceLeDiff, Nat.reduceMul, Int.reduceLT, Int.reduceLE, Int.reduceAdd, Int.reduceSub, Int.reduceMul, Int.reduceNeg, Int.reduceToNat, Int.reduceEq, h3, s.h4, s.h5, s.h6, s.h7, s.h9, h8, b8, hil, hi0, hjl, hj0, Int.toNat_natCast, hb, d1, d2, d3, d4]
      refine callK_same (k17 _ _ 0) ?_
      cases hu : underB k y.v l2 x.v l1
      · simp only [go_sem, reduceCtorEq, reduceIte, Nat.reduceEqDiff, Nat.reduceAdd, Nat.reduceLeDiff, Nat.reduceMul, Int.reduceLT, Int.reduceLE, Int.reduceAdd, Int.reduceSub, Int.reduceMul, Int.reduceNeg, Int.reduceToNat, Int.reduceEq, h3, s.h4, s.h5, s.h6, s.h7, s.h9, h8, b8]
        exact s.toR2.ext (by simp only [go_sem, reduceCtorEq, reduceIte, Nat.reduceEqDiff, s.h3, e]) (by simp only [go_sem, reduceCtorEq, reduceIte, Nat.reduceEqDiff, s.h4]) (by simp only [go_sem, reduceCtorEq, reduceIte, Nat.reduceEqDiff, s.h5]) (by simp only [go_sem, reduceCtorEq, reduceIte, Nat.reduceEqDiff, s.h6]) (by simp only [go_sem, reduceCtorEq, reduceIte, Nat.reduceEqDiff, s.h7])
      · obtain ⟨ev, el⟩ := s.wide.same hu
        simp only [go_sem, reduceCtorEq, reduceIte, Nat.reduceEqDiff, Nat.reduceAdd, Nat.reduceLeDiff, Nat.reduceMul, Int.reduceLT, Int.reduceLE, Int.reduceAdd, Int.reduceSub, Int.reduceMul, Int.reduceNeg, Int.reduceToNat, Int.reduceEq, h3, s.h4, s.h5, s.h6, s.h7, s.h9, h8, b8, hil, hi0, hjl, hj0, Int.toNat_natCast, hb, d1, d2, d3, d4]
        refine callK_same (k32 _ _ v8 x.v _ _ l8 l1 rd8 (hxr _ s.old)) ?_
        have ee : (decide (v8 = x.v) && decide (l8 = l1)) = true := by rw [ev, el]; simp
        rw [ee]
        simp only [go_sem, reduceCtorEq, reduceIte, Nat.reduceEqDiff, Nat.reduceAdd, Nat.reduceLeDiff, Nat.reduceMul, Int.reduceLT, Int.reduceLE, Int.reduceAdd, Int.reduceSub, Int.reduceMul, Int.reduceNeg, Int.reduceToNat, Int.reduceEq, h3, s.h4, s.h5, s.h6, s.h7, s.h9, h8, b8]
        exact s.toR2.ext (by simp only [go_sem, reduceCtorEq, reduceIte, Nat.reduceEqDiff, s.h3, e]) (by simp only [go_sem, reduceCtorEq, reduceIte, Nat.reduceEqDiff, s.h4]) (by simp only [go_sem, reduceCtorEq, reduceIte, Nat.reduceEqDiff, s.h5]) (by simp only [go_sem, reduceCtorEq, reduceIte, Nat.reduceEqDiff, s.h6]) (by simp only [go_sem, reduceCtorEq, reduceIte, Nat.reduceEqDiff, s.h7])
    -- the set joins the row
    clear s
    rintro σ F M s
    obtain rfl := s.ff
    obtain ⟨l1, hl1, hlg1⟩ := hXg X[i] (List.getElem_mem _)
    have hxe : ∀ {M : Hp}, RdG 7 Ab.cs (fzOf W) M sx X → ∃ b o cs, sx = .slice (some ⟨b, o, none⟩) X.length cx ∧ blk (fzOf W) M b = some cs ∧ o + i * 7 + 7 ≤ cs.length ∧ (cs.drop (o + i * 7)).take 7 = abCs X[i].v X[i].u := by
      intro M hr
      obtain ⟨b, o, cap, cs, e, h1, h2, h3⟩ := ab_at hr hil'
      rw [e] at hsx
      cases hsx
      exact ⟨b, o, cs, e, h1, h2, h3⟩
    generalize X[i] = x at *
    have hxu : x.u = .slice x.a l1.length x.c := (hlg1 _ (Old.start _)).u_eq
    have hxr : ∀ M, Old (fzOf W) M → RdG 7 Ba.cs (fzOf W) M (.slice x.a l1.length x.c) l1 := fun M o => by
      have := (hlg1 _ o).2
      rw [hxu] at this; exact this
    obtain ⟨b, o, cs, e, hb, d1, d2⟩ := hxe s.rxM
    have h3 := s.h3
    rw [e] at h3
    rw [hxu] at d2
    obtain ⟨aw, cw, ew⟩ := s.mine.shape
    have h5 := s.h5
    rw [ew] at h5
    simp only [go_sem, reduceCtorEq, reduceIte, Nat.reduceEqDiff, Nat.reduceAdd, Nat.reduceLeDiff, Nat.reduceMul, Int.reduceLT, Int.reduceLE, Int.reduceAdd, Int.reduceSub, Int.reduceMul, Int.reduceNeg, Int.reduceToNat, Int.reduceEq, h3, s.h4, h5, s.h6, hil, hi0, Int.toNat_natCast, hb, d1, d2]
    refine callK_same (k19 _ _ k x.v _ l1 (hxr _ s.old)) ?_
    cases ha : absB k x.v l1
    · simp only [go_sem, reduceCtorEq, reduceIte, Nat.reduceEqDiff, Nat.reduceAdd, Nat.reduceLeDiff, Nat.reduceMul, Int.reduceLT, Int.reduceLE, Int.reduceAdd, Int.reduceSub, Int.reduceMul, Int.reduceNeg, Int.reduceToNat, Int.reduceEq, h3, s.h4, h5, s.h6]
      exact ⟨Mb, u, R, s.ext (by simp only [go_sem, reduceCtorEq, reduceIte, Nat.reduceEqDiff, s.h3, e]) (by simp only [go_sem, reduceCtorEq, reduceIte, Nat.reduceEqDiff, s.h4]) (by simp only [go_sem, reduceCtorEq, reduceIte, Nat.reduceEqDiff, h5, ew]) (by simp only [go_sem, reduceCtorEq, reduceIte, Nat.reduceEqDiff, s.h6]), by omega⟩
    · simp only [go_sem, reduceCtorEq, reduceIte, Nat.reduceEqDiff, Nat.reduceAdd, Nat.reduceLeDiff, Nat.reduceMul, Int.reduceLT, Int.reduceLE, Int.reduceAdd, Int.reduceSub, Int.reduceMul, Int.reduceNeg, Int.reduceToNat, Int.reduceEq, h3, s.h4, h5, s.h6, hil, hi0, Int.toNat_natCast, hb, d1, d2]
      intro rb hFb hMb
      simp only [go_sem, reduceCtorEq, reduceIte, Nat.reduceEqDiff, Nat.reduceAdd, Nat.reduceLeDiff, Nat.reduceMul, Int.reduceLT, Int.reduceLE, Int.reduceAdd, Int.reduceSub, Int.reduceMul, Int.reduceNeg, Int.reduceToNat, Int.reduceEq, h3, s.h4, h5, s.h6]
      rw [← ew]
      have ecs : [x].flatMap Ab.cs = abCs x.v (.slice x.a l1.length x.c) := by
        rw [← hxu]; simp [Ab.cs]
      refine apMG_of (xs := R) (ys := [x]) Ab.len Ab.plain (by decide) (s.mine.fresh hMb) (s.kb.new (s.kb.free hMb)) ⟨rfl, .inr ⟨⟨rb, 0, none⟩, 1, rfl, .inr ⟨rb, 0, _, rfl, blk_upd_same, by rw [ecs]; simp only [List.drop_zero]; exact ab_take⟩⟩⟩ (by simp) (by simp; omega) ?_
      rintro v' M5 _ hfr kp5 ho5 mine5
      simp only [go_sem, reduceCtorEq, reduceIte, Nat.reduceEqDiff, Nat.reduceAdd, Nat.reduceLeDiff, Nat.reduceMul, Int.reduceLT, Int.reduceLE, Int.reduceAdd, Int.reduceSub, Int.reduceMul, Int.reduceNeg, Int.reduceToNat, Int.reduceEq, h3, s.h4, h5, s.h6]
      have hg : ∀ t ∈ R ++ [x], ∃ l, t.is (fzOf W) Mb l ∧ absB k t.v l = true := fun t ht => by
        rcases List.mem_append.1 ht with ht | ht
        · exact s.good t ht
        · simp at ht; subst ht
          exact ⟨l1, hlg1 _ s.oldb, ha⟩
      exact ⟨Mb, v', R ++ [x], ⟨⟨rfl, ho5 (s.old.upd hFb), s.oldb, kp5, by simp only [go_sem, reduceCtorEq, reduceIte, Nat.reduceEqDiff, h3, e], s.rx, by simp only [go_sem, reduceCtorEq, reduceIte, Nat.reduceEqDiff, s.h4], by simp only [go_sem, reduceCtorEq, reduceIte, Nat.reduceEqDiff], mine5, hg⟩, by simp only [go_sem, reduceCtorEq, reduceIte, Nat.reduceEqDiff, s.h6]⟩, by simp; omega⟩
  -- eighty more
  clear s
  rintro σ F M2 ⟨Mb, u, R, s, hR⟩
  obtain rfl := s.ff
  refine cut (rT (fzOf W) sx X k 90) ?_ ?_
  · simp only [go_sem, reduceCtorEq, reduceIte, Nat.reduceEqDiff, Nat.reduceAdd, Nat.reduceLeDiff, Nat.reduceMul, Int.reduceLT, Int.reduceLE, Int.reduceAdd, Int.reduceSub, Int.reduceMul, Int.reduceNeg, Int.reduceToNat, Int.reduceEq, s.h3, s.h4, s.h5]
    refine loop_of (gI (fzOf W) sx X k 10) 80 ?_ ?_
    · exact ⟨0, ⟨Mb, u, R, s.ext (by simp only [go_sem, reduceCtorEq, reduceIte, Nat.reduceEqDiff]) (by simp only [go_sem, reduceCtorEq, reduceIte, Nat.reduceEqDiff]) (by simp only [go_sem, reduceCtorEq, reduceIte, Nat.reduceEqDiff]), by omega⟩, by simp only [go_sem, reduceCtorEq, reduceIte, Nat.reduceEqDiff] <;> rfl, by omega⟩
    clear s hR
    clear u R Mb
    rintro mg σ F M2 ⟨i, ⟨Mb, u, R, s, hR⟩, h12, hi⟩
    obtain rfl := s.ff
    obtain ⟨aw, cw, ew⟩ := s.mine.shape
    have h5 := s.h5
    rw [ew] at h5
    by_cases hi80 : (i : Int) < 80
    rotate_left
    · simp only [go_sem, reduceCtorEq, reduceIte, Nat.reduceEqDiff, Nat.reduceAdd, Nat.reduceLeDiff, Nat.reduceMul, Int.reduceLT, Int.reduceLE, Int.reduceAdd, Int.reduceSub, Int.reduceMul, Int.reduceNeg, Int.reduceToNat, Int.reduceEq, s.h3, s.h4, h5, h12, hi80]
      exact ⟨Mb, u, R, s.ext (by simp only [go_sem, reduceCtorEq, reduceIte, Nat.reduceEqDiff]) (by simp only [go_sem, reduceCtorEq, reduceIte, Nat.reduceEqDiff]) (by simp only [go_sem, reduceCtorEq, reduceIte, Nat.reduceEqDiff, h5, ew]), by omega⟩
    have ei : IntKind.i64.wrap ((i : Int) + 1) = i + 1 := w64 (by omega) (by omega)
    have e5 : IntKind.i64.wrap ((i : Int) * 5) = i * 5 := w64 (by omega) (by omega)
    have e7 : IntKind.i64.wrap ((i : Int) * 7) = i * 7 := w64 (by omega) (by omega)
    have fin : ∀ (σ' : Env) (M' : Hp) (Mb' : Hp) (u' : Value) (R' : List Ab), R1 (fzOf W) sx X k Mb' u' R' σ' (fzOf W) M' → R'.length ≤ 10 + (i + 1) → Ax.look σ' 12 = some (.int .i64 (i + 1)) → ∃ m', m' < mg ∧ gI (fzOf W) sx X k 10 m' σ' (fzOf W) M' :=
      fun σ' M' Mb' u' R' s' hR' h12' => ⟨mg - 1, by omega, i + 1, ⟨Mb', u', R', s', hR'⟩, h12', by omega⟩
    -- one set more
    have fin2 : ∀ (σ' : Env) (vq : V) (a : Option Addr) (n c : Nat) (Mb' M5 : Hp) (v' : Value) (lq : List Ba), absB k vq lq = true → Keep Mb Mb' → Old (fzOf W) Mb' → Old (fzOf W) M5 → Keep Mb' M5 → MineG 7 Ab.cs 37 (fzOf W) Mb' M5 v' (R ++ [⟨vq, a, n, c⟩]) → (Ab.mk vq a n c).is (fzOf W) Mb' lq →
        Ax.look σ' 3 = some sx → Ax.look σ' 4 = some (.int .i64 k) → Ax.look σ' 5 = some v' → Ax.look σ' 12 = some (.int .i64 (i + 1)) → ∃ m', m' < mg ∧ gI (fzOf W) sx X k 10 m' σ' (fzOf W) M5 := by
      intro σ' vq a n c Mb' M5 v' lq hq kb' oldb' old5 kp5 mine5 his e3 e4 e5 e12
      refine fin σ' M5 Mb' v' (R ++ [⟨vq, a, n, c⟩]) ⟨rfl, old5, oldb', kp5, e3, s.rx.keep kb' oldb', e4, e5, mine5, fun t ht => ?_⟩ (by simp; omega) e12
      rcases List.mem_append.1 ht with ht | ht
      · obtain ⟨l, h1, h2⟩ := s.good t ht
        exact ⟨l, h1.keep kb' oldb', h2⟩
      · simp at ht; subst ht
        exact ⟨lq, his, hq⟩
    by_cases h7 : k = 7
    · subst h7
      obtain ⟨b, ⟨hb1, hb6⟩, eb⟩ : ∃ b : Nat, (1 ≤ b ∧ b ≤ 6) ∧ IntKind.i64.wrap (1 + ((i : Int) * 5).tmod 6) = b := ⟨1 + i * 5 % 6, by omega, by
        rw [Int.tmod_eq_emod_of_nonneg (by omega), w64 (by omega) (by omega)]; omega⟩
      obtain ⟨o, ho32, eo⟩ : ∃ o : Nat, o ≤ 32 ∧ ((i : Int) * 7).tmod 33 = o := ⟨i * 7 % 33, by omega, by
        rw [Int.tmod_eq_emod_of_nonneg (by omega)]; omega⟩
      have hq : sc6B 7 ⟨true, 0, b, o⟩ = true := by
        have b6 : (b : Int) ≤ 6 := by omega
        have b32 : (b : Int) ≤ 32 := by omega
        have b0 : (0 : Int) < b := by omega
        have b00 : (0 : Int) ≤ b := by omega
        have o0 : (0 : Int) ≤ o := by omega
        have o32 : (o : Int) ≤ 32 := by omega
        simp [sc6B, scB, b6, b32, b0, o0, o32]
        omega
      have hqa := one_abs hq
      simp only [go_sem, reduceCtorEq, reduceIte, Nat.reduceEqDiff, Nat.reduceAdd, Nat.reduceLeDiff, Nat.reduceMul, Int.reduceLT, Int.reduceLE, Int.reduceAdd, Int.reduceSub, Int.reduceMul, Int.reduceNeg, Int.reduceToNat, Int.reduceEq, s.h3, s.h4, h5, h12, hi80, e5, e7, eb, eo]
      refine callK_of (k56 _ _ 7 ⟨true, 0, b, o⟩) ?_
      rintro w G M3 hr
      have e0 : (if (7 : Int) = 7 then V.zero else V.just (wK 7) (Sc.mk true 0 b o).n) = oneV 7 ⟨true, 0, b, o⟩ := rfl
      rw [e0] at hr
      have hl1 := one_len (k := 7) (s := ⟨true, 0, b, o⟩)
      obtain ⟨hG, le, k23, old3, a, n, c, Mb', rfl, k3, kb', oldb', mine3, his⟩ := add_row s.kb s.old s.oldb s.mine (by omega) hr
      rw [hG]
      refine ⟨(fun h => by cases h), ?_⟩
      simp only [go_sem, reduceCtorEq, reduceIte, Nat.reduceEqDiff, Nat.reduceAdd, Nat.reduceLeDiff, Nat.reduceMul, Int.reduceLT, Int.reduceLE, Int.reduceAdd, Int.reduceSub, Int.reduceMul, Int.reduceNeg, Int.reduceToNat, Int.reduceEq, s.h3, s.h4, h5, h12]
      intro rb hFb hMb
      simp only [go_sem, reduceCtorEq, reduceIte, Nat.reduceEqDiff, Nat.reduceAdd, Nat.reduceLeDiff, Nat.reduceMul, Int.reduceLT, Int.reduceLE, Int.reduceAdd, Int.reduceSub, Int.reduceMul, Int.reduceNeg, Int.reduceToNat, Int.reduceEq, s.h3, s.h4, h5, h12]
      rw [← ew]
      have ecs : [Ab.mk (oneV 7 ⟨true, 0, b, o⟩) a n c].flatMap Ab.cs = abCs (oneV 7 ⟨true, 0, b, o⟩) (.slice a n c) := by simp [Ab.cs, Ab.u]
      refine apMG_of (xs := R) (ys := [Ab.mk (oneV 7 ⟨true, 0, b, o⟩) a n c]) Ab.len Ab.plain (by decide) (mine3.fresh hMb) (k3.new (k3.free hMb)) ⟨rfl, .inr ⟨⟨rb, 0, none⟩, 1, rfl, .inr ⟨rb, 0, _, rfl, blk_upd_same, by rw [ecs]; simp only [List.drop_zero]; exact ab_take⟩⟩⟩ (by simp) (by simp; omega) ?_
      rintro v' M5 _ hfr kp5 ho5 mine5
      simp only [go_sem, reduceCtorEq, reduceIte, Nat.reduceEqDiff, Nat.reduceAdd, Nat.reduceLeDiff, Nat.reduceMul, Int.reduceLT, Int.reduceLE, Int.reduceAdd, Int.reduceSub, Int.reduceMul, Int.reduceNeg, Int.reduceToNat, Int.reduceEq, s.h3, s.h4, h5, h12, ei]
      exact fin2 _ _ _ _ _ _ _ _ _ hqa kb' oldb' (ho5 (old3.upd hFb)) kp5 mine5 his (by simp only [go_sem, reduceCtorEq, reduceIte, Nat.reduceEqDiff, s.h3]) (by simp only [go_sem, reduceCtorEq, reduceIte, Nat.reduceEqDiff, s.h4]) (by simp only [go_sem, reduceCtorEq, reduceIte, Nat.reduceEqDiff]) (by simp only [go_sem, reduceCtorEq, reduceIte, Nat.reduceEqDiff] <;> rfl)
    · have h7' : ¬ (k : Int) = 7 := by omega
      by_cases hk0 : (0 : Int) < k
      · have hik : isK k = true := by simp [isK]; omega
        have hw := ofW_isW k
        have hwk : wK k = ofW k := by simp only [wK, hik, if_true]
        have hw0 : 0 ≤ wK k ∧ wK k ≤ 62 := by rw [hwk]; exact isW_le hw
        generalize hp : IntKind.i64.wrap (IntKind.i64.wrap (IntKind.i64.wrap ((i : Int) * i) * i) * 131) = p at *
        have hq : sc6B k ⟨false, p % 2 ^ (wK k).toNat, 0, 0⟩ = true := by
          have hpos : (0 : Int) < 2 ^ (wK k).toNat := Int.pow_pos (by omega)
          have h1 := Int.emod_nonneg p (Int.ne_of_gt hpos)
          have h2 := Int.emod_lt_of_pos p hpos
          have h3 : isN (p % 2 ^ (wK k).toNat) (ofW k) = true := by
            rw [← hwk]
            have hm : mostV (wK k) = 2 ^ (wK k).toNat - 1 := by
              rw [hwk]; rcases isW_cases hw with h | h | h <;> rw [h] <;> decide
            simp only [isN, Bool.and_eq_true, decide_eq_true_eq]
            omega
          simp [sc6B, scB, h7', hik, h3]
        have hqa := one_abs hq
        simp only [go_sem, reduceCtorEq, reduceIte, Nat.reduceEqDiff, Nat.reduceAdd, Nat.reduceLeDiff, Nat.reduceMul, Int.reduceLT, Int.reduceLE, Int.reduceAdd, Int.reduceSub, Int.reduceMul, Int.reduceNeg, Int.reduceToNat, Int.reduceEq, s.h3, s.h4, h5, h12, hi80, h7', hk0, hp]
        refine callK_same (k46 _ _ k) ?_
        simp only [go_sem, reduceCtorEq, reduceIte, Nat.reduceEqDiff, Nat.reduceAdd, Nat.reduceLeDiff, Nat.reduceMul, Int.reduceLT, Int.reduceLE, Int.reduceAdd, Int.reduceSub, Int.reduceMul, Int.reduceNeg, Int.reduceToNat, Int.reduceEq, s.h3, s.h4, h5, h12]
        refine callK_same (k57 _ _ p (wK k) hw0.1 hw0.2) ?_
        simp only [go_sem, reduceCtorEq, reduceIte, Nat.reduceEqDiff, Nat.reduceAdd, Nat.reduceLeDiff, Nat.reduceMul, Int.reduceLT, Int.reduceLE, Int.reduceAdd, Int.reduceSub, Int.reduceMul, Int.reduceNeg, Int.reduceToNat, Int.reduceEq, s.h3, s.h4, h5, h12]
        refine callK_of (k56 _ _ k ⟨false, p % 2 ^ (wK k).toNat, 0, 0⟩) ?_
        generalize hqq : Sc.mk false (p % 2 ^ (wK k).toNat) 0 0 = q at *
        rintro w G M3 hr
        have e0 : (if (k : Int) = 7 then V.zero else V.just (wK k) q.n) = oneV k q := by
          simp only [h7', if_false, oneV, hwk]
        rw [e0] at hr
        have hl1 := one_len (k := k) (s := q)
        obtain ⟨hG, le, k23, old3, a, n, c, Mb', rfl, k3, kb', oldb', mine3, his⟩ := add_row s.kb s.old s.oldb s.mine (by omega) hr
        rw [hG]
        refine ⟨(fun h => by cases h), ?_⟩
        simp only [go_sem, reduceCtorEq, reduceIte, Nat.reduceEqDiff, Nat.reduceAdd, Nat.reduceLeDiff, Nat.reduceMul, Int.reduceLT, Int.reduceLE, Int.reduceAdd, Int.reduceSub, Int.reduceMul, Int.reduceNeg, Int.reduceToNat, Int.reduceEq, s.h3, s.h4, h5, h12]
        intro rb hFb hMb
        simp only [go_sem, reduceCtorEq, reduceIte, Nat.reduceEqDiff, Nat.reduceAdd, Nat.reduceLeDiff, Nat.reduceMul, Int.reduceLT, Int.reduceLE, Int.reduceAdd, Int.reduceSub, Int.reduceMul, Int.reduceNeg, Int.reduceToNat, Int.reduceEq, s.h3, s.h4, h5, h12]
        rw [← ew]
        have ecs : [Ab.mk (oneV k q) a n c].flatMap Ab.cs = abCs (oneV k q) (.slice a n c) := by simp [Ab.cs, Ab.u]
        refine apMG_of (xs := R) (ys := [Ab.mk (oneV k q) a n c]) Ab.len Ab.plain (by decide) (mine3.fresh hMb) (k3.new (k3.free hMb)) ⟨rfl, .inr ⟨⟨rb, 0, none⟩, 1, rfl, .inr ⟨rb, 0, _, rfl, blk_upd_same, by rw [ecs]; simp only [List.drop_zero]; exact ab_take⟩⟩⟩ (by simp) (by simp; omega) ?_
        rintro v' M5 _ hfr kp5 ho5 mine5
        simp only [go_sem, reduceCtorEq, reduceIte, Nat.reduceEqDiff, Nat.reduceAdd, Nat.reduceLeDiff, Nat.reduceMul, Int.reduceLT, Int.reduceLE, Int.reduceAdd, Int.reduceSub, Int.reduceMul, Int.reduceNeg, Int.reduceToNat, Int.reduceEq, s.h3, s.h4, h5, h12, ei]
        exact fin2 _ _ _ _ _ _ _ _ _ hqa kb' oldb' (ho5 (old3.upd hFb)) kp5 mine5 his (by simp only [go_sem, reduceCtorEq, reduceIte, Nat.reduceEqDiff, s.h3]) (by simp only [go_sem, reduceCtorEq, reduceIte, Nat.reduceEqDiff, s.h4]) (by simp only [go_sem, reduceCtorEq, reduceIte, Nat.reduceEqDiff]) (by simp only [go_sem, reduceCtorEq, reduceIte, Nat.reduceEqDiff] <;> rfl)
      · simp only [go_sem, reduceCtorEq, reduceIte, Nat.reduceEqDiff, Nat.reduceAdd, Nat.reduceLeDiff, Nat.reduceMul, Int.reduceLT, Int.reduceLE, Int.reduceAdd, Int.reduceSub, Int.reduceMul, Int.reduceNeg, Int.reduceToNat, Int.reduceEq, s.h3, s.h4, h5, h12, hi80, h7', hk0, ei]
        exact fin _ M2 Mb u R (s.ext (by simp only [go_sem, reduceCtorEq, reduceIte, Nat.reduceEqDiff]) (by simp only [go_sem, reduceCtorEq, reduceIte, Nat.reduceEqDiff]) (by simp only [go_sem, reduceCtorEq, reduceIte, Nat.reduceEqDiff, h5, ew])) (by omega) (by simp only [go_sem, reduceCtorEq, reduceIte, Nat.reduceEqDiff] <;> rfl)
  -- growing along the row
  clear s hR
  clear u R Mb
  rintro σ F M2 ⟨Mb, u, R, s, hR⟩
  obtain rfl := s.ff
  obtain ⟨aw, cw, ew⟩ := s.mine.shape
  have h5 := s.h5
  rw [ew] at h5
  by_cases hR0 : (R.length : Int) = 0
  · simp only [go_sem, reduceCtorEq, reduceIte, Nat.reduceEqDiff, Nat.reduceAdd, Nat.reduceLeDiff, Nat.reduceMul, Int.reduceLT, Int.reduceLE, Int.reduceAdd, Int.reduceSub, Int.reduceMul, Int.reduceNeg, Int.reduceToNat, Int.reduceEq, s.h3, s.h4, h5, hR0]
    exact ⟨rfl, s.old, by simp only [go_sem, reduceCtorEq, reduceIte, Nat.reduceEqDiff, s.h3], s.rxM, by simp only [go_sem, reduceCtorEq, reduceIte, Nat.reduceEqDiff, s.h4]⟩
  have hR0' : 0 < R.length := by omega
  have hRp : (0 : Int) < R.length := by omega
  obtain ⟨b, o, cap, cs, ea, hb, d1, d2⟩ := ab_at (s.mine.own.rd Ab.len (by omega)) hR0'
  obtain ⟨l0, his0, ha0⟩ := s.good R[0] (List.getElem_mem _)
  have rdr := s.mine.own.rd Ab.len (by omega)
  have goodM : ∀ x ∈ R, ∃ l, x.is (fzOf W) M2 l ∧ absB k x.v l = true := fun x hx => by
    obtain ⟨l, h1, h2⟩ := s.good x hx
    exact ⟨l, h1.keep s.kb s.old, h2⟩
  have his0' := his0.keep s.kb s.old
  generalize R[0] = x0 at *
  have ec : cap = cw := by rw [ea] at ew; cases ew; rfl
  have h5' := s.h5
  rw [ea] at h5'
  have hx0u := his0'.u_eq
  have his2 := his0'.2
  rw [hx0u] at d2 his2
  simp only [go_sem, reduceCtorEq, reduceIte, Nat.reduceEqDiff, Nat.reduceAdd, Nat.reduceLeDiff, Nat.reduceMul, Int.reduceLT, Int.reduceLE, Int.reduceAdd, Int.reduceSub, Int.reduceMul, Int.reduceNeg, Int.reduceToNat, Int.reduceEq, s.h3, s.h4, h5', hR0, hRp, Int.toNat_zero, Int.toNat_natCast, hb, d1, d2]
  intro r13 hF13 hM13
  have kp0 : ∀ e, Keep M2 (M2.upd r13 e) := fun e => (Keep.refl M2).new hM13
  have old0 : ∀ e, Old (fzOf W) (M2.upd r13 e) := fun e => s.old.upd hF13
  simp only [go_sem, reduceCtorEq, reduceIte, Nat.reduceEqDiff, Nat.reduceAdd, Nat.reduceLeDiff, Nat.reduceMul, Int.reduceLT, Int.reduceLE, Int.reduceAdd, Int.reduceSub, Int.reduceMul, Int.reduceNeg, Int.reduceToNat, Int.reduceEq, s.h3, s.h4, h5', hR0, hRp]
  refine loop_of (vI (fzOf W) sx X k M2 u R r13) (R.length - 1) ?_ ?_
  · exact ⟨1, ⟨rfl, old0 _, kp0 _, hM13, by simp only [go_sem, reduceCtorEq, reduceIte, Nat.reduceEqDiff, s.h3], by simp only [go_sem, reduceCtorEq, reduceIte, Nat.reduceEqDiff, s.h4], by simp only [go_sem, reduceCtorEq, reduceIte, Nat.reduceEqDiff, h5', ea], by simp only [go_sem, reduceCtorEq, reduceIte, Nat.reduceEqDiff], x0.v, l0, x0.a, _, x0.c, 0, Hp.upd_same _ _ _, his2.keep (kp0 _) (old0 _), ha0, by simp only [go_sem, reduceCtorEq, reduceIte, Nat.reduceEqDiff] <;> rfl, by omega⟩, by simp only [go_sem, reduceCtorEq, reduceIte, Nat.reduceEqDiff] <;> rfl, by omega⟩
  have rxM2 := s.rxM
  clear kp0 old0 his2 d2 hx0u h5' his0' ha0 his0 hb d1 h5 ew ea
  clear s
  rintro mv σ F M ⟨i, s, h15, hi⟩
  obtain ⟨v, l, a, n, c, t, f13, rdl, hal, h14, ht⟩ := s.st
  obtain rfl := s.ff
  have hRe := rdr.keep s.kb s.old
  obtain ⟨aw, cw, hlc, ew, _⟩ := hRe.2
  have h5 := s.h5
  rw [ew] at h5
  have h63 := phiA_le k v l
  by_cases hil : (i : Int) < R.length
  rotate_left
  · have h91 : ¬ ((91 : Int) < t) := by omega
    simp only [go_sem, reduceCtorEq, reduceIte, Nat.reduceEqDiff, Nat.reduceAdd, Nat.reduceLeDiff, Nat.reduceMul, Int.reduceLT, Int.reduceLE, Int.reduceAdd, Int.reduceSub, Int.reduceMul, Int.reduceNeg, Int.reduceToNat, Int.reduceEq, s.h3, s.h4, h5, s.h13, h14, h15, hil, h91]
    exact ⟨rfl, s.old, by simp only [go_sem, reduceCtorEq, reduceIte, Nat.reduceEqDiff, s.h3], rxM2.keep s.kb s.old, by simp only [go_sem, reduceCtorEq, reduceIte, Nat.reduceEqDiff, s.h4]⟩
  have ei : IntKind.i64.wrap ((i : Int) + 1) = i + 1 := w64 (by omega) (by omega)
  have et : IntKind.i64.wrap ((t : Int) + 1) = t + 1 := w64 (by omega) (by omega)
  have hi0 : (0 : Int) ≤ i := by omega
  have hil' : i < R.length := by omega
  obtain ⟨b, o, cap, cs, ea, hb, d1, d2⟩ := ab_at hRe hil'
  obtain ⟨lx, hisx, hax⟩ := goodM R[i] (List.getElem_mem _)
  have hisx' := hisx.keep s.kb s.old
  generalize R[i] = x at *
  have hxu := hisx'.u_eq
  have rdx := hisx'.2
  rw [hxu] at d2 rdx
  have h5' := s.h5
  rw [ea] at h5'
  have b13 := blk_M (F := fzOf W) f13
  have hab : (absB k v l && absB k x.v lx) = true := by rw [hal, hax]; rfl
  simp only [go_sem, reduceCtorEq, reduceIte, Nat.reduceEqDiff, Nat.reduceAdd, Nat.reduceLeDiff, Nat.reduceMul, Int.reduceLT, Int.reduceLE, Int.reduceAdd, Int.reduceSub, Int.reduceMul, Int.reduceNeg, Int.reduceToNat, Int.reduceEq, s.h3, s.h4, h5', s.h13, h14, h15, hil, hi0, Int.toNat_natCast, hb, d1, d2, b13]
  refine callK_of (k55 _ _ k v x.v _ _ l lx rdl rdx s.old) ?_
  rintro w G M1 hq
  obtain ⟨hG, le, kq, oq, v6, l6, a6, n6, c6, rfl, rd6, hw⟩ := wideLe hq hab
  rw [hG]
  refine ⟨fun _ => le, ?_⟩
  simp only [go_sem, reduceCtorEq, reduceIte, Nat.reduceEqDiff, Nat.reduceAdd, Nat.reduceLeDiff, Nat.reduceMul, Int.reduceLT, Int.reduceLE, Int.reduceAdd, Int.reduceSub, Int.reduceMul, Int.reduceNeg, Int.reduceToNat, Int.reduceEq, s.h3, s.h4, h5', s.h13, h14, h15]
  intro r16 hF16 hM16
  have f131 := kq _ _ f13
  have g13 := ne_of_none hM16 f131
  have kp16 : ∀ e, Keep M1 (M1.upd r16 e) := fun e => (Keep.refl M1).new hM16
  have old16 : ∀ e, Old (fzOf W) (M1.upd r16 e) := fun e => (oq s.old).upd hF16
  have bb : ∀ e, blk (fzOf W) (M1.upd r16 e) b = some cs := fun e => blk_keep hb (kq.trans (kp16 e)) (old16 e)
  have b131 : ∀ e, blk (fzOf W) (M1.upd r16 e) r13 = some (abCs v (.slice a n c)) := fun e => blk_M (kp16 e _ _ f131)
  simp only [go_sem, reduceCtorEq, reduceIte, Nat.reduceEqDiff, Nat.reduceAdd, Nat.reduceLeDiff, Nat.reduceMul, Int.reduceLT, Int.reduceLE, Int.reduceAdd, Int.reduceSub, Int.reduceMul, Int.reduceNeg, Int.reduceToNat, Int.reduceEq, s.h3, s.h4, h5', s.h13, h14, h15]
  refine callK_same (k17 _ _ 0) ?_
  simp only [go_sem, reduceCtorEq, reduceIte, Nat.reduceEqDiff, Nat.reduceAdd, Nat.reduceLeDiff, Nat.reduceMul, Int.reduceLT, Int.reduceLE, Int.reduceAdd, Int.reduceSub, Int.reduceMul, Int.reduceNeg, Int.reduceToNat, Int.reduceEq, s.h3, s.h4, h5', s.h13, h14, h15, hil, hi0, Int.toNat_natCast, bb, d1, d2]
  refine callK_same (k52 _ _ k x.v v6 _ _ lx l6 i (rdx.keep (kq.trans (kp16 _)) (old16 _)) (rd6.keep (kp16 _) (old16 _)) (old16 _) hax hw.right) ?_
  simp only [go_sem, reduceCtorEq, reduceIte, Nat.reduceEqDiff, Nat.reduceAdd, Nat.reduceLeDiff, Nat.reduceMul, Int.reduceLT, Int.reduceLE, Int.reduceAdd, Int.reduceSub, Int.reduceMul, Int.reduceNeg, Int.reduceToNat, Int.reduceEq, s.h3, s.h4, h5', s.h13, h14, h15, b131]
  refine callK_same (k32 _ _ v6 v _ _ l6 l (rd6.keep (kp16 _) (old16 _)) (rdl.keep (kq.trans (kp16 _)) (old16 _))) ?_
  have hrank := hw.rank
  have f133 : ∀ e, (M1.upd r16 e) r13 = some ⟨abCs v (.slice a n c), 37, 7⟩ := fun e => kp16 e _ _ f131
  have fin : ∀ (e : Ent) (σ' : Env) (t' : Nat), t' ≤ phiA k v6 l6 → Ax.look σ' 3 = some sx → Ax.look σ' 4 = some (.int .i64 k) → Ax.look σ' 5 = some u → Ax.look σ' 13 = some (.pointer (some ⟨r13, 0, none⟩)) → Ax.look σ' 14 = some (.int .i64 t') → Ax.look σ' 15 = some (.int .i64 (i + 1)) →
      ∃ m', m' < mv ∧ vI (fzOf W) sx X k M2 u R r13 m' σ' (fzOf W) ((M1.upd r16 e).upd r13 ⟨abCs v6 (.slice a6 n6 c6), 37, 7⟩) := by
    intro e σ' t' ht' e3 e4 e5 e13 e14 e15
    refine ⟨mv - 1, by omega, i + 1, ⟨rfl, ?_, ((s.kb.trans kq).trans (kp16 e)).new s.n13, s.n13, e3, e4, e5, e13, v6, l6, a6, n6, c6, t', Hp.upd_same _ _ _, (rd6.keep (kp16 e) (old16 e)).store (f133 e), hw.may, e14, ht'⟩, e15, by omega⟩
    exact (old16 e).upd ((old16 e).free (f133 e))
  cases hd : (decide (v6 = v) && decide (l6 = l))
  · rw [hd] at hrank
    simp only [Bool.false_eq_true, if_false] at hrank
    simp only [go_sem, reduceCtorEq, reduceIte, Nat.reduceEqDiff, Nat.reduceAdd, Nat.reduceLeDiff, Nat.reduceMul, Int.reduceLT, Int.reduceLE, Int.reduceAdd, Int.reduceSub, Int.reduceMul, Int.reduceNeg, Int.reduceToNat, Int.reduceEq, s.h3, s.h4, h5', s.h13, h14, h15, et, ei, b131]
    simp only [setH, go_sem, reduceCtorEq, reduceIte, Nat.reduceEqDiff, Nat.reduceAdd, Nat.reduceLeDiff, Nat.reduceMul, Int.reduceLT, Int.reduceLE, Int.reduceAdd, Int.reduceSub, Int.reduceMul, Int.reduceNeg, Int.reduceToNat, Int.reduceEq, f133]
    simp only [go_sem, reduceCtorEq, reduceIte, Nat.reduceEqDiff, Nat.reduceAdd, Nat.reduceLeDiff, Nat.reduceMul, Int.reduceLT, Int.reduceLE, Int.reduceAdd, Int.reduceSub, Int.reduceMul, Int.reduceNeg, Int.reduceToNat, Int.reduceEq, h15, ei]
    exact fin _ _ (t + 1) (by omega) (by simp only [go_sem, reduceCtorEq, reduceIte, Nat.reduceEqDiff, s.h3]) (by simp only [go_sem, reduceCtorEq, reduceIte, Nat.reduceEqDiff, s.h4]) (by simp only [go_sem, reduceCtorEq, reduceIte, Nat.reduceEqDiff, h5', ea]) (by simp only [go_sem, reduceCtorEq, reduceIte, Nat.reduceEqDiff, s.h13]) (by simp only [go_sem, reduceCtorEq, reduceIte, Nat.reduceEqDiff]; rfl) (by simp only [go_sem, reduceCtorEq, reduceIte, Nat.reduceEqDiff])
  · rw [hd] at hrank
    simp only [if_true] at hrank
    simp only [go_sem, reduceCtorEq, reduceIte, Nat.reduceEqDiff, Nat.reduceAdd, Nat.reduceLeDiff, Nat.reduceMul, Int.reduceLT, Int.reduceLE, Int.reduceAdd, Int.reduceSub, Int.reduceMul, Int.reduceNeg, Int.reduceToNat, Int.reduceEq, s.h3, s.h4, h5', s.h13, h14, h15, et, ei, b131]
    simp only [setH, go_sem, reduceCtorEq, reduceIte, Nat.reduceEqDiff, Nat.reduceAdd, Nat.reduceLeDiff, Nat.reduceMul, Int.reduceLT, Int.reduceLE, Int.reduceAdd, Int.reduceSub, Int.reduceMul, Int.reduceNeg, Int.reduceToNat, Int.reduceEq, f133]
    simp only [go_sem, reduceCtorEq, reduceIte, Nat.reduceEqDiff, Nat.reduceAdd, Nat.reduceLeDiff, Nat.reduceMul, Int.reduceLT, Int.reduceLE, Int.reduceAdd, Int.reduceSub, Int.reduceMul, Int.reduceNeg, Int.reduceToNat, Int.reduceEq, h15, ei]
    exact fin _ _ t (by omega) (by simp only [go_sem, reduceCtorEq, reduceIte, Nat.reduceEqDiff, s.h3]) (by simp only [go_sem, reduceCtorEq, reduceIte, Nat.reduceEqDiff, s.h4]) (by simp only [go_sem, reduceCtorEq, reduceIte, Nat.reduceEqDiff, h5', ea]) (by simp only [go_sem, reduceCtorEq, reduceIte, Nat.reduceEqDiff, s.h13]) (by simp only [go_sem, reduceCtorEq, reduceIte, Nat.reduceEqDiff, h14]) (by simp only [go_sem, reduceCtorEq, reduceIte, Nat.reduceEqDiff])
end Go.Proofs.Ytmaclakgkllojaa.absWide
