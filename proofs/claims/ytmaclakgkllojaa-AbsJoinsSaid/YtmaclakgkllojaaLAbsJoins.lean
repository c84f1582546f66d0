/- The law AbsJoins, walked: it returns true at every input. -/
import Derived.Test.YtmaclakgkllojaaProg
import Derived.Test.YtmaclakgkllojaaK50to59
namespace Go.Proofs.Try.S
open Go Go.Ax Go.Ax.N
set_option maxRecDepth 100000

/-- cellar/cellarlaw15.AbsJoins -/
def c12 : SF := ⟨219, [.t 2], (.seq (.ops [k 1 (.bx 29 (t 0)),
 o 2 (.mv (b false))])
 (.seq (.seq (.ops [o 20 (.ld true 4 (t 1)),
 k 21 (.ca (.func 14) [(t 20)])])
 (.cond (t 21)
 (.seq (.ops [o 2 (.mv (b true))])
 .ret)
 .skip))
 (.seq (.ops [o 22 (.ld true 4 (t 1)),
 k 23 (.ca (.func 25) [(t 22)]),
 o 3 (.mv (t 23))])
 (.seq (.seq (.ops [o 4 (.mv (i 0))])
 (.block 0 (.loop (.seq (.seq (.ops [o 24 (.mv (t 4)),
 o 25 (.bin .leq (t 24) (i 7))])
 (.cond (t 25)
 .skip
 (.exit 0)))
 (.seq (.block 1 (.seq (.ops [o 5 (.mv (i 0))])
 (.block 2 (.loop (.seq (.seq (.ops [o 28 (.mv (t 5)),
 o 29 (.mv (t 3)),
 o 30 (.ln (t 29)),
 o 31 (.bin .lss (t 28) (t 30))])
 (.cond (t 31)
 .skip
 (.exit 2)))
 (.seq (.block 3 (.seq (.ops [o 6 (.mv (i 0))])
 (.block 4 (.loop (.seq (.seq (.ops [o 34 (.mv (t 6)),
 o 35 (.mv (t 3)),
 o 36 (.ln (t 35)),
 o 37 (.bin .lss (t 34) (t 36))])
 (.cond (t 37)
 .skip
 (.exit 4)))
 (.seq (.block 5 (.seq (.opd [o 40 (.mv (t 3)),
 o 41 (.mv (t 5)),
 o 42 (.ia 7 (t 40) (t 41)),
 o 43 (.ld true 7 (t 42)),
 o 45 (.mv (t 3)),
 o 46 (.mv (t 6)),
 o 47 (.ia 7 (t 45) (t 46)),
 o 48 (.ld true 7 (t 47)),
 k 44 (.ca (.func 26) [(t 43)]),
 k 49 (.ca (.func 26) [(t 48)]),
 k 7 (.al 37 [.int .i64 0, .bool false, .int .i64 0, .int .i64 0, .int .i64 0, .int .i64 0, .slice none 0 0]),
 k 8 (.al 37 [.int .i64 0, .bool false, .int .i64 0, .int .i64 0, .int .i64 0, .int .i64 0, .slice none 0 0]),
 kn (.st [] 7 (t 7) (t 44)),
 kn (.st [] 7 (t 8) (t 49))])
 (.seq (.ops [o 51 (.mv (t 4)),
 o 52 (.ld true 7 (t 7)),
 o 53 (.ld true 7 (t 8)),
 k 54 (.ca (.func 50) [(t 51), (t 52), (t 53)]),
 o 50 (.mv (t 54)),
 o 55 (.ex (t 50) 0),
 o 56 (.ex (t 50) 1),
 k 9 (.al 37 [.int .i64 0, .bool false, .int .i64 0, .int .i64 0, .int .i64 0, .int .i64 0, .slice none 0 0]),
 kn (.st [] 7 (t 9) (t 55)),
 o 10 (.mv (t 56))])
 (.seq (.ops [o 58 (.mv (t 4)),
 o 59 (.ld true 7 (t 7)),
 o 60 (.ld true 7 (t 8)),
 k 61 (.ca (.func 51) [(t 58), (t 59), (t 60)]),
 o 57 (.mv (t 61)),
 o 62 (.ex (t 57) 0),
 o 63 (.ex (t 57) 1),
 k 11 (.al 37 [.int .i64 0, .bool false, .int .i64 0, .int .i64 0, .int .i64 0, .int .i64 0, .slice none 0 0]),
 kn (.st [] 7 (t 11) (t 62)),
 o 12 (.mv (t 63))])
 (.seq (.ops [o 65 (.mv (t 4)),
 o 66 (.ld true 7 (t 7)),
 o 67 (.ld true 7 (t 8)),
 k 68 (.ca (.func 53) [(t 65), (t 66), (t 67)]),
 o 64 (.mv (t 68)),
 o 69 (.ex (t 64) 0),
 o 70 (.ex (t 64) 1),
 o 13 (.mv (t 69)),
 o 14 (.mv (t 70))])
 (.seq (.ops [o 15 (.mv (i 1))])
 (.seq (.seq (.ops [o 71 (.mv (t 4)),
 o 72 (.ld true 7 (t 7)),
 k 73 (.ca (.func 19) [(t 71), (t 72)]),
 o 74 (.mv (t 73)),
 og 75 74 true (.mv (t 4)),
 og 76 74 true (.ld true 7 (t 8)),
 ⟨some 77, some (74, true), .ca (.func 19) [(t 75), (t 76)]⟩,
 o 78 (.pick (t 74) (t 77) (b false))])
 (.cond (t 78)
 (.ops [o 15 (.mv (i 0))])
 .skip))
 (.seq (.seq (.opq [o 79 (.mv (t 10)),
 o 81 (.mv (t 15)),
 k 80 (.ca (.func 17) [(t 79)]),
 o 82 (.bin .neq (t 80) (t 81)),
 o 83 (.mv (t 82)),
 og 84 83 false (.mv (t 12)),
 og 86 83 false (.mv (t 15)),
 ⟨some 85, some (83, false), .ca (.func 17) [(t 84)]⟩,
 og 87 83 false (.bin .neq (t 85) (t 86)),
 o 88 (.pick (t 83) (b true) (t 87)),
 o 89 (.mv (t 88)),
 og 90 89 false (.mv (t 14)),
 og 92 89 false (.mv (t 15)),
 ⟨some 91, some (89, false), .ca (.func 17) [(t 90)]⟩,
 og 93 89 false (.bin .neq (t 91) (t 92)),
 o 94 (.pick (t 89) (b true) (t 93)),
 o 95 (.mv (t 94)),
 og 96 95 false (.ld true 7 (t 7)),
 og 97 95 false (.mv (t 3)),
 og 98 95 false (.mv (t 5)),
 og 99 95 false (.ia 7 (t 97) (t 98)),
 og 100 95 false (.ld true 7 (t 99)),
 ⟨some 101, some (95, false), .ca (.func 32) [(t 96), (t 100)]⟩,
 og 102 95 false (.un .not (t 101)),
 o 103 (.pick (t 95) (b true) (t 102)),
 o 104 (.mv (t 103)),
 og 105 104 false (.ld true 7 (t 8)),
 og 106 104 false (.mv (t 3)),
 og 107 104 false (.mv (t 6)),
 og 108 104 false (.ia 7 (t 106) (t 107)),
 og 109 104 false (.ld true 7 (t 108)),
 ⟨some 110, some (104, false), .ca (.func 32) [(t 105), (t 109)]⟩,
 og 111 104 false (.un .not (t 110)),
 o 112 (.pick (t 104) (b true) (t 111))])
 (.cond (t 112)
 (.seq (.ops [o 2 (.mv (b false))])
 .ret)
 .skip))
 (.seq (.seq (.ops [o 113 (.mv (t 15)),
 o 114 (.bin .neq (t 113) (i 0))])
 (.cond (t 114)
 (.exit 5)
 .skip))
 (.seq (.seq (.ops [o 115 (.mv (t 4)),
 o 116 (.ld true 7 (t 9)),
 k 117 (.ca (.func 19) [(t 115), (t 116)]),
 o 118 (.un .not (t 117)),
 o 119 (.mv (t 118)),
 og 120 119 false (.mv (t 4)),
 og 121 119 false (.ld true 7 (t 11)),
 ⟨some 122, some (119, false), .ca (.func 19) [(t 120), (t 121)]⟩,
 og 123 119 false (.un .not (t 122)),
 o 124 (.pick (t 119) (b true) (t 123)),
 o 125 (.mv (t 124)),
 og 126 125 false (.mv (t 4)),
 og 127 125 false (.ld true 7 (t 7)),
 og 128 125 false (.ld true 7 (t 9)),
 og 129 125 false (.mv (t 5)),
 ⟨some 130, some (125, false), .ca (.func 52) [(t 126), (t 127), (t 128), (t 129)]⟩,
 og 131 125 false (.un .not (t 130)),
 o 132 (.pick (t 125) (b true) (t 131)),
 o 133 (.mv (t 132)),
 og 134 133 false (.mv (t 4)),
 og 135 133 false (.ld true 7 (t 8)),
 og 136 133 false (.ld true 7 (t 9)),
 og 137 133 false (.mv (t 6)),
 ⟨some 138, some (133, false), .ca (.func 52) [(t 134), (t 135), (t 136), (t 137)]⟩,
 og 139 133 false (.un .not (t 138)),
 o 140 (.pick (t 133) (b true) (t 139)),
 o 141 (.mv (t 140)),
 og 142 141 false (.mv (t 4)),
 og 143 141 false (.ld true 7 (t 11)),
 og 144 141 false (.ld true 7 (t 7)),
 og 145 141 false (.mv (t 6)),
 ⟨some 146, some (141, false), .ca (.func 52) [(t 142), (t 143), (t 144), (t 145)]⟩,
 og 147 141 false (.un .not (t 146)),
 o 148 (.pick (t 141) (b true) (t 147))])
 (.cond (t 148)
 (.seq (.ops [o 2 (.mv (b false))])
 .ret)
 .skip))
 (.seq (.ops [o 149 (.mv (t 4)),
 o 150 (.ld true 7 (t 7)),
 o 151 (.mv (t 5)),
 o 152 (.mv (t 6)),
 o 153 (.bin .add (t 151) (t 152)),
 k 154 (.ca (.func 54) [(t 149), (t 150), (i 16), (t 153)]),
 o 16 (.mv (t 154))])
 (.seq (.seq (.ops [o 17 (.mv (i 0))])
 (.block 6 (.loop (.seq (.seq (.ops [o 155 (.mv (t 17)),
 o 156 (.mv (t 16)),
 o 157 (.ln (t 156)),
 o 158 (.bin .lss (t 155) (t 157))])
 (.cond (t 158)
 .skip
 (.exit 6)))
 (.seq (.block 7 (.seq (.opq [o 161 (.mv (t 4)),
 o 162 (.ld true 7 (t 8)),
 o 163 (.mv (t 16)),
 o 164 (.mv (t 17)),
 o 165 (.ia 4 (t 163) (t 164)),
 o 166 (.ld true 4 (t 165)),
 k 167 (.ca (.func 23) [(t 161), (t 162), (t 166)]),
 o 168 (.mv (t 167)),
 og 169 168 true (.mv (t 4)),
 og 170 168 true (.ld true 7 (t 11)),
 og 171 168 true (.mv (t 16)),
 og 172 168 true (.mv (t 17)),
 og 173 168 true (.ia 4 (t 171) (t 172)),
 og 174 168 true (.ld true 4 (t 173)),
 ⟨some 175, some (168, true), .ca (.func 23) [(t 169), (t 170), (t 174)]⟩,
 og 176 168 true (.un .not (t 175)),
 o 177 (.pick (t 168) (t 176) (b false)),
 o 178 (.mv (t 177)),
 og 179 178 false (.mv (t 13)),
 og 180 178 false (.mv (t 179)),
 og 181 180 true (.mv (t 4)),
 og 182 180 true (.ld true 7 (t 8)),
 og 183 180 true (.mv (t 16)),
 og 184 180 true (.mv (t 17)),
 og 185 180 true (.ia 4 (t 183) (t 184)),
 og 186 180 true (.ld true 4 (t 185)),
 ⟨some 187, some (180, true), .ca (.func 23) [(t 181), (t 182), (t 186)]⟩,
 og 188 180 true (.un .not (t 187)),
 og 189 178 false (.pick (t 180) (t 188) (b false)),
 o 190 (.pick (t 178) (b true) (t 189))])
 (.cond (t 190)
 (.seq (.ops [o 2 (.mv (b false))])
 .ret)
 .skip)))
 (.ops [o 159 (.mv (t 17)),
 o 160 (.bin .add (t 159) (i 1)),
 o 17 (.mv (t 160))]))))))
 (.seq (.ops [o 192 (.mv (t 4)),
 o 193 (.ld true 7 (t 7)),
 k 194 (.ca (.func 18) [(t 192), (t 193)]),
 o 191 (.mv (t 194)),
 o 195 (.ex (t 191) 0),
 o 196 (.ex (t 191) 1),
 k 18 (.al 32 [.bool false, .int .i64 0, .int .i64 0, .int .i64 0]),
 kn (.st [] 4 (t 18) (t 195)),
 o 19 (.mv (t 196))])
 (.seq (.ops [o 197 (.mv (t 4)),
 o 198 (.ld true 7 (t 7)),
 k 199 (.ca (.func 29) [(t 197), (t 198)]),
 o 200 (.mv (t 199)),
 og 201 200 false (.ld true 7 (t 7)),
 og 202 200 false (.ld true 7 (t 8)),
 ⟨some 203, some (200, false), .ca (.func 32) [(t 201), (t 202)]⟩,
 o 204 (.pick (t 200) (b true) (t 203)),
 o 205 (.mv (t 204)),
 og 206 205 false (.mv (t 19)),
 og 207 205 false (.mv (t 206)),
 og 208 207 true (.mv (t 4)),
 og 209 207 true (.ld true 7 (t 8)),
 og 210 207 true (.ld true 4 (t 18)),
 ⟨some 211, some (207, true), .ca (.func 23) [(t 208), (t 209), (t 210)]⟩,
 og 212 205 false (.pick (t 207) (t 211) (b false)),
 o 213 (.pick (t 205) (b true) (t 212)),
 o 214 (.mv (t 213)),
 og 215 214 true (.mv (t 13)),
 og 216 214 true (.un .not (t 215)),
 o 217 (.pick (t 214) (t 216) (b false))])
 (.cond (t 217)
 (.seq (.ops [o 2 (.mv (b false))])
 .ret)
 .skip)))))))))))))))
 (.ops [o 38 (.mv (t 6)),
 o 39 (.bin .add (t 38) (i 1)),
 o 6 (.mv (t 39))])))))))
 (.ops [o 32 (.mv (t 5)),
 o 33 (.bin .add (t 32) (i 1)),
 o 5 (.mv (t 33))])))))))
 (.ops [o 26 (.mv (t 4)),
 o 27 (.bin .add (t 26) (i 1)),
 o 4 (.mv (t 27))]))))))
 (.seq (.ops [k 218 (.ca (.func 24) []),
 o 2 (.mv (t 218))])
 .ret)))))⟩
theorem e12 : slimF Try.prog Try.f12 [[(0, []), (1, []), (2, []), (3, []), (5, []), (6, []), (7, []), (8, []), (4, []), (9, []), (10, []), (11, []), (12, []), (13, [])], [(0, []), (2, []), (1, []), (3, []), (4, []), (5, []), (7, []), (6, []), (8, []), (9, []), (10, []), (11, []), (13, []), (12, []), (14, []), (15, []), (16, []), (17, []), (18, []), (19, []), (20, []), (21, []), (22, []), (23, []), (24, []), (25, []), (26, []), (27, []), (28, []), (29, []), (30, []), (31, []), (32, []), (33, [])], [(0, []), (1, []), (2, []), (3, []), (4, []), (5, []), (6, []), (7, []), (8, []), (9, []), (10, []), (11, []), (12, []), (13, []), (14, []), (15, []), (16, []), (17, []), (18, []), (19, []), (20, []), (21, []), (22, []), (23, []), (24, []), (25, []), (26, []), (27, []), (28, []), (29, [])]] = some c12 := by kernel_rfl
end Go.Proofs.Try.S
namespace Go.Proofs.Ytmaclakgkllojaa.absJoins
open Go Go.Ax Go.Proofs.Try.S Go.Proofs.Try.K
set_option maxRecDepth 100000
set_option linter.unusedSimpArgs false
set_option linter.unusedVariables false
set_option maxHeartbeats 4000000

/-- A variable of the call's own that is a set. -/
def SetAt (F0 : Fz) (slot : Nat) (v : V) (l : List Ba) (σ : Env) (M : Hp) : Prop :=
  ∃ (r : Nat) (a : Option Addr) (n c : Nat), Ax.look σ slot = some (.pointer (some ⟨r, 0, none⟩)) ∧ M r = some ⟨abCs v (.slice a n c), 37, 7⟩ ∧ RdG 7 Ba.cs F0 M (.slice a n c) l
theorem SetAt.ext {F0 : Fz} {slot : Nat} {v : V} {l : List Ba} {σ σ' : Env} {M : Hp} (h : SetAt F0 slot v l σ M) (e : Ax.look σ' slot = Ax.look σ slot) : SetAt F0 slot v l σ' M := by
  obtain ⟨r, a, n, c, h1, h2, h3⟩ := h
  exact ⟨r, a, n, c, e.trans h1, h2, h3⟩
theorem SetAt.grow {F0 : Fz} {slot : Nat} {v : V} {l : List Ba} {σ : Env} {M M' : Hp} (h : SetAt F0 slot v l σ M) (kp : Keep M M') (o : Old F0 M') : SetAt F0 slot v l σ M' := by
  obtain ⟨r, a, n, c, h1, h2, h3⟩ := h
  exact ⟨r, a, n, c, h1, kp _ _ h2, h3.keep kp o⟩
structure Q0 (F0 : Fz) (sx : Value) (X : List Ab) (σ : Env) (F : Fz) (M : Hp) : Prop where
  ff : F = F0
  old : Old F0 M
  h3 : Ax.look σ 3 = some sx
  rx : RdG 7 Ab.cs F0 M sx X
structure Q1 (F0 : Fz) (sx : Value) (X : List Ab) (k : Nat) (σ : Env) (F : Fz) (M : Hp) : Prop extends Q0 F0 sx X σ F M where
  h4 : Ax.look σ 4 = some (.int .i64 k)
structure Q1i (F0 : Fz) (sx : Value) (X : List Ab) (k i : Nat) (σ : Env) (F : Fz) (M : Hp) : Prop extends Q1 F0 sx X k σ F M where
  h5 : Ax.look σ 5 = some (.int .i64 i)
structure Q2 (F0 : Fz) (sx : Value) (X : List Ab) (k i j : Nat) (σ : Env) (F : Fz) (M : Hp) : Prop extends Q1i F0 sx X k i σ F M where
  h6 : Ax.look σ 6 = some (.int .i64 j)
structure P3 (F0 : Fz) (sx : Value) (X : List Ab) (k i j : Nat) (v1 : V) (l1 : List Ba) (v2 : V) (l2 : List Ba) (σ : Env) (F : Fz) (M : Hp) : Prop extends Q2 F0 sx X k i j σ F M where
  s7 : SetAt F0 7 v1 l1 σ M
  s8 : SetAt F0 8 v2 l2 σ M
structure P4 (F0 : Fz) (sx : Value) (X : List Ab) (k i j : Nat) (v1 : V) (l1 : List Ba) (v2 : V) (l2 : List Ba) (v9 : V) (l9 : List Ba) (σ : Env) (F : Fz) (M : Hp) : Prop extends P3 F0 sx X k i j v1 l1 v2 l2 σ F M where
  s9 : SetAt F0 9 v9 l9 σ M
  both : BothA k v1 l1 v2 l2 v9 l9
structure P5 (F0 : Fz) (sx : Value) (X : List Ab) (k i j : Nat) (v1 : V) (l1 : List Ba) (v2 : V) (l2 : List Ba) (v9 : V) (l9 : List Ba) (v11 : V) (l11 : List Ba) (σ : Env) (F : Fz) (M : Hp) : Prop extends P4 F0 sx X k i j v1 l1 v2 l2 v9 l9 σ F M where
  s11 : SetAt F0 11 v11 l11 σ M
  cross : CrossA k v1 l1 v2 l2 v11 l11
structure P6 (F0 : Fz) (sx : Value) (X : List Ab) (k i j : Nat) (v1 : V) (l1 : List Ba) (v2 : V) (l2 : List Ba) (v9 : V) (l9 : List Ba) (v11 : V) (l11 : List Ba) (σ : Env) (F : Fz) (M : Hp) : Prop extends P5 F0 sx X k i j v1 l1 v2 l2 v9 l9 v11 l11 σ F M where
  h13 : Ax.look σ 13 = some (.bool (underB k v1 l1 v2 l2))
section
variable {F0 : Fz} {sx : Value} {X : List Ab} {k i j : Nat} {v1 v2 v9 v11 : V} {l1 l2 l9 l11 : List Ba} {σ σ' : Env} {F : Fz} {M M' : Hp}
theorem Q0.ext (s : Q0 F0 sx X σ F M) (e3 : Ax.look σ' 3 = Ax.look σ 3) : Q0 F0 sx X σ' F M := ⟨s.ff, s.old, e3.trans s.h3, s.rx⟩
theorem Q0.grow (s : Q0 F0 sx X σ F M) (kp : Keep M M') (o : Old F0 M') : Q0 F0 sx X σ F M' := ⟨s.ff, o, s.h3, s.rx.keep kp o⟩
theorem Q1.ext (s : Q1 F0 sx X k σ F M) (e3 : Ax.look σ' 3 = Ax.look σ 3) (e4 : Ax.look σ' 4 = Ax.look σ 4) : Q1 F0 sx X k σ' F M := ⟨s.toQ0.ext e3, e4.trans s.h4⟩
theorem Q1.grow (s : Q1 F0 sx X k σ F M) (kp : Keep M M') (o : Old F0 M') : Q1 F0 sx X k σ F M' := ⟨s.toQ0.grow kp o, s.h4⟩
theorem Q1i.ext (s : Q1i F0 sx X k i σ F M) (e3 : Ax.look σ' 3 = Ax.look σ 3) (e4 : Ax.look σ' 4 = Ax.look σ 4) (e5 : Ax.look σ' 5 = Ax.look σ 5) : Q1i F0 sx X k i σ' F M := ⟨s.toQ1.ext e3 e4, e5.trans s.h5⟩
theorem Q1i.grow (s : Q1i F0 sx X k i σ F M) (kp : Keep M M') (o : Old F0 M') : Q1i F0 sx X k i σ F M' := ⟨s.toQ1.grow kp o, s.h5⟩
theorem Q2.ext (s : Q2 F0 sx X k i j σ F M) (e3 : Ax.look σ' 3 = Ax.look σ 3) (e4 : Ax.look σ' 4 = Ax.look σ 4) (e5 : Ax.look σ' 5 = Ax.look σ 5) (e6 : Ax.look σ' 6 = Ax.look σ 6) : Q2 F0 sx X k i j σ' F M := ⟨s.toQ1i.ext e3 e4 e5, e6.trans s.h6⟩
theorem Q2.grow (s : Q2 F0 sx X k i j σ F M) (kp : Keep M M') (o : Old F0 M') : Q2 F0 sx X k i j σ F M' := ⟨s.toQ1i.grow kp o, s.h6⟩
theorem P3.ext (s : P3 F0 sx X k i j v1 l1 v2 l2 σ F M) (e3 : Ax.look σ' 3 = Ax.look σ 3) (e4 : Ax.look σ' 4 = Ax.look σ 4) (e5 : Ax.look σ' 5 = Ax.look σ 5) (e6 : Ax.look σ' 6 = Ax.look σ 6) (e7 : Ax.look σ' 7 = Ax.look σ 7) (e8 : Ax.look σ' 8 = Ax.look σ 8) : P3 F0 sx X k i j v1 l1 v2 l2 σ' F M := ⟨s.toQ2.ext e3 e4 e5 e6, s.s7.ext e7, s.s8.ext e8⟩
theorem P3.grow (s : P3 F0 sx X k i j v1 l1 v2 l2 σ F M) (kp : Keep M M') (o : Old F0 M') : P3 F0 sx X k i j v1 l1 v2 l2 σ F M' := ⟨s.toQ2.grow kp o, s.s7.grow kp o, s.s8.grow kp o⟩
theorem P4.ext (s : P4 F0 sx X k i j v1 l1 v2 l2 v9 l9 σ F M) (e3 : Ax.look σ' 3 = Ax.look σ 3) (e4 : Ax.look σ' 4 = Ax.look σ 4) (e5 : Ax.look σ' 5 = Ax.look σ 5) (e6 : Ax.look σ' 6 = Ax.look σ 6) (e7 : Ax.look σ' 7 = Ax.look σ 7) (e8 : Ax.look σ' 8 = Ax.look σ 8) (e9 : Ax.look σ' 9 = Ax.look σ 9) : P4 F0 sx X k i j v1 l1 v2 l2 v9 l9 σ' F M := ⟨s.toP3.ext e3 e4 e5 e6 e7 e8, s.s9.ext e9, s.both⟩
theorem P4.grow (s : P4 F0 sx X k i j v1 l1 v2 l2 v9 l9 σ F M) (kp : Keep M M') (o : Old F0 M') : P4 F0 sx X k i j v1 l1 v2 l2 v9 l9 σ F M' := ⟨s.toP3.grow kp o, s.s9.grow kp o, s.both⟩
theorem P5.ext (s : P5 F0 sx X k i j v1 l1 v2 l2 v9 l9 v11 l11 σ F M) (e3 : Ax.look σ' 3 = Ax.look σ 3) (e4 : Ax.look σ' 4 = Ax.look σ 4) (e5 : Ax.look σ' 5 = Ax.look σ 5) (e6 : Ax.look σ' 6 = Ax.look σ 6) (e7 : Ax.look σ' 7 = Ax.look σ 7) (e8 : Ax.look σ' 8 = Ax.look σ 8) (e9 : Ax.look σ' 9 = Ax.look σ 9) (e11 : Ax.look σ' 11 = Ax.look σ 11) : P5 F0 sx X k i j v1 l1 v2 l2 v9 l9 v11 l11 σ' F M := ⟨s.toP4.ext e3 e4 e5 e6 e7 e8 e9, s.s11.ext e11, s.cross⟩
theorem P5.grow (s : P5 F0 sx X k i j v1 l1 v2 l2 v9 l9 v11 l11 σ F M) (kp : Keep M M') (o : Old F0 M') : P5 F0 sx X k i j v1 l1 v2 l2 v9 l9 v11 l11 σ F M' := ⟨s.toP4.grow kp o, s.s11.grow kp o, s.cross⟩
theorem P6.ext (s : P6 F0 sx X k i j v1 l1 v2 l2 v9 l9 v11 l11 σ F M) (e3 : Ax.look σ' 3 = Ax.look σ 3) (e4 : Ax.look σ' 4 = Ax.look σ 4) (e5 : Ax.look σ' 5 = Ax.look σ 5) (e6 : Ax.look σ' 6 = Ax.look σ 6) (e7 : Ax.look σ' 7 = Ax.look σ 7) (e8 : Ax.look σ' 8 = Ax.look σ 8) (e9 : Ax.look σ' 9 = Ax.look σ 9) (e11 : Ax.look σ' 11 = Ax.look σ 11) (e13 : Ax.look σ' 13 = Ax.look σ 13) : P6 F0 sx X k i j v1 l1 v2 l2 v9 l9 v11 l11 σ' F M := ⟨s.toP5.ext e3 e4 e5 e6 e7 e8 e9 e11, e13.trans s.h13⟩
theorem P6.grow (s : P6 F0 sx X k i j v1 l1 v2 l2 v9 l9 v11 l11 σ F M) (kp : Keep M M') (o : Old F0 M') : P6 F0 sx X k i j v1 l1 v2 l2 v9 l9 v11 l11 σ F M' := ⟨s.toP5.grow kp o, s.h13⟩
end
def kI (F0 : Fz) (sx : Value) (X : List Ab) (m : Nat) (σ : Env) (F : Fz) (M : Hp) : Prop := ∃ k : Nat, Q1 F0 sx X k σ F M ∧ k + m = 8
def iI (F0 : Fz) (sx : Value) (X : List Ab) (k : Nat) (m : Nat) (σ : Env) (F : Fz) (M : Hp) : Prop := ∃ i : Nat, Q1i F0 sx X k i σ F M ∧ i + m = X.length
def jI (F0 : Fz) (sx : Value) (X : List Ab) (k i : Nat) (m : Nat) (σ : Env) (F : Fz) (M : Hp) : Prop := ∃ j : Nat, Q2 F0 sx X k i j σ F M ∧ j + m = X.length
def T4 (F0 : Fz) (sx : Value) (X : List Ab) (k i j : Nat) (v1 : V) (l1 : List Ba) (v2 : V) (l2 : List Ba) (σ : Env) (F : Fz) (M : Hp) : Prop := ∃ v9 l9, P4 F0 sx X k i j v1 l1 v2 l2 v9 l9 σ F M ∧ Ax.look σ 10 = some (.int .i64 0)
def T5 (F0 : Fz) (sx : Value) (X : List Ab) (k i j : Nat) (v1 : V) (l1 : List Ba) (v2 : V) (l2 : List Ba) (v9 : V) (l9 : List Ba) (σ : Env) (F : Fz) (M : Hp) : Prop := ∃ v11 l11, P5 F0 sx X k i j v1 l1 v2 l2 v9 l9 v11 l11 σ F M ∧ Ax.look σ 10 = some (.int .i64 0) ∧ Ax.look σ 12 = some (.int .i64 0)
def T6 (F0 : Fz) (sx : Value) (X : List Ab) (k i j : Nat) (v1 : V) (l1 : List Ba) (v2 : V) (l2 : List Ba) (v9 : V) (l9 : List Ba) (v11 : V) (l11 : List Ba) (m : List Sc) (q : Value) (n : Nat) (σ : Env) (F : Fz) (M : Hp) : Prop := P6 F0 sx X k i j v1 l1 v2 l2 v9 l9 v11 l11 σ F M ∧ Ax.look σ 16 = some q ∧ RdG 4 Sc.cs F0 M q m ∧ ∃ p : Nat, p + n = m.length ∧ Ax.look σ 17 = some (.int .i64 p)
theorem joinLe {k : Int} {v1 v2 : V} {l1 l2 : List Ba} {F : Fz} {M : Hp} {u : Value} {F' : Fz} {M' : Hp} (h : joinR2 k v1 l1 v2 l2 F M u F' M') (hab : (absB k v1 l1 && absB k v2 l2) = true) :
    F' = F ∧ Le F M F M' ∧ Keep M M' ∧ (Old F M → Old F M') ∧ ∃ v l a n c, u = .tuple #[abV v (.slice a n c), .int .i64 0] ∧ RdG 7 Ba.cs F M' (.slice a n c) l ∧ BothA k v1 l1 v2 l2 v l := by
  rcases h with ⟨_, w, rfl, v, l, hb, hl, w', rfl, hr⟩ | ⟨h, _⟩
  · obtain ⟨h1, h2, h3, h4, a, c, rfl, h5⟩ := hr.le (f := Ba.cs) (fun x => rfl) (by omega)
    exact ⟨h1, h2, h3, h4, v, l, a, _, c, rfl, h5, hb⟩
  · rw [hab] at h; cases h
theorem meetLe {k : Int} {v1 v2 : V} {l1 l2 : List Ba} {F : Fz} {M : Hp} {u : Value} {F' : Fz} {M' : Hp} (h : meetR2 k v1 l1 v2 l2 F M u F' M') (hab : (absB k v1 l1 && absB k v2 l2) = true) :
    F' = F ∧ Le F M F M' ∧ Keep M M' ∧ (Old F M → Old F M') ∧ ∃ v l a n c, u = .tuple #[abV v (.slice a n c), .int .i64 0] ∧ RdG 7 Ba.cs F M' (.slice a n c) l ∧ CrossA k v1 l1 v2 l2 v l := by
  rcases h with ⟨_, w, rfl, v, l, hb, hl, w', rfl, hr⟩ | ⟨h, _⟩
  · obtain ⟨h1, h2, h3, h4, a, c, rfl, h5⟩ := hr.le (f := Ba.cs) (fun x => rfl) (by omega)
    exact ⟨h1, h2, h3, h4, v, l, a, _, c, rfl, h5, hb⟩
  · rw [hab] at h; cases h
theorem joinNo {k : Int} {v1 v2 : V} {l1 l2 : List Ba} {F : Fz} {M : Hp} {u : Value} {F' : Fz} {M' : Hp} (h : joinR2 k v1 l1 v2 l2 F M u F' M') (hab : (absB k v1 l1 && absB k v2 l2) = false) :
    u = .tuple #[abV V.zero (.slice none 0 0), .int .i64 1] ∧ F' = F ∧ M' = M := by
  rcases h with ⟨h, _⟩ | ⟨_, h⟩
  · rw [hab] at h; cases h
  · exact h
theorem meetNo {k : Int} {v1 v2 : V} {l1 l2 : List Ba} {F : Fz} {M : Hp} {u : Value} {F' : Fz} {M' : Hp} (h : meetR2 k v1 l1 v2 l2 F M u F' M') (hab : (absB k v1 l1 && absB k v2 l2) = false) :
    u = .tuple #[abV V.zero (.slice none 0 0), .int .i64 1] ∧ F' = F ∧ M' = M := by
  rcases h with ⟨h, _⟩ | ⟨_, h⟩
  · rw [hab] at h; cases h
  · exact h

theorem call (W : World) (cs : List Value) (h : Rd (fzOf W) shAsk15 cs) :
  CallsA Try.prog 12 [.agg cs.toArray] (fzOf W) noHp fun r _ _ => r = .bool true := by
  obtain ⟨vX, vS, vV, vN, rfl, hX, hS, hV, hN⟩ := rd_ask15 h
  obtain ⟨aX, cX, lX, rfl, hlX, hrX, hXr⟩ := rd_Xs hX
  have hX0 := rd_slice0 hX
  obtain ⟨aS, cS, lS, rfl, hlS, hSr⟩ := rd_Ss hS
  have hS0 := rd_slice0 hS
  obtain ⟨aV, cV, lv, rfl, hlV, _, hlen, _, hcV⟩ := rd_Vs hV
  obtain ⟨aN, cN, ln, rfl, hl, hmx, hs, hin, h0, hc⟩ := rd_ints hN
  refine callsA_of hm Try.func12 e12 (Nat.le_of_ble_eq_true rfl) ?_
  have rS : ∀ M, Old (fzOf W) M → RdG 4 Sc.cs (fzOf W) M (.slice aS lS.length cS) lS := fun M old => hSr _ _ fun b c hb => old.blk hb
  have rX : ∀ M, Old (fzOf W) M → RdG 7 Ab.cs (fzOf W) M (.slice aX lX.length cX) lX := fun M old => hXr _ _ fun b c hb => old.blk hb
  have rV : ∀ M, Old (fzOf W) M → RdV (fzOf W) M (.slice aV lv.length cV) lv := by
    intro M old
    refine ⟨by omega, aV, cV, hlV, rfl, ?_⟩
    rcases hcV with h | ⟨b, o, cs, h1, h2, h3⟩
    · exact .inl h
    · exact .inr ⟨b, o, cs, h1, old.blk h2, h3⟩
  have hXn : ∀ x ∈ lX, x.n ≤ 140737488351232 := fun x hx => by
    obtain ⟨l, h1, h2, _⟩ := hrX x hx
    omega
  simp only [c12, go_sem, reduceCtorEq, reduceIte, Nat.reduceEqDiff, Nat.reduceAdd, Nat.reduceLeDiff, Nat.reduceMul, Int.reduceLT, Int.reduceLE, Int.reduceAdd, Int.reduceSub, Int.reduceMul, Int.reduceNeg, Int.reduceToNat, Int.reduceEq]
  intro r hF hM
  have old1 := (Old.start (fzOf W)).upd (e := ⟨[.slice aX lX.length cX, .slice aS lS.length cS, .slice aV lv.length cV, .slice aN ln.length cN], 29, 4⟩) hF
  simp only [go_sem, reduceCtorEq, reduceIte, Nat.reduceEqDiff, Nat.reduceAdd, Nat.reduceLeDiff, Nat.reduceMul, Int.reduceLT, Int.reduceLE, Int.reduceAdd, Int.reduceSub, Int.reduceMul, Int.reduceNeg, Int.reduceToNat, Int.reduceEq]
  refine callK_of (k14 _ _ lX _ aS aV aN lS.length cS lv.length cV ln.length cN (rX _ old1) hlX hXn hlS) ?_
  rintro u G M2 ⟨hG, hM2, b, rfl, hb⟩
  rw [hG, hM2]
  refine ⟨fun _ => Le.refl _ _, ?_⟩
  cases b
  rotate_left
  · simp only [go_sem, reduceCtorEq, reduceIte, Nat.reduceEqDiff, Nat.reduceAdd, Nat.reduceLeDiff, Nat.reduceMul, Int.reduceLT, Int.reduceLE, Int.reduceAdd, Int.reduceSub, Int.reduceMul, Int.reduceNeg, Int.reduceToNat, Int.reduceEq]
    exact endK_same rfl
  obtain ⟨hX4, hS4, -, -, hx4⟩ := hb rfl
  have hgood : ∀ x, (x ∈ lX ∨ ∃ v, x = ⟨v, none, 0, 0⟩) → ∃ l, l.length ≤ 400 ∧ ∀ M, Old (fzOf W) M → x.is (fzOf W) M l := by
    rintro x (hx | ⟨v, rfl⟩)
    · obtain ⟨l, h1, _, h3⟩ := hrX x hx
      have := hx4 x hx
      exact ⟨l, by omega, fun M old => ⟨h1.symm, h3 _ _ fun b c hb => old.blk hb⟩⟩
    · exact ⟨[], by simp, fun M old => ⟨rfl, rdG_nil⟩⟩
  simp only [go_sem, reduceCtorEq, reduceIte, Nat.reduceEqDiff, Nat.reduceAdd, Nat.reduceLeDiff, Nat.reduceMul, Int.reduceLT, Int.reduceLE, Int.reduceAdd, Int.reduceSub, Int.reduceMul, Int.reduceNeg, Int.reduceToNat, Int.reduceEq]
  have b1 := blk_upd_same (F := fzOf W) (M := noHp) (b := r) (e := ⟨[.slice aX lX.length cX, .slice aS lS.length cS, .slice aV lv.length cV, .slice aN ln.length cN], 29, 4⟩)
  refine callK_of (k25 _ _ lX lv aX cX _ _ _ old1 (rX _ old1) hX0 hX4 (rV _ old1)) ?_
  rintro sx G M4 ⟨X, hX10, hXm, hr⟩
  obtain ⟨hG, le, kq, oq, ax, cx, rfl, rdx⟩ := hr.le Ab.len (by omega)
  rw [hG]
  refine ⟨(fun h => by cases h), ?_⟩
  have old4 := oq old1
  have hXg : ∀ x ∈ X, ∃ l, l.length ≤ 400 ∧ ∀ M, Old (fzOf W) M → x.is (fzOf W) M l := fun x hx => hgood x (hXm x hx)
  obtain ⟨sx, hsx⟩ : ∃ sx, sx = Value.slice ax X.length cx := ⟨_, rfl⟩
  rw [← hsx] at rdx ⊢
  clear hr le kq oq hXm hgood hcV hc rX rV hrX hXr hG old1 hX4 hx4 hin b1 hM2 rS
  simp only [go_sem, reduceCtorEq, reduceIte, Nat.reduceEqDiff, Nat.reduceAdd, Nat.reduceLeDiff, Nat.reduceMul, Int.reduceLT, Int.reduceLE, Int.reduceAdd, Int.reduceSub, Int.reduceMul, Int.reduceNeg, Int.reduceToNat, Int.reduceEq]
  refine loop_of (kI (fzOf W) sx X) 8 ?_ ?_
  · exact ⟨0, ⟨⟨rfl, old4, by simp only [go_sem, reduceCtorEq, reduceIte, Nat.reduceEqDiff, Nat.reduceAdd, Nat.reduceLeDiff, Nat.reduceMul, Int.reduceLT, Int.reduceLE, Int.reduceAdd, Int.reduceSub, Int.reduceMul, Int.reduceNeg, Int.reduceToNat, Int.reduceEq], rdx⟩, by simp only [go_sem, reduceCtorEq, reduceIte, Nat.reduceEqDiff, Nat.reduceAdd, Nat.reduceLeDiff, Nat.reduceMul, Int.reduceLT, Int.reduceLE, Int.reduceAdd, Int.reduceSub, Int.reduceMul, Int.reduceNeg, Int.reduceToNat, Int.reduceEq] <;> rfl⟩, by omega⟩
  clear old4 rdx
  clear M4
  rintro mk σ F M ⟨k, s, hk⟩
  obtain rfl := s.ff
  by_cases hk7 : (k : Int) ≤ 7
  rotate_left
  · simp only [go_sem, reduceCtorEq, reduceIte, Nat.reduceEqDiff, Nat.reduceAdd, Nat.reduceLeDiff, Nat.reduceMul, Int.reduceLT, Int.reduceLE, Int.reduceAdd, Int.reduceSub, Int.reduceMul, Int.reduceNeg, Int.reduceToNat, Int.reduceEq, s.h3, s.h4, hk7]
    refine callK_same (k24 _ _) ?_
    simp only [go_sem, reduceCtorEq, reduceIte, Nat.reduceEqDiff, Nat.reduceAdd, Nat.reduceLeDiff, Nat.reduceMul, Int.reduceLT, Int.reduceLE, Int.reduceAdd, Int.reduceSub, Int.reduceMul, Int.reduceNeg, Int.reduceToNat, Int.reduceEq]
    exact endK_same rfl
  have ek : IntKind.i64.wrap ((k : Int) + 1) = k + 1 := w64 (by omega) (by omega)
  refine cut (Q1 (fzOf W) sx X k) ?_ ?_
  · simp only [go_sem, reduceCtorEq, reduceIte, Nat.reduceEqDiff, Nat.reduceAdd, Nat.reduceLeDiff, Nat.reduceMul, Int.reduceLT, Int.reduceLE, Int.reduceAdd, Int.reduceSub, Int.reduceMul, Int.reduceNeg, Int.reduceToNat, Int.reduceEq, s.h3, s.h4, hk7]
    exact s.ext (by simp only [go_sem, reduceCtorEq, reduceIte, Nat.reduceEqDiff, Nat.reduceAdd, Nat.reduceLeDiff, Nat.reduceMul, Int.reduceLT, Int.reduceLE, Int.reduceAdd, Int.reduceSub, Int.reduceMul, Int.reduceNeg, Int.reduceToNat, Int.reduceEq]) (by simp only [go_sem, reduceCtorEq, reduceIte, Nat.reduceEqDiff, Nat.reduceAdd, Nat.reduceLeDiff, Nat.reduceMul, Int.reduceLT, Int.reduceLE, Int.reduceAdd, Int.reduceSub, Int.reduceMul, Int.reduceNeg, Int.reduceToNat, Int.reduceEq])
  clear s
  rintro σ F M s
  obtain rfl := s.ff
  refine cut (Q1 (fzOf W) sx X k) ?_ ?_
  rotate_left
  · rintro σ F M s
    obtain rfl := s.ff
    simp only [go_sem, reduceCtorEq, reduceIte, Nat.reduceEqDiff, Nat.reduceAdd, Nat.reduceLeDiff, Nat.reduceMul, Int.reduceLT, Int.reduceLE, Int.reduceAdd, Int.reduceSub, Int.reduceMul, Int.reduceNeg, Int.reduceToNat, Int.reduceEq, s.h3, s.h4, ek]
    exact ⟨mk - 1, by omega, k + 1, ⟨s.toQ0.ext (by simp only [go_sem, reduceCtorEq, reduceIte, Nat.reduceEqDiff, Nat.reduceAdd, Nat.reduceLeDiff, Nat.reduceMul, Int.reduceLT, Int.reduceLE, Int.reduceAdd, Int.reduceSub, Int.reduceMul, Int.reduceNeg, Int.reduceToNat, Int.reduceEq]), by simp only [go_sem, reduceCtorEq, reduceIte, Nat.reduceEqDiff, Nat.reduceAdd, Nat.reduceLeDiff, Nat.reduceMul, Int.reduceLT, Int.reduceLE, Int.reduceAdd, Int.reduceSub, Int.reduceMul, Int.reduceNeg, Int.reduceToNat, Int.reduceEq]; rfl⟩, by omega⟩
  simp only [go_sem, reduceCtorEq, reduceIte, Nat.reduceEqDiff, Nat.reduceAdd, Nat.reduceLeDiff, Nat.reduceMul, Int.reduceLT, Int.reduceLE, Int.reduceAdd, Int.reduceSub, Int.reduceMul, Int.reduceNeg, Int.reduceToNat, Int.reduceEq, s.h3, s.h4]
  refine loop_of (iI (fzOf W) sx X k) X.length ?_ ?_
  · exact ⟨0, ⟨s.ext (by simp only [go_sem, reduceCtorEq, reduceIte, Nat.reduceEqDiff, Nat.reduceAdd, Nat.reduceLeDiff, Nat.reduceMul, Int.reduceLT, Int.reduceLE, Int.reduceAdd, Int.reduceSub, Int.reduceMul, Int.reduceNeg, Int.reduceToNat, Int.reduceEq]) (by simp only [go_sem, reduceCtorEq, reduceIte, Nat.reduceEqDiff, Nat.reduceAdd, Nat.reduceLeDiff, Nat.reduceMul, Int.reduceLT, Int.reduceLE, Int.reduceAdd, Int.reduceSub, Int.reduceMul, Int.reduceNeg, Int.reduceToNat, Int.reduceEq]), by simp only [go_sem, reduceCtorEq, reduceIte, Nat.reduceEqDiff, Nat.reduceAdd, Nat.reduceLeDiff, Nat.reduceMul, Int.reduceLT, Int.reduceLE, Int.reduceAdd, Int.reduceSub, Int.reduceMul, Int.reduceNeg, Int.reduceToNat, Int.reduceEq] <;> rfl⟩, by omega⟩
  clear s
  rintro mi σ F M ⟨i, s, hi⟩
  obtain rfl := s.ff
  have h3 := s.h3
  rw [hsx] at h3
  by_cases hil : (i : Int) < X.length
  rotate_left
  · simp only [go_sem, reduceCtorEq, reduceIte, Nat.reduceEqDiff, Nat.reduceAdd, Nat.reduceLeDiff, Nat.reduceMul, Int.reduceLT, Int.reduceLE, Int.reduceAdd, Int.reduceSub, Int.reduceMul, Int.reduceNeg, Int.reduceToNat, Int.reduceEq, h3, s.h4, s.h5, hil]
    exact s.toQ1.ext (by simp only [go_sem, reduceCtorEq, reduceIte, Nat.reduceEqDiff, Nat.reduceAdd, Nat.reduceLeDiff, Nat.reduceMul, Int.reduceLT, Int.reduceLE, Int.reduceAdd, Int.reduceSub, Int.reduceMul, Int.reduceNeg, Int.reduceToNat, Int.reduceEq, s.h3, hsx]) (by simp only [go_sem, reduceCtorEq, reduceIte, Nat.reduceEqDiff, Nat.reduceAdd, Nat.reduceLeDiff, Nat.reduceMul, Int.reduceLT, Int.reduceLE, Int.reduceAdd, Int.reduceSub, Int.reduceMul, Int.reduceNeg, Int.reduceToNat, Int.reduceEq])
  have ei : IntKind.i64.wrap ((i : Int) + 1) = i + 1 := w64 (by omega) (by omega)
  have hi0 : (0 : Int) ≤ i := by omega
  have hil' : i < X.length := by omega
  refine cut (Q1i (fzOf W) sx X k i) ?_ ?_
  · simp only [go_sem, reduceCtorEq, reduceIte, Nat.reduceEqDiff, Nat.reduceAdd, Nat.reduceLeDiff, Nat.reduceMul, Int.reduceLT, Int.reduceLE, Int.reduceAdd, Int.reduceSub, Int.reduceMul, Int.reduceNeg, Int.reduceToNat, Int.reduceEq, h3, s.h4, s.h5, hil]
    exact s.ext (by simp only [go_sem, reduceCtorEq, reduceIte, Nat.reduceEqDiff, Nat.reduceAdd, Nat.reduceLeDiff, Nat.reduceMul, Int.reduceLT, Int.reduceLE, Int.reduceAdd, Int.reduceSub, Int.reduceMul, Int.reduceNeg, Int.reduceToNat, Int.reduceEq, s.h3, hsx]) (by simp only [go_sem, reduceCtorEq, reduceIte, Nat.reduceEqDiff, Nat.reduceAdd, Nat.reduceLeDiff, Nat.reduceMul, Int.reduceLT, Int.reduceLE, Int.reduceAdd, Int.reduceSub, Int.reduceMul, Int.reduceNeg, Int.reduceToNat, Int.reduceEq]) (by simp only [go_sem, reduceCtorEq, reduceIte, Nat.reduceEqDiff, Nat.reduceAdd, Nat.reduceLeDiff, Nat.reduceMul, Int.reduceLT, Int.reduceLE, Int.reduceAdd, Int.reduceSub, Int.reduceMul, Int.reduceNeg, Int.reduceToNat, Int.reduceEq])
  clear h3
  clear s
  rintro σ F M s
  obtain rfl := s.ff
  refine cut (Q1i (fzOf W) sx X k i) ?_ ?_
  rotate_left
  · rintro σ F M s
    obtain rfl := s.ff
    simp only [go_sem, reduceCtorEq, reduceIte, Nat.reduceEqDiff, Nat.reduceAdd, Nat.reduceLeDiff, Nat.reduceMul, Int.reduceLT, Int.reduceLE, Int.reduceAdd, Int.reduceSub, Int.reduceMul, Int.reduceNeg, Int.reduceToNat, Int.reduceEq, s.h3, s.h4, s.h5, ei]
    exact ⟨mi - 1, by omega, i + 1, ⟨s.toQ1.ext (by simp only [go_sem, reduceCtorEq, reduceIte, Nat.reduceEqDiff, Nat.reduceAdd, Nat.reduceLeDiff, Nat.reduceMul, Int.reduceLT, Int.reduceLE, Int.reduceAdd, Int.reduceSub, Int.reduceMul, Int.reduceNeg, Int.reduceToNat, Int.reduceEq]) (by simp only [go_sem, reduceCtorEq, reduceIte, Nat.reduceEqDiff, Nat.reduceAdd, Nat.reduceLeDiff, Nat.reduceMul, Int.reduceLT, Int.reduceLE, Int.reduceAdd, Int.reduceSub, Int.reduceMul, Int.reduceNeg, Int.reduceToNat, Int.reduceEq]), by simp only [go_sem, reduceCtorEq, reduceIte, Nat.reduceEqDiff, Nat.reduceAdd, Nat.reduceLeDiff, Nat.reduceMul, Int.reduceLT, Int.reduceLE, Int.reduceAdd, Int.reduceSub, Int.reduceMul, Int.reduceNeg, Int.reduceToNat, Int.reduceEq]; rfl⟩, by omega⟩
  simp only [go_sem, reduceCtorEq, reduceIte, Nat.reduceEqDiff, Nat.reduceAdd, Nat.reduceLeDiff, Nat.reduceMul, Int.reduceLT, Int.reduceLE, Int.reduceAdd, Int.reduceSub, Int.reduceMul, Int.reduceNeg, Int.reduceToNat, Int.reduceEq, s.h3, s.h4, s.h5]
  refine loop_of (jI (fzOf W) sx X k i) X.length ?_ ?_
  · exact ⟨0, ⟨s.ext (by simp only [go_sem, reduceCtorEq, reduceIte, Nat.reduceEqDiff, Nat.reduceAdd, Nat.reduceLeDiff, Nat.reduceMul, Int.reduceLT, Int.reduceLE, Int.reduceAdd, Int.reduceSub, Int.reduceMul, Int.reduceNeg, Int.reduceToNat, Int.reduceEq]) (by simp only [go_sem, reduceCtorEq, reduceIte, Nat.reduceEqDiff, Nat.reduceAdd, Nat.reduceLeDiff, Nat.reduceMul, Int.reduceLT, Int.reduceLE, Int.reduceAdd, Int.reduceSub, Int.reduceMul, Int.reduceNeg, Int.reduceToNat, Int.reduceEq]) (by simp only [go_sem, reduceCtorEq, reduceIte, Nat.reduceEqDiff, Nat.reduceAdd, Nat.reduceLeDiff, Nat.reduceMul, Int.reduceLT, Int.reduceLE, Int.reduceAdd, Int.reduceSub, Int.reduceMul, Int.reduceNeg, Int.reduceToNat, Int.reduceEq]), by simp only [go_sem, reduceCtorEq, reduceIte, Nat.reduceEqDiff, Nat.reduceAdd, Nat.reduceLeDiff, Nat.reduceMul, Int.reduceLT, Int.reduceLE, Int.reduceAdd, Int.reduceSub, Int.reduceMul, Int.reduceNeg, Int.reduceToNat, Int.reduceEq] <;> rfl⟩, by omega⟩
  clear s
  rintro mj σ F M ⟨j, s, hj⟩
  obtain rfl := s.ff
  have h3 := s.h3
  rw [hsx] at h3
  by_cases hjl : (j : Int) < X.length
  rotate_left
  · simp only [go_sem, reduceCtorEq, reduceIte, Nat.reduceEqDiff, Nat.reduceAdd, Nat.reduceLeDiff, Nat.reduceMul, Int.reduceLT, Int.reduceLE, Int.reduceAdd, Int.reduceSub, Int.reduceMul, Int.reduceNeg, Int.reduceToNat, Int.reduceEq, h3, s.h4, s.h5, s.h6, hjl]
    exact s.toQ1i.ext (by simp only [go_sem, reduceCtorEq, reduceIte, Nat.reduceEqDiff, Nat.reduceAdd, Nat.reduceLeDiff, Nat.reduceMul, Int.reduceLT, Int.reduceLE, Int.reduceAdd, Int.reduceSub, Int.reduceMul, Int.reduceNeg, Int.reduceToNat, Int.reduceEq, s.h3, hsx]) (by simp only [go_sem, reduceCtorEq, reduceIte, Nat.reduceEqDiff, Nat.reduceAdd, Nat.reduceLeDiff, Nat.reduceMul, Int.reduceLT, Int.reduceLE, Int.reduceAdd, Int.reduceSub, Int.reduceMul, Int.reduceNeg, Int.reduceToNat, Int.reduceEq]) (by simp only [go_sem, reduceCtorEq, reduceIte, Nat.reduceEqDiff, Nat.reduceAdd, Nat.reduceLeDiff, Nat.reduceMul, Int.reduceLT, Int.reduceLE, Int.reduceAdd, Int.reduceSub, Int.reduceMul, Int.reduceNeg, Int.reduceToNat, Int.reduceEq])
  have ej : IntKind.i64.wrap ((j : Int) + 1) = j + 1 := w64 (by omega) (by omega)
  have hj0 : (0 : Int) ≤ j := by omega
  have hjl' : j < X.length := by omega
  refine cut (Q2 (fzOf W) sx X k i j) ?_ ?_
  · simp only [go_sem, reduceCtorEq, reduceIte, Nat.reduceEqDiff, Nat.reduceAdd, Nat.reduceLeDiff, Nat.reduceMul, Int.reduceLT, Int.reduceLE, Int.reduceAdd, Int.reduceSub, Int.reduceMul, Int.reduceNeg, Int.reduceToNat, Int.reduceEq, h3, s.h4, s.h5, s.h6, hjl]
    exact s.ext (by simp only [go_sem, reduceCtorEq, reduceIte, Nat.reduceEqDiff, Nat.reduceAdd, Nat.reduceLeDiff, Nat.reduceMul, Int.reduceLT, Int.reduceLE, Int.reduceAdd, Int.reduceSub, Int.reduceMul, Int.reduceNeg, Int.reduceToNat, Int.reduceEq, s.h3, hsx]) (by simp only [go_sem, reduceCtorEq, reduceIte, Nat.reduceEqDiff, Nat.reduceAdd, Nat.reduceLeDiff, Nat.reduceMul, Int.reduceLT, Int.reduceLE, Int.reduceAdd, Int.reduceSub, Int.reduceMul, Int.reduceNeg, Int.reduceToNat, Int.reduceEq]) (by simp only [go_sem, reduceCtorEq, reduceIte, Nat.reduceEqDiff, Nat.reduceAdd, Nat.reduceLeDiff, Nat.reduceMul, Int.reduceLT, Int.reduceLE, Int.reduceAdd, Int.reduceSub, Int.reduceMul, Int.reduceNeg, Int.reduceToNat, Int.reduceEq]) (by simp only [go_sem, reduceCtorEq, reduceIte, Nat.reduceEqDiff, Nat.reduceAdd, Nat.reduceLeDiff, Nat.reduceMul, Int.reduceLT, Int.reduceLE, Int.reduceAdd, Int.reduceSub, Int.reduceMul, Int.reduceNeg, Int.reduceToNat, Int.reduceEq])
  clear h3
  clear s
  rintro σ F M s
  obtain rfl := s.ff
  refine cut (Q2 (fzOf W) sx X k i j) ?_ ?_
  rotate_left
  · rintro σ F M s
    obtain rfl := s.ff
    simp only [go_sem, reduceCtorEq, reduceIte, Nat.reduceEqDiff, Nat.reduceAdd, Nat.reduceLeDiff, Nat.reduceMul, Int.reduceLT, Int.reduceLE, Int.reduceAdd, Int.reduceSub, Int.reduceMul, Int.reduceNeg, Int.reduceToNat, Int.reduceEq, s.h3, s.h4, s.h5, s.h6, ej]
    exact ⟨mj - 1, by omega, j + 1, ⟨s.toQ1i.ext (by simp only [go_sem, reduceCtorEq, reduceIte, Nat.reduceEqDiff, Nat.reduceAdd, Nat.reduceLeDiff, Nat.reduceMul, Int.reduceLT, Int.reduceLE, Int.reduceAdd, Int.reduceSub, Int.reduceMul, Int.reduceNeg, Int.reduceToNat, Int.reduceEq]) (by simp only [go_sem, reduceCtorEq, reduceIte, Nat.reduceEqDiff, Nat.reduceAdd, Nat.reduceLeDiff, Nat.reduceMul, Int.reduceLT, Int.reduceLE, Int.reduceAdd, Int.reduceSub, Int.reduceMul, Int.reduceNeg, Int.reduceToNat, Int.reduceEq]) (by simp only [go_sem, reduceCtorEq, reduceIte, Nat.reduceEqDiff, Nat.reduceAdd, Nat.reduceLeDiff, Nat.reduceMul, Int.reduceLT, Int.reduceLE, Int.reduceAdd, Int.reduceSub, Int.reduceMul, Int.reduceNeg, Int.reduceToNat, Int.reduceEq]), by simp only [go_sem, reduceCtorEq, reduceIte, Nat.reduceEqDiff, Nat.reduceAdd, Nat.reduceLeDiff, Nat.reduceMul, Int.reduceLT, Int.reduceLE, Int.reduceAdd, Int.reduceSub, Int.reduceMul, Int.reduceNeg, Int.reduceToNat, Int.reduceEq]; rfl⟩, by omega⟩
  rw [W_block]
  obtain ⟨l1, hl1, hlg1⟩ := hXg X[i] (List.getElem_mem _)
  obtain ⟨l2, hl2, hlg2⟩ := hXg X[j] (List.getElem_mem _)
  have hxe : ∀ {M : Hp}, RdG 7 Ab.cs (fzOf W) M sx X → ∃ b o cs, sx = .slice (some ⟨b, o, none⟩) X.length cx ∧ blk (fzOf W) M b = some cs ∧ (o + i * 7 + 7 ≤ cs.length ∧ (cs.drop (o + i * 7)).take 7 = abCs X[i].v X[i].u) ∧ (o + j * 7 + 7 ≤ cs.length ∧ (cs.drop (o + j * 7)).take 7 = abCs X[j].v X[j].u) := by
    intro M hr
    obtain ⟨b, o, cap, cs, e, h1, h2, h3⟩ := ab_at hr hil'
    obtain ⟨b', o', cap', cs', e', h1', h2', h3'⟩ := ab_at hr hjl'
    rw [e] at e'
    cases e'
    rw [h1] at h1'
    cases h1'
    rw [e] at hsx
    cases hsx
    exact ⟨b, o, cs, e, h1, ⟨h2, h3⟩, h2', h3'⟩
  generalize X[i] = x at *
  generalize X[j] = y at *
  have hxu : x.u = .slice x.a l1.length x.c := (hlg1 _ (Old.start _)).u_eq
  have hyu : y.u = .slice y.a l2.length y.c := (hlg2 _ (Old.start _)).u_eq
  refine cut (P3 (fzOf W) sx X k i j x.v l1 y.v l2) ?_ ?_
  · obtain ⟨b, o, cs, e, hb, ⟨d1, d2⟩, d3, d4⟩ := hxe s.rx
    have h3 := s.h3
    rw [e] at h3
    rw [hxu] at d2
    rw [hyu] at d4
    have hxr := (hlg1 _ s.old).2
    rw [hxu] at hxr
    simp only [go_sem, reduceCtorEq, reduceIte, Nat.reduceEqDiff, Nat.reduceAdd, Nat.reduceLeDiff, Nat.reduceMul, Int.reduceLT, Int.reduceLE, Int.reduceAdd, Int.reduceSub, Int.reduceMul, Int.reduceNeg, Int.reduceToNat, Int.reduceEq, h3, s.h4, s.h5, s.h6, hil, hi0, hjl, hj0, Int.toNat_natCast, hb, d1, d2, d3, d4]
    refine callK_of (k26 _ _ x.v _ l1 hxr s.old (by omega)) ?_
    rintro w G M1 ⟨w, rfl, hr⟩
    obtain ⟨hG, le, kq, oq, a, c, rfl, rdl⟩ := hr.le (f := Ba.cs) (fun x => rfl) (by omega)
    rw [hG]
    refine ⟨fun _ => le, ?_⟩
    have old1 := oq s.old
    have hyr := (hlg2 _ old1).2
    rw [hyu] at hyr
    simp only [go_sem, reduceCtorEq, reduceIte, Nat.reduceEqDiff, Nat.reduceAdd, Nat.reduceLeDiff, Nat.reduceMul, Int.reduceLT, Int.reduceLE, Int.reduceAdd, Int.reduceSub, Int.reduceMul, Int.reduceNeg, Int.reduceToNat, Int.reduceEq, h3, s.h4, s.h5, s.h6]
    refine callK_of (k26 _ _ y.v _ l2 hyr old1 (by omega)) ?_
    rintro w G M5 ⟨w, rfl, hr5⟩
    obtain ⟨hG, le5, kq5, oq5, a5, c5, rfl, rdl5⟩ := hr5.le (f := Ba.cs) (fun x => rfl) (by omega)
    rw [hG]
    refine ⟨fun _ => le5, ?_⟩
    have old5 := oq5 old1
    simp only [go_sem, reduceCtorEq, reduceIte, Nat.reduceEqDiff, Nat.reduceAdd, Nat.reduceLeDiff, Nat.reduceMul, Int.reduceLT, Int.reduceLE, Int.reduceAdd, Int.reduceSub, Int.reduceMul, Int.reduceNeg, Int.reduceToNat, Int.reduceEq, h3, s.h4, s.h5, s.h6]
    intro r7 hF7 hM7
    simp only [go_sem, reduceCtorEq, reduceIte, Nat.reduceEqDiff, Nat.reduceAdd, Nat.reduceLeDiff, Nat.reduceMul, Int.reduceLT, Int.reduceLE, Int.reduceAdd, Int.reduceSub, Int.reduceMul, Int.reduceNeg, Int.reduceToNat, Int.reduceEq, h3, s.h4, s.h5, s.h6]
    intro r8 hF8 hM8
    have g8 := fresh_of hM8
    have kp : ∀ e e', Keep M5 ((M5.upd r7 e).upd r8 e') := fun e e' => ((Keep.refl M5).new hM7).new g8.2.2
    have kp0 : ∀ e e', Keep M ((M5.upd r7 e).upd r8 e') := fun e e' => (kq.trans kq5).trans (kp e e')
    have o8 : ∀ e e', Old (fzOf W) ((M5.upd r7 e).upd r8 e') := fun e e' => (old5.upd hF7).upd hF8
    simp only [go_sem, reduceCtorEq, reduceIte, Nat.reduceEqDiff, Nat.reduceAdd, Nat.reduceLeDiff, Nat.reduceMul, Int.reduceLT, Int.reduceLE, Int.reduceAdd, Int.reduceSub, Int.reduceMul, Int.reduceNeg, Int.reduceToNat, Int.reduceEq, h3, s.h4, s.h5, s.h6, g8]
    exact ⟨(s.grow (kp0 _ _) (o8 _ _)).ext (by simp only [go_sem, reduceCtorEq, reduceIte, Nat.reduceEqDiff, Nat.reduceAdd, Nat.reduceLeDiff, Nat.reduceMul, Int.reduceLT, Int.reduceLE, Int.reduceAdd, Int.reduceSub, Int.reduceMul, Int.reduceNeg, Int.reduceToNat, Int.reduceEq, s.h3, e]) (by simp only [go_sem, reduceCtorEq, reduceIte, Nat.reduceEqDiff, Nat.reduceAdd, Nat.reduceLeDiff, Nat.reduceMul, Int.reduceLT, Int.reduceLE, Int.reduceAdd, Int.reduceSub, Int.reduceMul, Int.reduceNeg, Int.reduceToNat, Int.reduceEq]) (by simp only [go_sem, reduceCtorEq, reduceIte, Nat.reduceEqDiff, Nat.reduceAdd, Nat.reduceLeDiff, Nat.reduceMul, Int.reduceLT, Int.reduceLE, Int.reduceAdd, Int.reduceSub, Int.reduceMul, Int.reduceNeg, Int.reduceToNat, Int.reduceEq]) (by simp only [go_sem, reduceCtorEq, reduceIte, Nat.reduceEqDiff, Nat.reduceAdd, Nat.reduceLeDiff, Nat.reduceMul, Int.reduceLT, Int.reduceLE, Int.reduceAdd, Int.reduceSub, Int.reduceMul, Int.reduceNeg, Int.reduceToNat, Int.reduceEq]), ⟨r7, a, _, c, by simp only [go_sem, reduceCtorEq, reduceIte, Nat.reduceEqDiff, Nat.reduceAdd, Nat.reduceLeDiff, Nat.reduceMul, Int.reduceLT, Int.reduceLE, Int.reduceAdd, Int.reduceSub, Int.reduceMul, Int.reduceNeg, Int.reduceToNat, Int.reduceEq], by rw [Hp.upd_ne' g8.2.1]; exact Hp.upd_same _ _ _, (rdl.keep kq5 old5).keep (kp _ _) (o8 _ _)⟩, ⟨r8, a5, _, c5, by simp only [go_sem, reduceCtorEq, reduceIte, Nat.reduceEqDiff, Nat.reduceAdd, Nat.reduceLeDiff, Nat.reduceMul, Int.reduceLT, Int.reduceLE, Int.reduceAdd, Int.reduceSub, Int.reduceMul, Int.reduceNeg, Int.reduceToNat, Int.reduceEq], Hp.upd_same _ _ _, rdl5.keep (kp _ _) (o8 _ _)⟩⟩
  clear s
  rintro σ F M s
  obtain rfl := s.ff
  cases hab : (absB k x.v l1 && absB k y.v l2)
  · -- refused
    obtain ⟨r7, a7, n7, c7, h7, f7, rd7⟩ := s.s7
    obtain ⟨r8, a8, n8, c8, h8, f8, rd8⟩ := s.s8
    have b7 := blk_M (F := fzOf W) f7
    have b8 := blk_M (F := fzOf W) f8
    simp only [go_sem, reduceCtorEq, reduceIte, Nat.reduceEqDiff, Nat.reduceAdd, Nat.reduceLeDiff, Nat.reduceMul, Int.reduceLT, Int.reduceLE, Int.reduceAdd, Int.reduceSub, Int.reduceMul, Int.reduceNeg, Int.reduceToNat, Int.reduceEq, s.h3, s.h4, s.h5, s.h6, h7, h8, b7, b8]
    refine callK_of (k50 _ _ k x.v y.v _ _ l1 l2 rd7 rd8 s.old) ?_
    rintro w G M1 hq
    obtain ⟨rfl, hG, hM1⟩ := joinNo hq hab
    rw [hG, hM1]
    refine ⟨(fun h => by cases h), ?_⟩
    simp only [go_sem, reduceCtorEq, reduceIte, Nat.reduceEqDiff, Nat.reduceAdd, Nat.reduceLeDiff, Nat.reduceMul, Int.reduceLT, Int.reduceLE, Int.reduceAdd, Int.reduceSub, Int.reduceMul, Int.reduceNeg, Int.reduceToNat, Int.reduceEq, s.h3, s.h4, s.h5, s.h6, h7, h8]
    intro r9 hF9 hM9
    have n97 := ne_of_none hM9 f7
    have n98 := ne_of_none hM9 f8
    simp only [go_sem, reduceCtorEq, reduceIte, Nat.reduceEqDiff, Nat.reduceAdd, Nat.reduceLeDiff, Nat.reduceMul, Int.reduceLT, Int.reduceLE, Int.reduceAdd, Int.reduceSub, Int.reduceMul, Int.reduceNeg, Int.reduceToNat, Int.reduceEq, s.h3, s.h4, s.h5, s.h6, h7, h8, n97, n98, b7, b8]
    refine callK_of (k51 _ _ k x.v y.v _ _ l1 l2 (rd7.new hF9 hM9) (rd8.new hF9 hM9) (s.old.upd hF9)) ?_
    rintro w G M1 hq
    obtain ⟨rfl, hG, hM1⟩ := meetNo hq hab
    rw [hG, hM1]
    refine ⟨(fun h => by cases h), ?_⟩
    simp only [go_sem, reduceCtorEq, reduceIte, Nat.reduceEqDiff, Nat.reduceAdd, Nat.reduceLeDiff, Nat.reduceMul, Int.reduceLT, Int.reduceLE, Int.reduceAdd, Int.reduceSub, Int.reduceMul, Int.reduceNeg, Int.reduceToNat, Int.reduceEq, s.h3, s.h4, s.h5, s.h6, h7, h8]
    intro r11 hF11 hM11
    have g11 := fresh_of hM11
    have kp : ∀ e e', Keep M ((M.upd r9 e).upd r11 e') := fun e e' => ((Keep.refl M).new hM9).new g11.2.2
    have oo : ∀ e e', Old (fzOf W) ((M.upd r9 e).upd r11 e') := fun e e' => (s.old.upd hF9).upd hF11
    have bb7 : ∀ e e', blk (fzOf W) ((M.upd r9 e).upd r11 e') r7 = _ := fun e e' => blk_M (kp e e' _ _ f7)
    have bb8 : ∀ e e', blk (fzOf W) ((M.upd r9 e).upd r11 e') r8 = _ := fun e e' => blk_M (kp e e' _ _ f8)
    simp only [go_sem, reduceCtorEq, reduceIte, Nat.reduceEqDiff, Nat.reduceAdd, Nat.reduceLeDiff, Nat.reduceMul, Int.reduceLT, Int.reduceLE, Int.reduceAdd, Int.reduceSub, Int.reduceMul, Int.reduceNeg, Int.reduceToNat, Int.reduceEq, s.h3, s.h4, s.h5, s.h6, h7, h8, bb7, bb8]
    refine callK_same (k53 _ _ k x.v y.v _ _ l1 l2 (rd7.keep (kp _ _) (oo _ _)) (rd8.keep (kp _ _) (oo _ _)) (oo _ _)) ?_
    rw [hab]
    simp only [go_sem, reduceCtorEq, reduceIte, Nat.reduceEqDiff, Nat.reduceAdd, Nat.reduceLeDiff, Nat.reduceMul, Int.reduceLT, Int.reduceLE, Int.reduceAdd, Int.reduceSub, Int.reduceMul, Int.reduceNeg, Int.reduceToNat, Int.reduceEq, s.h3, s.h4, s.h5, s.h6, h7, h8, bb7, bb8, Bool.false_eq_true, if_false]
    have tail : ∀ (e e' : Ent) (σ' : Env), Ax.look σ' 3 = some sx → Ax.look σ' 4 = some (.int .i64 k) → Ax.look σ' 5 = some (.int .i64 i) → Ax.look σ' 6 = some (.int .i64 j) → Q2 (fzOf W) sx X k i j σ' (fzOf W) ((M.upd r9 e).upd r11 e') :=
      fun e e' σ' e3 e4 e5 e6 => (s.toQ2.grow (kp e e') (oo e e')).ext (e3.trans s.h3.symm) (e4.trans s.h4.symm) (e5.trans s.h5.symm) (e6.trans s.h6.symm)
    refine callK_same (k19 _ _ k x.v _ l1 (rd7.keep (kp _ _) (oo _ _))) ?_
    obtain ⟨b, o, cs, e, hb, ⟨d1, d2⟩, d3, d4⟩ := hxe s.rx
    have bbb : ∀ e e', blk (fzOf W) ((M.upd r9 e).upd r11 e') b = some cs := fun e e' => blk_keep hb (kp e e') (oo e e')
    have h3 := s.h3
    rw [e] at h3
    rw [hxu] at d2
    rw [hyu] at d4
    have hxr : ∀ e e', RdG 7 Ba.cs (fzOf W) ((M.upd r9 e).upd r11 e') (.slice x.a l1.length x.c) l1 := fun e e' => by
      have := (hlg1 _ (oo e e')).2
      rw [hxu] at this; exact this
    have hyr : ∀ e e', RdG 7 Ba.cs (fzOf W) ((M.upd r9 e).upd r11 e') (.slice y.a l2.length y.c) l2 := fun e e' => by
      have := (hlg2 _ (oo e e')).2
      rw [hyu] at this; exact this
    cases ha : absB k x.v l1
    · simp only [go_sem, reduceCtorEq, reduceIte, Nat.reduceEqDiff, Nat.reduceAdd, Nat.reduceLeDiff, Nat.reduceMul, Int.reduceLT, Int.reduceLE, Int.reduceAdd, Int.reduceSub, Int.reduceMul, Int.reduceNeg, Int.reduceToNat, Int.reduceEq, h3, s.h4, s.h5, s.h6, h7, h8, bb7, bb8]
      refine callK_same (k17 _ _ 1) ?_
      simp only [go_sem, reduceCtorEq, reduceIte, Nat.reduceEqDiff, Nat.reduceAdd, Nat.reduceLeDiff, Nat.reduceMul, Int.reduceLT, Int.reduceLE, Int.reduceAdd, Int.reduceSub, Int.reduceMul, Int.reduceNeg, Int.reduceToNat, Int.reduceEq, h3, s.h4, s.h5, s.h6, h7, h8]
      refine callK_same (k17 _ _ 1) ?_
      simp only [go_sem, reduceCtorEq, reduceIte, Nat.reduceEqDiff, Nat.reduceAdd, Nat.reduceLeDiff, Nat.reduceMul, Int.reduceLT, Int.reduceLE, Int.reduceAdd, Int.reduceSub, Int.reduceMul, Int.reduceNeg, Int.reduceToNat, Int.reduceEq, h3, s.h4, s.h5, s.h6, h7, h8]
      refine callK_same (k17 _ _ 1) ?_
      simp only [go_sem, reduceCtorEq, reduceIte, Nat.reduceEqDiff, Nat.reduceAdd, Nat.reduceLeDiff, Nat.reduceMul, Int.reduceLT, Int.reduceLE, Int.reduceAdd, Int.reduceSub, Int.reduceMul, Int.reduceNeg, Int.reduceToNat, Int.reduceEq, h3, s.h4, s.h5, s.h6, h7, h8, bb7, hil, hi0, Int.toNat_natCast, bbb, d1, d2]
      refine callK_same (k32 _ _ x.v x.v _ _ l1 l1 (rd7.keep (kp _ _) (oo _ _)) (hxr _ _)) ?_
      simp only [go_sem, reduceCtorEq, reduceIte, Nat.reduceEqDiff, Nat.reduceAdd, Nat.reduceLeDiff, Nat.reduceMul, Int.reduceLT, Int.reduceLE, Int.reduceAdd, Int.reduceSub, Int.reduceMul, Int.reduceNeg, Int.reduceToNat, Int.reduceEq, h3, s.h4, s.h5, s.h6, h7, h8, bb8, hjl, hj0, Int.toNat_natCast, bbb, d3, d4]
      refine callK_same (k32 _ _ y.v y.v _ _ l2 l2 (rd8.keep (kp _ _) (oo _ _)) (hyr _ _)) ?_
      simp only [go_sem, reduceCtorEq, reduceIte, Nat.reduceEqDiff, Nat.reduceAdd, Nat.reduceLeDiff, Nat.reduceMul, Int.reduceLT, Int.reduceLE, Int.reduceAdd, Int.reduceSub, Int.reduceMul, Int.reduceNeg, Int.reduceToNat, Int.reduceEq, h3, s.h4, s.h5, s.h6, h7, h8]
      exact tail _ _ _ (by simp only [go_sem, reduceCtorEq, reduceIte, Nat.reduceEqDiff, Nat.reduceAdd, Nat.reduceLeDiff, Nat.reduceMul, Int.reduceLT, Int.reduceLE, Int.reduceAdd, Int.reduceSub, Int.reduceMul, Int.reduceNeg, Int.reduceToNat, Int.reduceEq, h3, e]) (by simp only [go_sem, reduceCtorEq, reduceIte, Nat.reduceEqDiff, Nat.reduceAdd, Nat.reduceLeDiff, Nat.reduceMul, Int.reduceLT, Int.reduceLE, Int.reduceAdd, Int.reduceSub, Int.reduceMul, Int.reduceNeg, Int.reduceToNat, Int.reduceEq, s.h4]) (by simp only [go_sem, reduceCtorEq, reduceIte, Nat.reduceEqDiff, Nat.reduceAdd, Nat.reduceLeDiff, Nat.reduceMul, Int.reduceLT, Int.reduceLE, Int.reduceAdd, Int.reduceSub, Int.reduceMul, Int.reduceNeg, Int.reduceToNat, Int.reduceEq, s.h5]) (by simp only [go_sem, reduceCtorEq, reduceIte, Nat.reduceEqDiff, Nat.reduceAdd, Nat.reduceLeDiff, Nat.reduceMul, Int.reduceLT, Int.reduceLE, Int.reduceAdd, Int.reduceSub, Int.reduceMul, Int.reduceNeg, Int.reduceToNat, Int.reduceEq, s.h6])
    · have hb2 : absB k y.v l2 = false := by rw [ha, Bool.true_and] at hab; exact hab
      simp only [go_sem, reduceCtorEq, reduceIte, Nat.reduceEqDiff, Nat.reduceAdd, Nat.reduceLeDiff, Nat.reduceMul, Int.reduceLT, Int.reduceLE, Int.reduceAdd, Int.reduceSub, Int.reduceMul, Int.reduceNeg, Int.reduceToNat, Int.reduceEq, h3, s.h4, s.h5, s.h6, h7, h8, bb7, bb8]
      refine callK_same (k19 _ _ k y.v _ l2 (rd8.keep (kp _ _) (oo _ _))) ?_
      rw [hb2]
      simp only [go_sem, reduceCtorEq, reduceIte, Nat.reduceEqDiff, Nat.reduceAdd, Nat.reduceLeDiff, Nat.reduceMul, Int.reduceLT, Int.reduceLE, Int.reduceAdd, Int.reduceSub, Int.reduceMul, Int.reduceNeg, Int.reduceToNat, Int.reduceEq, h3, s.h4, s.h5, s.h6, h7, h8, bb7, bb8]
      refine callK_same (k17 _ _ 1) ?_
      simp only [go_sem, reduceCtorEq, reduceIte, Nat.reduceEqDiff, Nat.reduceAdd, Nat.reduceLeDiff, Nat.reduceMul, Int.reduceLT, Int.reduceLE, Int.reduceAdd, Int.reduceSub, Int.reduceMul, Int.reduceNeg, Int.reduceToNat, Int.reduceEq, h3, s.h4, s.h5, s.h6, h7, h8]
      refine callK_same (k17 _ _ 1) ?_
      simp only [go_sem, reduceCtorEq, reduceIte, Nat.reduceEqDiff, Nat.reduceAdd, Nat.reduceLeDiff, Nat.reduceMul, Int.reduceLT, Int.reduceLE, Int.reduceAdd, Int.reduceSub, Int.reduceMul, Int.reduceNeg, Int.reduceToNat, Int.reduceEq, h3, s.h4, s.h5, s.h6, h7, h8]
      refine callK_same (k17 _ _ 1) ?_
      simp only [go_sem, reduceCtorEq, reduceIte, Nat.reduceEqDiff, Nat.reduceAdd, Nat.reduceLeDiff, Nat.reduceMul, Int.reduceLT, Int.reduceLE, Int.reduceAdd, Int.reduceSub, Int.reduceMul, Int.reduceNeg, Int.reduceToNat, Int.reduceEq, h3, s.h4, s.h5, s.h6, h7, h8, bb7, hil, hi0, Int.toNat_natCast, bbb, d1, d2]
      refine callK_same (k32 _ _ x.v x.v _ _ l1 l1 (rd7.keep (kp _ _) (oo _ _)) (hxr _ _)) ?_
      simp only [go_sem, reduceCtorEq, reduceIte, Nat.reduceEqDiff, Nat.reduceAdd, Nat.reduceLeDiff, Nat.reduceMul, Int.reduceLT, Int.reduceLE, Int.reduceAdd, Int.reduceSub, Int.reduceMul, Int.reduceNeg, Int.reduceToNat, Int.reduceEq, h3, s.h4, s.h5, s.h6, h7, h8, bb8, hjl, hj0, Int.toNat_natCast, bbb, d3, d4]
      refine callK_same (k32 _ _ y.v y.v _ _ l2 l2 (rd8.keep (kp _ _) (oo _ _)) (hyr _ _)) ?_
      simp only [go_sem, reduceCtorEq, reduceIte, Nat.reduceEqDiff, Nat.reduceAdd, Nat.reduceLeDiff, Nat.reduceMul, Int.reduceLT, Int.reduceLE, Int.reduceAdd, Int.reduceSub, Int.reduceMul, Int.reduceNeg, Int.reduceToNat, Int.reduceEq, h3, s.h4, s.h5, s.h6, h7, h8]
      exact tail _ _ _ (by simp only [go_sem, reduceCtorEq, reduceIte, Nat.reduceEqDiff, Nat.reduceAdd, Nat.reduceLeDiff, Nat.reduceMul, Int.reduceLT, Int.reduceLE, Int.reduceAdd, Int.reduceSub, Int.reduceMul, Int.reduceNeg, Int.reduceToNat, Int.reduceEq, h3, e]) (by simp only [go_sem, reduceCtorEq, reduceIte, Nat.reduceEqDiff, Nat.reduceAdd, Nat.reduceLeDiff, Nat.reduceMul, Int.reduceLT, Int.reduceLE, Int.reduceAdd, Int.reduceSub, Int.reduceMul, Int.reduceNeg, Int.reduceToNat, Int.reduceEq, s.h4]) (by simp only [go_sem, reduceCtorEq, reduceIte, Nat.reduceEqDiff, Nat.reduceAdd, Nat.reduceLeDiff, Nat.reduceMul, Int.reduceLT, Int.reduceLE, Int.reduceAdd, Int.reduceSub, Int.reduceMul, Int.reduceNeg, Int.reduceToNat, Int.reduceEq, s.h5]) (by simp only [go_sem, reduceCtorEq, reduceIte, Nat.reduceEqDiff, Nat.reduceAdd, Nat.reduceLeDiff, Nat.reduceMul, Int.reduceLT, Int.reduceLE, Int.reduceAdd, Int.reduceSub, Int.reduceMul, Int.reduceNeg, Int.reduceToNat, Int.reduceEq, s.h6])
  -- accepted
  have hab' := hab
  rw [Bool.and_eq_true] at hab'
  obtain ⟨ha1, ha2⟩ := hab'
  refine cut (T4 (fzOf W) sx X k i j x.v l1 y.v l2) ?_ ?_
  · obtain ⟨r7, a7, n7, c7, h7, f7, rd7⟩ := s.s7
    obtain ⟨r8, a8, n8, c8, h8, f8, rd8⟩ := s.s8
    have b7 := blk_M (F := fzOf W) f7
    have b8 := blk_M (F := fzOf W) f8
    simp only [go_sem, reduceCtorEq, reduceIte, Nat.reduceEqDiff, Nat.reduceAdd, Nat.reduceLeDiff, Nat.reduceMul, Int.reduceLT, Int.reduceLE, Int.reduceAdd, Int.reduceSub, Int.reduceMul, Int.reduceNeg, Int.reduceToNat, Int.reduceEq, s.h3, s.h4, s.h5, s.h6, h7, h8, b7, b8]
    refine callK_of (k50 _ _ k x.v y.v _ _ l1 l2 rd7 rd8 s.old) ?_
    rintro w G M1 hq
    obtain ⟨hG, le, kq, oq, v9, l9, a9, n9, c9, rfl, rd9, hboth⟩ := joinLe hq hab
    rw [hG]
    refine ⟨(fun h => by cases h), ?_⟩
    simp only [go_sem, reduceCtorEq, reduceIte, Nat.reduceEqDiff, Nat.reduceAdd, Nat.reduceLeDiff, Nat.reduceMul, Int.reduceLT, Int.reduceLE, Int.reduceAdd, Int.reduceSub, Int.reduceMul, Int.reduceNeg, Int.reduceToNat, Int.reduceEq, s.h3, s.h4, s.h5, s.h6, h7, h8]
    intro r9 hF9 hM9
    have old9 := (oq s.old).upd (e := ⟨abCs v9 (.slice a9 n9 c9), 37, 7⟩) hF9
    have kp9 := kq.trans ((Keep.refl M1).new hM9 (e := ⟨abCs v9 (.slice a9 n9 c9), 37, 7⟩))
    simp only [go_sem, reduceCtorEq, reduceIte, Nat.reduceEqDiff, Nat.reduceAdd, Nat.reduceLeDiff, Nat.reduceMul, Int.reduceLT, Int.reduceLE, Int.reduceAdd, Int.reduceSub, Int.reduceMul, Int.reduceNeg, Int.reduceToNat, Int.reduceEq, s.h3, s.h4, s.h5, s.h6, h7, h8]
    exact ⟨v9, l9, ⟨(s.grow kp9 old9).ext (by simp only [go_sem, reduceCtorEq, reduceIte, Nat.reduceEqDiff, Nat.reduceAdd, Nat.reduceLeDiff, Nat.reduceMul, Int.reduceLT, Int.reduceLE, Int.reduceAdd, Int.reduceSub, Int.reduceMul, Int.reduceNeg, Int.reduceToNat, Int.reduceEq]) (by simp only [go_sem, reduceCtorEq, reduceIte, Nat.reduceEqDiff, Nat.reduceAdd, Nat.reduceLeDiff, Nat.reduceMul, Int.reduceLT, Int.reduceLE, Int.reduceAdd, Int.reduceSub, Int.reduceMul, Int.reduceNeg, Int.reduceToNat, Int.reduceEq]) (by simp only [go_sem, reduceCtorEq, reduceIte, Nat.reduceEqDiff, Nat.reduceAdd, Nat.reduceLeDiff, Nat.reduceMul, Int.reduceLT, Int.reduceLE, Int.reduceAdd, Int.reduceSub, Int.reduceMul, Int.reduceNeg, Int.reduceToNat, Int.reduceEq]) (by simp only [go_sem, reduceCtorEq, reduceIte, Nat.reduceEqDiff, Nat.reduceAdd, Nat.reduceLeDiff, Nat.reduceMul, Int.reduceLT, Int.reduceLE, Int.reduceAdd, Int.reduceSub, Int.reduceMul, Int.reduceNeg, Int.reduceToNat, Int.reduceEq]) (by simp only [go_sem, reduceCtorEq, reduceIte, Nat.reduceEqDiff, Nat.reduceAdd, Nat.reduceLeDiff, Nat.reduceMul, Int.reduceLT, Int.reduceLE, Int.reduceAdd, Int.reduceSub, Int.reduceMul, Int.reduceNeg, Int.reduceToNat, Int.reduceEq, h7]) (by simp only [go_sem, reduceCtorEq, reduceIte, Nat.reduceEqDiff, Nat.reduceAdd, Nat.reduceLeDiff, Nat.reduceMul, Int.reduceLT, Int.reduceLE, Int.reduceAdd, Int.reduceSub, Int.reduceMul, Int.reduceNeg, Int.reduceToNat, Int.reduceEq, h8]), ⟨r9, a9, n9, c9, by simp only [go_sem, reduceCtorEq, reduceIte, Nat.reduceEqDiff, Nat.reduceAdd, Nat.reduceLeDiff, Nat.reduceMul, Int.reduceLT, Int.reduceLE, Int.reduceAdd, Int.reduceSub, Int.reduceMul, Int.reduceNeg, Int.reduceToNat, Int.reduceEq], Hp.upd_same _ _ _, rd9.new hF9 hM9⟩, hboth⟩, by simp only [go_sem, reduceCtorEq, reduceIte, Nat.reduceEqDiff, Nat.reduceAdd, Nat.reduceLeDiff, Nat.reduceMul, Int.reduceLT, Int.reduceLE, Int.reduceAdd, Int.reduceSub, Int.reduceMul, Int.reduceNeg, Int.reduceToNat, Int.reduceEq]⟩
  clear s
  rintro σ F M ⟨v9, l9, s, h10⟩
  obtain rfl := s.ff
  refine cut (T5 (fzOf W) sx X k i j x.v l1 y.v l2 v9 l9) ?_ ?_
  · obtain ⟨r7, a7, n7, c7, h7, f7, rd7⟩ := s.s7
    obtain ⟨r8, a8, n8, c8, h8, f8, rd8⟩ := s.s8
    have b7 := blk_M (F := fzOf W) f7
    have b8 := blk_M (F := fzOf W) f8
    simp only [go_sem, reduceCtorEq, reduceIte, Nat.reduceEqDiff, Nat.reduceAdd, Nat.reduceLeDiff, Nat.reduceMul, Int.reduceLT, Int.reduceLE, Int.reduceAdd, Int.reduceSub, Int.reduceMul, Int.reduceNeg, Int.reduceToNat, Int.reduceEq, s.h3, s.h4, s.h5, s.h6, h7, h8, h10, b7, b8]
    refine callK_of (k51 _ _ k x.v y.v _ _ l1 l2 rd7 rd8 s.old) ?_
    rintro w G M1 hq
    obtain ⟨hG, le, kq, oq, v11, l11, a11, n11, c11, rfl, rd11, hcross⟩ := meetLe hq hab
    rw [hG]
    refine ⟨(fun h => by cases h), ?_⟩
    simp only [go_sem, reduceCtorEq, reduceIte, Nat.reduceEqDiff, Nat.reduceAdd, Nat.reduceLeDiff, Nat.reduceMul, Int.reduceLT, Int.reduceLE, Int.reduceAdd, Int.reduceSub, Int.reduceMul, Int.reduceNeg, Int.reduceToNat, Int.reduceEq, s.h3, s.h4, s.h5, s.h6, h7, h8, h10]
    intro r11 hF11 hM11
    have old11 := (oq s.old).upd (e := ⟨abCs v11 (.slice a11 n11 c11), 37, 7⟩) hF11
    have kp11 := kq.trans ((Keep.refl M1).new hM11 (e := ⟨abCs v11 (.slice a11 n11 c11), 37, 7⟩))
    simp only [go_sem, reduceCtorEq, reduceIte, Nat.reduceEqDiff, Nat.reduceAdd, Nat.reduceLeDiff, Nat.reduceMul, Int.reduceLT, Int.reduceLE, Int.reduceAdd, Int.reduceSub, Int.reduceMul, Int.reduceNeg, Int.reduceToNat, Int.reduceEq, s.h3, s.h4, s.h5, s.h6, h7, h8, h10]
    exact ⟨v11, l11, ⟨(s.grow kp11 old11).ext (by simp only [go_sem, reduceCtorEq, reduceIte, Nat.reduceEqDiff, Nat.reduceAdd, Nat.reduceLeDiff, Nat.reduceMul, Int.reduceLT, Int.reduceLE, Int.reduceAdd, Int.reduceSub, Int.reduceMul, Int.reduceNeg, Int.reduceToNat, Int.reduceEq]) (by simp only [go_sem, reduceCtorEq, reduceIte, Nat.reduceEqDiff, Nat.reduceAdd, Nat.reduceLeDiff, Nat.reduceMul, Int.reduceLT, Int.reduceLE, Int.reduceAdd, Int.reduceSub, Int.reduceMul, Int.reduceNeg, Int.reduceToNat, Int.reduceEq]) (by simp only [go_sem, reduceCtorEq, reduceIte, Nat.reduceEqDiff, Nat.reduceAdd, Nat.reduceLeDiff, Nat.reduceMul, Int.reduceLT, Int.reduceLE, Int.reduceAdd, Int.reduceSub, Int.reduceMul, Int.reduceNeg, Int.reduceToNat, Int.reduceEq]) (by simp only [go_sem, reduceCtorEq, reduceIte, Nat.reduceEqDiff, Nat.reduceAdd, Nat.reduceLeDiff, Nat.reduceMul, Int.reduceLT, Int.reduceLE, Int.reduceAdd, Int.reduceSub, Int.reduceMul, Int.reduceNeg, Int.reduceToNat, Int.reduceEq]) (by simp only [go_sem, reduceCtorEq, reduceIte, Nat.reduceEqDiff, Nat.reduceAdd, Nat.reduceLeDiff, Nat.reduceMul, Int.reduceLT, Int.reduceLE, Int.reduceAdd, Int.reduceSub, Int.reduceMul, Int.reduceNeg, Int.reduceToNat, Int.reduceEq, h7]) (by simp only [go_sem, reduceCtorEq, reduceIte, Nat.reduceEqDiff, Nat.reduceAdd, Nat.reduceLeDiff, Nat.reduceMul, Int.reduceLT, Int.reduceLE, Int.reduceAdd, Int.reduceSub, Int.reduceMul, Int.reduceNeg, Int.reduceToNat, Int.reduceEq, h8]) (by simp only [go_sem, reduceCtorEq, reduceIte, Nat.reduceEqDiff, Nat.reduceAdd, Nat.reduceLeDiff, Nat.reduceMul, Int.reduceLT, Int.reduceLE, Int.reduceAdd, Int.reduceSub, Int.reduceMul, Int.reduceNeg, Int.reduceToNat, Int.reduceEq]), ⟨r11, a11, n11, c11, by simp only [go_sem, reduceCtorEq, reduceIte, Nat.reduceEqDiff, Nat.reduceAdd, Nat.reduceLeDiff, Nat.reduceMul, Int.reduceLT, Int.reduceLE, Int.reduceAdd, Int.reduceSub, Int.reduceMul, Int.reduceNeg, Int.reduceToNat, Int.reduceEq], Hp.upd_same _ _ _, rd11.new hF11 hM11⟩, hcross⟩, by simp only [go_sem, reduceCtorEq, reduceIte, Nat.reduceEqDiff, Nat.reduceAdd, Nat.reduceLeDiff, Nat.reduceMul, Int.reduceLT, Int.reduceLE, Int.reduceAdd, Int.reduceSub, Int.reduceMul, Int.reduceNeg, Int.reduceToNat, Int.reduceEq, h10], by simp only [go_sem, reduceCtorEq, reduceIte, Nat.reduceEqDiff, Nat.reduceAdd, Nat.reduceLeDiff, Nat.reduceMul, Int.reduceLT, Int.reduceLE, Int.reduceAdd, Int.reduceSub, Int.reduceMul, Int.reduceNeg, Int.reduceToNat, Int.reduceEq]⟩
  clear h10
  clear s
  rintro σ F M ⟨v11, l11, s, h10, h12⟩
  obtain rfl := s.ff
  rw [seq_assoc, seq_assoc, seq_assoc, seq_assoc]
  refine cut (P6 (fzOf W) sx X k i j x.v l1 y.v l2 v9 l9 v11 l11) ?_ ?_
  · have s' := s
    obtain ⟨r7, a7, n7, c7, h7, f7, rd7⟩ := s.s7
    obtain ⟨r8, a8, n8, c8, h8, f8, rd8⟩ := s.s8
    have b7 := blk_M (F := fzOf W) f7
    have b8 := blk_M (F := fzOf W) f8
    obtain ⟨b, o, cs, e, hb, ⟨d1, d2⟩, d3, d4⟩ := hxe s.rx
    have h3 := s.h3
    rw [e] at h3
    rw [hxu] at d2
    rw [hyu] at d4
    have hxr : RdG 7 Ba.cs (fzOf W) M (.slice x.a l1.length x.c) l1 := by
      have := (hlg1 _ s.old).2
      rw [hxu] at this; exact this
    have hyr : RdG 7 Ba.cs (fzOf W) M (.slice y.a l2.length y.c) l2 := by
      have := (hlg2 _ s.old).2
      rw [hyu] at this; exact this
    simp only [go_sem, reduceCtorEq, reduceIte, Nat.reduceEqDiff, Nat.reduceAdd, Nat.reduceLeDiff, Nat.reduceMul, Int.reduceLT, Int.reduceLE, Int.reduceAdd, Int.reduceSub, Int.reduceMul, Int.reduceNeg, Int.reduceToNat, Int.reduceEq, h3, s.h4, s.h5, s.h6, h7, h8, h10, h12, b7, b8]
    refine callK_same (k53 _ _ k x.v y.v _ _ l1 l2 rd7 rd8 s.old) ?_
    rw [hab]
    simp only [go_sem, reduceCtorEq, reduceIte, Nat.reduceEqDiff, Nat.reduceAdd, Nat.reduceLeDiff, Nat.reduceMul, Int.reduceLT, Int.reduceLE, Int.reduceAdd, Int.reduceSub, Int.reduceMul, Int.reduceNeg, Int.reduceToNat, Int.reduceEq, h3, s.h4, s.h5, s.h6, h7, h8, h10, h12, b7, b8, if_true]
    refine callK_same (k19 _ _ k x.v _ l1 rd7) ?_
    rw [ha1]
    simp only [go_sem, reduceCtorEq, reduceIte, Nat.reduceEqDiff, Nat.reduceAdd, Nat.reduceLeDiff, Nat.reduceMul, Int.reduceLT, Int.reduceLE, Int.reduceAdd, Int.reduceSub, Int.reduceMul, Int.reduceNeg, Int.reduceToNat, Int.reduceEq, h3, s.h4, s.h5, s.h6, h7, h8, h10, h12, b7, b8]
    refine callK_same (k19 _ _ k y.v _ l2 rd8) ?_
    rw [ha2]
    simp only [go_sem, reduceCtorEq, reduceIte, Nat.reduceEqDiff, Nat.reduceAdd, Nat.reduceLeDiff, Nat.reduceMul, Int.reduceLT, Int.reduceLE, Int.reduceAdd, Int.reduceSub, Int.reduceMul, Int.reduceNeg, Int.reduceToNat, Int.reduceEq, h3, s.h4, s.h5, s.h6, h7, h8, h10, h12, b7, b8]
    refine callK_same (k17 _ _ 0) ?_
    simp only [go_sem, reduceCtorEq, reduceIte, Nat.reduceEqDiff, Nat.reduceAdd, Nat.reduceLeDiff, Nat.reduceMul, Int.reduceLT, Int.reduceLE, Int.reduceAdd, Int.reduceSub, Int.reduceMul, Int.reduceNeg, Int.reduceToNat, Int.reduceEq, h3, s.h4, s.h5, s.h6, h7, h8, h10, h12]
    refine callK_same (k17 _ _ 0) ?_
    simp only [go_sem, reduceCtorEq, reduceIte, Nat.reduceEqDiff, Nat.reduceAdd, Nat.reduceLeDiff, Nat.reduceMul, Int.reduceLT, Int.reduceLE, Int.reduceAdd, Int.reduceSub, Int.reduceMul, Int.reduceNeg, Int.reduceToNat, Int.reduceEq, h3, s.h4, s.h5, s.h6, h7, h8, h10, h12]
    refine callK_same (k17 _ _ 0) ?_
    simp only [go_sem, reduceCtorEq, reduceIte, Nat.reduceEqDiff, Nat.reduceAdd, Nat.reduceLeDiff, Nat.reduceMul, Int.reduceLT, Int.reduceLE, Int.reduceAdd, Int.reduceSub, Int.reduceMul, Int.reduceNeg, Int.reduceToNat, Int.reduceEq, h3, s.h4, s.h5, s.h6, h7, h8, b7, hil, hi0, Int.toNat_natCast, hb, d1, d2]
    refine callK_same (k32 _ _ x.v x.v _ _ l1 l1 rd7 hxr) ?_
    simp only [go_sem, reduceCtorEq, reduceIte, Nat.reduceEqDiff, Nat.reduceAdd, Nat.reduceLeDiff, Nat.reduceMul, Int.reduceLT, Int.reduceLE, Int.reduceAdd, Int.reduceSub, Int.reduceMul, Int.reduceNeg, Int.reduceToNat, Int.reduceEq, h3, s.h4, s.h5, s.h6, h7, h8, b8, hjl, hj0, Int.toNat_natCast, hb, d3, d4]
    refine callK_same (k32 _ _ y.v y.v _ _ l2 l2 rd8 hyr) ?_
    simp only [go_sem, reduceCtorEq, reduceIte, Nat.reduceEqDiff, Nat.reduceAdd, Nat.reduceLeDiff, Nat.reduceMul, Int.reduceLT, Int.reduceLE, Int.reduceAdd, Int.reduceSub, Int.reduceMul, Int.reduceNeg, Int.reduceToNat, Int.reduceEq, h3, s.h4, s.h5, s.h6, h7, h8]
    exact ⟨s'.ext (by simp only [go_sem, reduceCtorEq, reduceIte, Nat.reduceEqDiff, Nat.reduceAdd, Nat.reduceLeDiff, Nat.reduceMul, Int.reduceLT, Int.reduceLE, Int.reduceAdd, Int.reduceSub, Int.reduceMul, Int.reduceNeg, Int.reduceToNat, Int.reduceEq, s.h3, e]) (by simp only [go_sem, reduceCtorEq, reduceIte, Nat.reduceEqDiff, Nat.reduceAdd, Nat.reduceLeDiff, Nat.reduceMul, Int.reduceLT, Int.reduceLE, Int.reduceAdd, Int.reduceSub, Int.reduceMul, Int.reduceNeg, Int.reduceToNat, Int.reduceEq]) (by simp only [go_sem, reduceCtorEq, reduceIte, Nat.reduceEqDiff, Nat.reduceAdd, Nat.reduceLeDiff, Nat.reduceMul, Int.reduceLT, Int.reduceLE, Int.reduceAdd, Int.reduceSub, Int.reduceMul, Int.reduceNeg, Int.reduceToNat, Int.reduceEq]) (by simp only [go_sem, reduceCtorEq, reduceIte, Nat.reduceEqDiff, Nat.reduceAdd, Nat.reduceLeDiff, Nat.reduceMul, Int.reduceLT, Int.reduceLE, Int.reduceAdd, Int.reduceSub, Int.reduceMul, Int.reduceNeg, Int.reduceToNat, Int.reduceEq]) (by simp only [go_sem, reduceCtorEq, reduceIte, Nat.reduceEqDiff, Nat.reduceAdd, Nat.reduceLeDiff, Nat.reduceMul, Int.reduceLT, Int.reduceLE, Int.reduceAdd, Int.reduceSub, Int.reduceMul, Int.reduceNeg, Int.reduceToNat, Int.reduceEq, h7]) (by simp only [go_sem, reduceCtorEq, reduceIte, Nat.reduceEqDiff, Nat.reduceAdd, Nat.reduceLeDiff, Nat.reduceMul, Int.reduceLT, Int.reduceLE, Int.reduceAdd, Int.reduceSub, Int.reduceMul, Int.reduceNeg, Int.reduceToNat, Int.reduceEq, h8]) (by simp only [go_sem, reduceCtorEq, reduceIte, Nat.reduceEqDiff, Nat.reduceAdd, Nat.reduceLeDiff, Nat.reduceMul, Int.reduceLT, Int.reduceLE, Int.reduceAdd, Int.reduceSub, Int.reduceMul, Int.reduceNeg, Int.reduceToNat, Int.reduceEq]) (by simp only [go_sem, reduceCtorEq, reduceIte, Nat.reduceEqDiff, Nat.reduceAdd, Nat.reduceLeDiff, Nat.reduceMul, Int.reduceLT, Int.reduceLE, Int.reduceAdd, Int.reduceSub, Int.reduceMul, Int.reduceNeg, Int.reduceToNat, Int.reduceEq]), by simp only [go_sem, reduceCtorEq, reduceIte, Nat.reduceEqDiff, Nat.reduceAdd, Nat.reduceLeDiff, Nat.reduceMul, Int.reduceLT, Int.reduceLE, Int.reduceAdd, Int.reduceSub, Int.reduceMul, Int.reduceNeg, Int.reduceToNat, Int.reduceEq]⟩
  clear h10 h12
  clear s
  rintro σ F M s
  obtain rfl := s.ff
  refine cut (P6 (fzOf W) sx X k i j x.v l1 y.v l2 v9 l9 v11 l11) ?_ ?_
  · obtain ⟨r7, a7, n7, c7, h7, f7, rd7⟩ := s.s7
    obtain ⟨r8, a8, n8, c8, h8, f8, rd8⟩ := s.s8
    obtain ⟨r9, a9, n9, c9, h9, f9, rd9⟩ := s.s9
    obtain ⟨r11, a11, n11, c11, h11, f11, rd11⟩ := s.s11
    have b7 := blk_M (F := fzOf W) f7
    have b8 := blk_M (F := fzOf W) f8
    have b9 := blk_M (F := fzOf W) f9
    have b11 := blk_M (F := fzOf W) f11
    simp only [go_sem, reduceCtorEq, reduceIte, Nat.reduceEqDiff, Nat.reduceAdd, Nat.reduceLeDiff, Nat.reduceMul, Int.reduceLT, Int.reduceLE, Int.reduceAdd, Int.reduceSub, Int.reduceMul, Int.reduceNeg, Int.reduceToNat, Int.reduceEq, s.h3, s.h4, s.h5, s.h6, h7, h8, h9, h11, b7, b8, b9, b11]
    refine callK_same (k19 _ _ k v9 _ l9 rd9) ?_
    rw [s.both.may]
    simp only [go_sem, reduceCtorEq, reduceIte, Nat.reduceEqDiff, Nat.reduceAdd, Nat.reduceLeDiff, Nat.reduceMul, Int.reduceLT, Int.reduceLE, Int.reduceAdd, Int.reduceSub, Int.reduceMul, Int.reduceNeg, Int.reduceToNat, Int.reduceEq, s.h3, s.h4, s.h5, s.h6, h7, h8, h9, h11, b7, b8, b9, b11]
    refine callK_same (k19 _ _ k v11 _ l11 rd11) ?_
    rw [s.cross.may]
    simp only [go_sem, reduceCtorEq, reduceIte, Nat.reduceEqDiff, Nat.reduceAdd, Nat.reduceLeDiff, Nat.reduceMul, Int.reduceLT, Int.reduceLE, Int.reduceAdd, Int.reduceSub, Int.reduceMul, Int.reduceNeg, Int.reduceToNat, Int.reduceEq, s.h3, s.h4, s.h5, s.h6, h7, h8, h9, h11, b7, b8, b9, b11]
    refine callK_same (k52 _ _ k x.v v9 _ _ l1 l9 i rd7 rd9 s.old ha1 s.both.left) ?_
    simp only [go_sem, reduceCtorEq, reduceIte, Nat.reduceEqDiff, Nat.reduceAdd, Nat.reduceLeDiff, Nat.reduceMul, Int.reduceLT, Int.reduceLE, Int.reduceAdd, Int.reduceSub, Int.reduceMul, Int.reduceNeg, Int.reduceToNat, Int.reduceEq, s.h3, s.h4, s.h5, s.h6, h7, h8, h9, h11, b7, b8, b9, b11]
    refine callK_same (k52 _ _ k y.v v9 _ _ l2 l9 j rd8 rd9 s.old ha2 s.both.right) ?_
    simp only [go_sem, reduceCtorEq, reduceIte, Nat.reduceEqDiff, Nat.reduceAdd, Nat.reduceLeDiff, Nat.reduceMul, Int.reduceLT, Int.reduceLE, Int.reduceAdd, Int.reduceSub, Int.reduceMul, Int.reduceNeg, Int.reduceToNat, Int.reduceEq, s.h3, s.h4, s.h5, s.h6, h7, h8, h9, h11, b7, b8, b9, b11]
    refine callK_same (k52 _ _ k v11 x.v _ _ l11 l1 j rd11 rd7 s.old s.cross.may s.cross.left) ?_
    simp only [go_sem, reduceCtorEq, reduceIte, Nat.reduceEqDiff, Nat.reduceAdd, Nat.reduceLeDiff, Nat.reduceMul, Int.reduceLT, Int.reduceLE, Int.reduceAdd, Int.reduceSub, Int.reduceMul, Int.reduceNeg, Int.reduceToNat, Int.reduceEq, s.h3, s.h4, s.h5, s.h6, h7, h8, h9, h11]
    exact s.ext (by simp only [go_sem, reduceCtorEq, reduceIte, Nat.reduceEqDiff, Nat.reduceAdd, Nat.reduceLeDiff, Nat.reduceMul, Int.reduceLT, Int.reduceLE, Int.reduceAdd, Int.reduceSub, Int.reduceMul, Int.reduceNeg, Int.reduceToNat, Int.reduceEq]) (by simp only [go_sem, reduceCtorEq, reduceIte, Nat.reduceEqDiff, Nat.reduceAdd, Nat.reduceLeDiff, Nat.reduceMul, Int.reduceLT, Int.reduceLE, Int.reduceAdd, Int.reduceSub, Int.reduceMul, Int.reduceNeg, Int.reduceToNat, Int.reduceEq]) (by simp only [go_sem, reduceCtorEq, reduceIte, Nat.reduceEqDiff, Nat.reduceAdd, Nat.reduceLeDiff, Nat.reduceMul, Int.reduceLT, Int.reduceLE, Int.reduceAdd, Int.reduceSub, Int.reduceMul, Int.reduceNeg, Int.reduceToNat, Int.reduceEq]) (by simp only [go_sem, reduceCtorEq, reduceIte, Nat.reduceEqDiff, Nat.reduceAdd, Nat.reduceLeDiff, Nat.reduceMul, Int.reduceLT, Int.reduceLE, Int.reduceAdd, Int.reduceSub, Int.reduceMul, Int.reduceNeg, Int.reduceToNat, Int.reduceEq]) (by simp only [go_sem, reduceCtorEq, reduceIte, Nat.reduceEqDiff, Nat.reduceAdd, Nat.reduceLeDiff, Nat.reduceMul, Int.reduceLT, Int.reduceLE, Int.reduceAdd, Int.reduceSub, Int.reduceMul, Int.reduceNeg, Int.reduceToNat, Int.reduceEq, h7]) (by simp only [go_sem, reduceCtorEq, reduceIte, Nat.reduceEqDiff, Nat.reduceAdd, Nat.reduceLeDiff, Nat.reduceMul, Int.reduceLT, Int.reduceLE, Int.reduceAdd, Int.reduceSub, Int.reduceMul, Int.reduceNeg, Int.reduceToNat, Int.reduceEq, h8]) (by simp only [go_sem, reduceCtorEq, reduceIte, Nat.reduceEqDiff, Nat.reduceAdd, Nat.reduceLeDiff, Nat.reduceMul, Int.reduceLT, Int.reduceLE, Int.reduceAdd, Int.reduceSub, Int.reduceMul, Int.reduceNeg, Int.reduceToNat, Int.reduceEq, h9]) (by simp only [go_sem, reduceCtorEq, reduceIte, Nat.reduceEqDiff, Nat.reduceAdd, Nat.reduceLeDiff, Nat.reduceMul, Int.reduceLT, Int.reduceLE, Int.reduceAdd, Int.reduceSub, Int.reduceMul, Int.reduceNeg, Int.reduceToNat, Int.reduceEq, h11]) (by simp only [go_sem, reduceCtorEq, reduceIte, Nat.reduceEqDiff, Nat.reduceAdd, Nat.reduceLeDiff, Nat.reduceMul, Int.reduceLT, Int.reduceLE, Int.reduceAdd, Int.reduceSub, Int.reduceMul, Int.reduceNeg, Int.reduceToNat, Int.reduceEq, s.h13])
  clear s
  rintro σ F M s
  obtain rfl := s.ff
  rw [seq_assoc]
  refine cut (P6 (fzOf W) sx X k i j x.v l1 y.v l2 v9 l9 v11 l11) ?_ ?_
  · obtain ⟨r7, a7, n7, c7, h7, f7, rd7⟩ := s.s7
    have b7 := blk_M (F := fzOf W) f7
    have eij : IntKind.i64.wrap ((i : Int) + j) = i + j := w64 (by omega) (by omega)
    simp only [go_sem, reduceCtorEq, reduceIte, Nat.reduceEqDiff, Nat.reduceAdd, Nat.reduceLeDiff, Nat.reduceMul, Int.reduceLT, Int.reduceLE, Int.reduceAdd, Int.reduceSub, Int.reduceMul, Int.reduceNeg, Int.reduceToNat, Int.reduceEq, s.h3, s.h4, s.h5, s.h6, h7, b7, eij]
    refine callK_of (k54 _ _ k x.v _ l1 (i + j) rd7 s.old ha1) ?_
    rintro w G M1 ⟨m, hml, hmm, hr⟩
    obtain ⟨hG, le, kq, oq, aq, cq, rfl, rdq⟩ := hr.le (f := Sc.cs) (fun x => rfl) (by omega)
    rw [hG]
    refine ⟨(fun h => by cases h), ?_⟩
    simp only [go_sem, reduceCtorEq, reduceIte, Nat.reduceEqDiff, Nat.reduceAdd, Nat.reduceLeDiff, Nat.reduceMul, Int.reduceLT, Int.reduceLE, Int.reduceAdd, Int.reduceSub, Int.reduceMul, Int.reduceNeg, Int.reduceToNat, Int.reduceEq, s.h3, s.h4, s.h5, s.h6, h7]
    refine loop_of (T6 (fzOf W) sx X k i j x.v l1 y.v l2 v9 l9 v11 l11 m (.slice aq m.length cq)) m.length ?_ ?_
    · exact ⟨(s.grow kq (oq s.old)).ext (by simp only [go_sem, reduceCtorEq, reduceIte, Nat.reduceEqDiff, Nat.reduceAdd, Nat.reduceLeDiff, Nat.reduceMul, Int.reduceLT, Int.reduceLE, Int.reduceAdd, Int.reduceSub, Int.reduceMul, Int.reduceNeg, Int.reduceToNat, Int.reduceEq]) (by simp only [go_sem, reduceCtorEq, reduceIte, Nat.reduceEqDiff, Nat.reduceAdd, Nat.reduceLeDiff, Nat.reduceMul, Int.reduceLT, Int.reduceLE, Int.reduceAdd, Int.reduceSub, Int.reduceMul, Int.reduceNeg, Int.reduceToNat, Int.reduceEq]) (by simp only [go_sem, reduceCtorEq, reduceIte, Nat.reduceEqDiff, Nat.reduceAdd, Nat.reduceLeDiff, Nat.reduceMul, Int.reduceLT, Int.reduceLE, Int.reduceAdd, Int.reduceSub, Int.reduceMul, Int.reduceNeg, Int.reduceToNat, Int.reduceEq]) (by simp only [go_sem, reduceCtorEq, reduceIte, Nat.reduceEqDiff, Nat.reduceAdd, Nat.reduceLeDiff, Nat.reduceMul, Int.reduceLT, Int.reduceLE, Int.reduceAdd, Int.reduceSub, Int.reduceMul, Int.reduceNeg, Int.reduceToNat, Int.reduceEq]) (by simp only [go_sem, reduceCtorEq, reduceIte, Nat.reduceEqDiff, Nat.reduceAdd, Nat.reduceLeDiff, Nat.reduceMul, Int.reduceLT, Int.reduceLE, Int.reduceAdd, Int.reduceSub, Int.reduceMul, Int.reduceNeg, Int.reduceToNat, Int.reduceEq, h7]) (by simp only [go_sem, reduceCtorEq, reduceIte, Nat.reduceEqDiff, Nat.reduceAdd, Nat.reduceLeDiff, Nat.reduceMul, Int.reduceLT, Int.reduceLE, Int.reduceAdd, Int.reduceSub, Int.reduceMul, Int.reduceNeg, Int.reduceToNat, Int.reduceEq]) (by simp only [go_sem, reduceCtorEq, reduceIte, Nat.reduceEqDiff, Nat.reduceAdd, Nat.reduceLeDiff, Nat.reduceMul, Int.reduceLT, Int.reduceLE, Int.reduceAdd, Int.reduceSub, Int.reduceMul, Int.reduceNeg, Int.reduceToNat, Int.reduceEq]) (by simp only [go_sem, reduceCtorEq, reduceIte, Nat.reduceEqDiff, Nat.reduceAdd, Nat.reduceLeDiff, Nat.reduceMul, Int.reduceLT, Int.reduceLE, Int.reduceAdd, Int.reduceSub, Int.reduceMul, Int.reduceNeg, Int.reduceToNat, Int.reduceEq]) (by simp only [go_sem, reduceCtorEq, reduceIte, Nat.reduceEqDiff, Nat.reduceAdd, Nat.reduceLeDiff, Nat.reduceMul, Int.reduceLT, Int.reduceLE, Int.reduceAdd, Int.reduceSub, Int.reduceMul, Int.reduceNeg, Int.reduceToNat, Int.reduceEq]), by simp only [go_sem, reduceCtorEq, reduceIte, Nat.reduceEqDiff, Nat.reduceAdd, Nat.reduceLeDiff, Nat.reduceMul, Int.reduceLT, Int.reduceLE, Int.reduceAdd, Int.reduceSub, Int.reduceMul, Int.reduceNeg, Int.reduceToNat, Int.reduceEq], rdq, 0, by omega, by simp only [go_sem, reduceCtorEq, reduceIte, Nat.reduceEqDiff, Nat.reduceAdd, Nat.reduceLeDiff, Nat.reduceMul, Int.reduceLT, Int.reduceLE, Int.reduceAdd, Int.reduceSub, Int.reduceMul, Int.reduceNeg, Int.reduceToNat, Int.reduceEq] <;> rfl⟩
    clear rdq oq kq le hr hG b7 rd7 f7 h7
    clear s
    rintro n σ F M ⟨s, h16, rdq, p, hp, h17⟩
    obtain rfl := s.ff
    by_cases hpl : (p : Int) < m.length
    rotate_left
    · simp only [go_sem, reduceCtorEq, reduceIte, Nat.reduceEqDiff, Nat.reduceAdd, Nat.reduceLeDiff, Nat.reduceMul, Int.reduceLT, Int.reduceLE, Int.reduceAdd, Int.reduceSub, Int.reduceMul, Int.reduceNeg, Int.reduceToNat, Int.reduceEq, s.h3, s.h4, s.h5, s.h6, s.h13, h16, h17, hpl]
      exact s.ext (by simp only [go_sem, reduceCtorEq, reduceIte, Nat.reduceEqDiff, Nat.reduceAdd, Nat.reduceLeDiff, Nat.reduceMul, Int.reduceLT, Int.reduceLE, Int.reduceAdd, Int.reduceSub, Int.reduceMul, Int.reduceNeg, Int.reduceToNat, Int.reduceEq]) (by simp only [go_sem, reduceCtorEq, reduceIte, Nat.reduceEqDiff, Nat.reduceAdd, Nat.reduceLeDiff, Nat.reduceMul, Int.reduceLT, Int.reduceLE, Int.reduceAdd, Int.reduceSub, Int.reduceMul, Int.reduceNeg, Int.reduceToNat, Int.reduceEq]) (by simp only [go_sem, reduceCtorEq, reduceIte, Nat.reduceEqDiff, Nat.reduceAdd, Nat.reduceLeDiff, Nat.reduceMul, Int.reduceLT, Int.reduceLE, Int.reduceAdd, Int.reduceSub, Int.reduceMul, Int.reduceNeg, Int.reduceToNat, Int.reduceEq]) (by simp only [go_sem, reduceCtorEq, reduceIte, Nat.reduceEqDiff, Nat.reduceAdd, Nat.reduceLeDiff, Nat.reduceMul, Int.reduceLT, Int.reduceLE, Int.reduceAdd, Int.reduceSub, Int.reduceMul, Int.reduceNeg, Int.reduceToNat, Int.reduceEq]) (by simp only [go_sem, reduceCtorEq, reduceIte, Nat.reduceEqDiff, Nat.reduceAdd, Nat.reduceLeDiff, Nat.reduceMul, Int.reduceLT, Int.reduceLE, Int.reduceAdd, Int.reduceSub, Int.reduceMul, Int.reduceNeg, Int.reduceToNat, Int.reduceEq]) (by simp only [go_sem, reduceCtorEq, reduceIte, Nat.reduceEqDiff, Nat.reduceAdd, Nat.reduceLeDiff, Nat.reduceMul, Int.reduceLT, Int.reduceLE, Int.reduceAdd, Int.reduceSub, Int.reduceMul, Int.reduceNeg, Int.reduceToNat, Int.reduceEq]) (by simp only [go_sem, reduceCtorEq, reduceIte, Nat.reduceEqDiff, Nat.reduceAdd, Nat.reduceLeDiff, Nat.reduceMul, Int.reduceLT, Int.reduceLE, Int.reduceAdd, Int.reduceSub, Int.reduceMul, Int.reduceNeg, Int.reduceToNat, Int.reduceEq]) (by simp only [go_sem, reduceCtorEq, reduceIte, Nat.reduceEqDiff, Nat.reduceAdd, Nat.reduceLeDiff, Nat.reduceMul, Int.reduceLT, Int.reduceLE, Int.reduceAdd, Int.reduceSub, Int.reduceMul, Int.reduceNeg, Int.reduceToNat, Int.reduceEq]) (by simp only [go_sem, reduceCtorEq, reduceIte, Nat.reduceEqDiff, Nat.reduceAdd, Nat.reduceLeDiff, Nat.reduceMul, Int.reduceLT, Int.reduceLE, Int.reduceAdd, Int.reduceSub, Int.reduceMul, Int.reduceNeg, Int.reduceToNat, Int.reduceEq])
    have hp0 : (0 : Int) ≤ p := by omega
    have hpl' : p < m.length := by omega
    have ep : IntKind.i64.wrap ((p : Int) + 1) = p + 1 := w64 (by omega) (by omega)
    obtain ⟨b, o, cap, cs, eu, hb, d1, d2, _⟩ := sc_at rdq hpl'
    have h16' := h16
    rw [eu] at h16'
    have hmem := hmm m[p] (List.getElem_mem _)
    generalize m[p] = q at *
    obtain ⟨r8, a8, n8, c8, h8, f8, rd8⟩ := s.s8
    obtain ⟨r11, a11, n11, c11, h11, f11, rd11⟩ := s.s11
    have b8 := blk_M (F := fzOf W) f8
    have b11 := blk_M (F := fzOf W) f11
    have fin : ∀ σ', Ax.look σ' 3 = Ax.look σ 3 → Ax.look σ' 4 = Ax.look σ 4 → Ax.look σ' 5 = Ax.look σ 5 → Ax.look σ' 6 = Ax.look σ 6 → Ax.look σ' 7 = Ax.look σ 7 → Ax.look σ' 8 = Ax.look σ 8 → Ax.look σ' 9 = Ax.look σ 9 → Ax.look σ' 11 = Ax.look σ 11 → Ax.look σ' 13 = Ax.look σ 13 → Ax.look σ' 16 = Ax.look σ 16 → Ax.look σ' 17 = some (.int .i64 (p + 1)) →
        ∃ n', n' < n ∧ T6 (fzOf W) sx X k i j x.v l1 y.v l2 v9 l9 v11 l11 m (.slice aq m.length cq) n' σ' (fzOf W) M := fun σ' e3 e4 e5 e6 e7 e8 e9 e11 e13 e16 e17 =>
      ⟨n - 1, by omega, s.ext e3 e4 e5 e6 e7 e8 e9 e11 e13, e16.trans h16, rdq, p + 1, by omega, e17⟩
    simp only [go_sem, reduceCtorEq, reduceIte, Nat.reduceEqDiff, Nat.reduceAdd, Nat.reduceLeDiff, Nat.reduceMul, Int.reduceLT, Int.reduceLE, Int.reduceAdd, Int.reduceSub, Int.reduceMul, Int.reduceNeg, Int.reduceToNat, Int.reduceEq, s.h3, s.h4, s.h5, s.h6, s.h13, h8, h11, h16', h17, hpl, hp0, Int.toNat_natCast, hb, d1, d2, b8, b11]
    refine callK_same (k23 _ _ k y.v _ l2 q rd8) ?_
    cases hh : hasB k y.v l2 q
    · have hun : underB k x.v l1 y.v l2 = false := by
        cases hu : underB k x.v l1 y.v l2
        · rfl
        · rw [under_has ha1 ha2 hu hmem] at hh; cases hh
      have h13 := s.h13
      rw [hun] at h13
      simp only [go_sem, reduceCtorEq, reduceIte, Nat.reduceEqDiff, Nat.reduceAdd, Nat.reduceLeDiff, Nat.reduceMul, Int.reduceLT, Int.reduceLE, Int.reduceAdd, Int.reduceSub, Int.reduceMul, Int.reduceNeg, Int.reduceToNat, Int.reduceEq, s.h3, s.h4, s.h5, s.h6, h13, h8, h11, h16', h17, ep]
      exact fin _ (by simp only [go_sem, reduceCtorEq, reduceIte, Nat.reduceEqDiff, Nat.reduceAdd, Nat.reduceLeDiff, Nat.reduceMul, Int.reduceLT, Int.reduceLE, Int.reduceAdd, Int.reduceSub, Int.reduceMul, Int.reduceNeg, Int.reduceToNat, Int.reduceEq]) (by simp only [go_sem, reduceCtorEq, reduceIte, Nat.reduceEqDiff, Nat.reduceAdd, Nat.reduceLeDiff, Nat.reduceMul, Int.reduceLT, Int.reduceLE, Int.reduceAdd, Int.reduceSub, Int.reduceMul, Int.reduceNeg, Int.reduceToNat, Int.reduceEq]) (by simp only [go_sem, reduceCtorEq, reduceIte, Nat.reduceEqDiff, Nat.reduceAdd, Nat.reduceLeDiff, Nat.reduceMul, Int.reduceLT, Int.reduceLE, Int.reduceAdd, Int.reduceSub, Int.reduceMul, Int.reduceNeg, Int.reduceToNat, Int.reduceEq]) (by simp only [go_sem, reduceCtorEq, reduceIte, Nat.reduceEqDiff, Nat.reduceAdd, Nat.reduceLeDiff, Nat.reduceMul, Int.reduceLT, Int.reduceLE, Int.reduceAdd, Int.reduceSub, Int.reduceMul, Int.reduceNeg, Int.reduceToNat, Int.reduceEq]) (by simp only [go_sem, reduceCtorEq, reduceIte, Nat.reduceEqDiff, Nat.reduceAdd, Nat.reduceLeDiff, Nat.reduceMul, Int.reduceLT, Int.reduceLE, Int.reduceAdd, Int.reduceSub, Int.reduceMul, Int.reduceNeg, Int.reduceToNat, Int.reduceEq]) (by simp only [go_sem, reduceCtorEq, reduceIte, Nat.reduceEqDiff, Nat.reduceAdd, Nat.reduceLeDiff, Nat.reduceMul, Int.reduceLT, Int.reduceLE, Int.reduceAdd, Int.reduceSub, Int.reduceMul, Int.reduceNeg, Int.reduceToNat, Int.reduceEq, h8]) (by simp only [go_sem, reduceCtorEq, reduceIte, Nat.reduceEqDiff, Nat.reduceAdd, Nat.reduceLeDiff, Nat.reduceMul, Int.reduceLT, Int.reduceLE, Int.reduceAdd, Int.reduceSub, Int.reduceMul, Int.reduceNeg, Int.reduceToNat, Int.reduceEq]) (by simp only [go_sem, reduceCtorEq, reduceIte, Nat.reduceEqDiff, Nat.reduceAdd, Nat.reduceLeDiff, Nat.reduceMul, Int.reduceLT, Int.reduceLE, Int.reduceAdd, Int.reduceSub, Int.reduceMul, Int.reduceNeg, Int.reduceToNat, Int.reduceEq, h11]) (by simp only [go_sem, reduceCtorEq, reduceIte, Nat.reduceEqDiff, Nat.reduceAdd, Nat.reduceLeDiff, Nat.reduceMul, Int.reduceLT, Int.reduceLE, Int.reduceAdd, Int.reduceSub, Int.reduceMul, Int.reduceNeg, Int.reduceToNat, Int.reduceEq, h13, s.h13]) (by simp only [go_sem, reduceCtorEq, reduceIte, Nat.reduceEqDiff, Nat.reduceAdd, Nat.reduceLeDiff, Nat.reduceMul, Int.reduceLT, Int.reduceLE, Int.reduceAdd, Int.reduceSub, Int.reduceMul, Int.reduceNeg, Int.reduceToNat, Int.reduceEq, h16', h16]) (by simp only [go_sem, reduceCtorEq, reduceIte, Nat.reduceEqDiff, Nat.reduceAdd, Nat.reduceLeDiff, Nat.reduceMul, Int.reduceLT, Int.reduceLE, Int.reduceAdd, Int.reduceSub, Int.reduceMul, Int.reduceNeg, Int.reduceToNat, Int.reduceEq])
    · have hin := s.cross.both q hmem hh
      simp only [go_sem, reduceCtorEq, reduceIte, Nat.reduceEqDiff, Nat.reduceAdd, Nat.reduceLeDiff, Nat.reduceMul, Int.reduceLT, Int.reduceLE, Int.reduceAdd, Int.reduceSub, Int.reduceMul, Int.reduceNeg, Int.reduceToNat, Int.reduceEq, s.h3, s.h4, s.h5, s.h6, s.h13, h8, h11, h16', h17, hpl, hp0, Int.toNat_natCast, hb, d1, d2, b8, b11]
      refine callK_same (k23 _ _ k v11 _ l11 q rd11) ?_
      rw [hin]
      simp only [go_sem, reduceCtorEq, reduceIte, Nat.reduceEqDiff, Nat.reduceAdd, Nat.reduceLeDiff, Nat.reduceMul, Int.reduceLT, Int.reduceLE, Int.reduceAdd, Int.reduceSub, Int.reduceMul, Int.reduceNeg, Int.reduceToNat, Int.reduceEq, s.h3, s.h4, s.h5, s.h6, s.h13, h8, h11, h16', h17, hpl, hp0, Int.toNat_natCast, hb, d1, d2, b8, b11]
      cases hu : underB k x.v l1 y.v l2
      · simp only [go_sem, reduceCtorEq, reduceIte, Nat.reduceEqDiff, Nat.reduceAdd, Nat.reduceLeDiff, Nat.reduceMul, Int.reduceLT, Int.reduceLE, Int.reduceAdd, Int.reduceSub, Int.reduceMul, Int.reduceNeg, Int.reduceToNat, Int.reduceEq, s.h3, s.h4, s.h5, s.h6, s.h13, h8, h11, h16', h17, ep]
        exact fin _ (by simp only [go_sem, reduceCtorEq, reduceIte, Nat.reduceEqDiff, Nat.reduceAdd, Nat.reduceLeDiff, Nat.reduceMul, Int.reduceLT, Int.reduceLE, Int.reduceAdd, Int.reduceSub, Int.reduceMul, Int.reduceNeg, Int.reduceToNat, Int.reduceEq]) (by simp only [go_sem, reduceCtorEq, reduceIte, Nat.reduceEqDiff, Nat.reduceAdd, Nat.reduceLeDiff, Nat.reduceMul, Int.reduceLT, Int.reduceLE, Int.reduceAdd, Int.reduceSub, Int.reduceMul, Int.reduceNeg, Int.reduceToNat, Int.reduceEq]) (by simp only [go_sem, reduceCtorEq, reduceIte, Nat.reduceEqDiff, Nat.reduceAdd, Nat.reduceLeDiff, Nat.reduceMul, Int.reduceLT, Int.reduceLE, Int.reduceAdd, Int.reduceSub, Int.reduceMul, Int.reduceNeg, Int.reduceToNat, Int.reduceEq]) (by simp only [go_sem, reduceCtorEq, reduceIte, Nat.reduceEqDiff, Nat.reduceAdd, Nat.reduceLeDiff, Nat.reduceMul, Int.reduceLT, Int.reduceLE, Int.reduceAdd, Int.reduceSub, Int.reduceMul, Int.reduceNeg, Int.reduceToNat, Int.reduceEq]) (by simp only [go_sem, reduceCtorEq, reduceIte, Nat.reduceEqDiff, Nat.reduceAdd, Nat.reduceLeDiff, Nat.reduceMul, Int.reduceLT, Int.reduceLE, Int.reduceAdd, Int.reduceSub, Int.reduceMul, Int.reduceNeg, Int.reduceToNat, Int.reduceEq]) (by simp only [go_sem, reduceCtorEq, reduceIte, Nat.reduceEqDiff, Nat.reduceAdd, Nat.reduceLeDiff, Nat.reduceMul, Int.reduceLT, Int.reduceLE, Int.reduceAdd, Int.reduceSub, Int.reduceMul, Int.reduceNeg, Int.reduceToNat, Int.reduceEq, h8]) (by simp only [go_sem, reduceCtorEq, reduceIte, Nat.reduceEqDiff, Nat.reduceAdd, Nat.reduceLeDiff, Nat.reduceMul, Int.reduceLT, Int.reduceLE, Int.reduceAdd, Int.reduceSub, Int.reduceMul, Int.reduceNeg, Int.reduceToNat, Int.reduceEq]) (by simp only [go_sem, reduceCtorEq, reduceIte, Nat.reduceEqDiff, Nat.reduceAdd, Nat.reduceLeDiff, Nat.reduceMul, Int.reduceLT, Int.reduceLE, Int.reduceAdd, Int.reduceSub, Int.reduceMul, Int.reduceNeg, Int.reduceToNat, Int.reduceEq, h11]) (by simp only [go_sem, reduceCtorEq, reduceIte, Nat.reduceEqDiff, Nat.reduceAdd, Nat.reduceLeDiff, Nat.reduceMul, Int.reduceLT, Int.reduceLE, Int.reduceAdd, Int.reduceSub, Int.reduceMul, Int.reduceNeg, Int.reduceToNat, Int.reduceEq, s.h13]) (by simp only [go_sem, reduceCtorEq, reduceIte, Nat.reduceEqDiff, Nat.reduceAdd, Nat.reduceLeDiff, Nat.reduceMul, Int.reduceLT, Int.reduceLE, Int.reduceAdd, Int.reduceSub, Int.reduceMul, Int.reduceNeg, Int.reduceToNat, Int.reduceEq, h16', h16]) (by simp only [go_sem, reduceCtorEq, reduceIte, Nat.reduceEqDiff, Nat.reduceAdd, Nat.reduceLeDiff, Nat.reduceMul, Int.reduceLT, Int.reduceLE, Int.reduceAdd, Int.reduceSub, Int.reduceMul, Int.reduceNeg, Int.reduceToNat, Int.reduceEq])
      · simp only [go_sem, reduceCtorEq, reduceIte, Nat.reduceEqDiff, Nat.reduceAdd, Nat.reduceLeDiff, Nat.reduceMul, Int.reduceLT, Int.reduceLE, Int.reduceAdd, Int.reduceSub, Int.reduceMul, Int.reduceNeg, Int.reduceToNat, Int.reduceEq, s.h3, s.h4, s.h5, s.h6, s.h13, h8, h11, h16', h17, hpl, hp0, Int.toNat_natCast, hb, d1, d2, b8, b11]
        refine callK_same (k23 _ _ k y.v _ l2 q rd8) ?_
        rw [hh]
        simp only [go_sem, reduceCtorEq, reduceIte, Nat.reduceEqDiff, Nat.reduceAdd, Nat.reduceLeDiff, Nat.reduceMul, Int.reduceLT, Int.reduceLE, Int.reduceAdd, Int.reduceSub, Int.reduceMul, Int.reduceNeg, Int.reduceToNat, Int.reduceEq, s.h3, s.h4, s.h5, s.h6, s.h13, h8, h11, h16', h17, ep]
        exact fin _ (by simp only [go_sem, reduceCtorEq, reduceIte, Nat.reduceEqDiff, Nat.reduceAdd, Nat.reduceLeDiff, Nat.reduceMul, Int.reduceLT, Int.reduceLE, Int.reduceAdd, Int.reduceSub, Int.reduceMul, Int.reduceNeg, Int.reduceToNat, Int.reduceEq]) (by simp only [go_sem, reduceCtorEq, reduceIte, Nat.reduceEqDiff, Nat.reduceAdd, Nat.reduceLeDiff, Nat.reduceMul, Int.reduceLT, Int.reduceLE, Int.reduceAdd, Int.reduceSub, Int.reduceMul, Int.reduceNeg, Int.reduceToNat, Int.reduceEq]) (by simp only [go_sem, reduceCtorEq, reduceIte, Nat.reduceEqDiff, Nat.reduceAdd, Nat.reduceLeDiff, Nat.reduceMul, Int.reduceLT, Int.reduceLE, Int.reduceAdd, Int.reduceSub, Int.reduceMul, Int.reduceNeg, Int.reduceToNat, Int.reduceEq]) (by simp only [go_sem, reduceCtorEq, reduceIte, Nat.reduceEqDiff, Nat.reduceAdd, Nat.reduceLeDiff, Nat.reduceMul, Int.reduceLT, Int.reduceLE, Int.reduceAdd, Int.reduceSub, Int.reduceMul, Int.reduceNeg, Int.reduceToNat, Int.reduceEq]) (by simp only [go_sem, reduceCtorEq, reduceIte, Nat.reduceEqDiff, Nat.reduceAdd, Nat.reduceLeDiff, Nat.reduceMul, Int.reduceLT, Int.reduceLE, Int.reduceAdd, Int.reduceSub, Int.reduceMul, Int.reduceNeg, Int.reduceToNat, Int.reduceEq]) (by simp only [go_sem, reduceCtorEq, reduceIte, Nat.reduceEqDiff, Nat.reduceAdd, Nat.reduceLeDiff, Nat.reduceMul, Int.reduceLT, Int.reduceLE, Int.reduceAdd, Int.reduceSub, Int.reduceMul, Int.reduceNeg, Int.reduceToNat, Int.reduceEq, h8]) (by simp only [go_sem, reduceCtorEq, reduceIte, Nat.reduceEqDiff, Nat.reduceAdd, Nat.reduceLeDiff, Nat.reduceMul, Int.reduceLT, Int.reduceLE, Int.reduceAdd, Int.reduceSub, Int.reduceMul, Int.reduceNeg, Int.reduceToNat, Int.reduceEq]) (by simp only [go_sem, reduceCtorEq, reduceIte, Nat.reduceEqDiff, Nat.reduceAdd, Nat.reduceLeDiff, Nat.reduceMul, Int.reduceLT, Int.reduceLE, Int.reduceAdd, Int.reduceSub, Int.reduceMul, Int.reduceNeg, Int.reduceToNat, Int.reduceEq, h11]) (by simp only [go_sem, reduceCtorEq, reduceIte, Nat.reduceEqDiff, Nat.reduceAdd, Nat.reduceLeDiff, Nat.reduceMul, Int.reduceLT, Int.reduceLE, Int.reduceAdd, Int.reduceSub, Int.reduceMul, Int.reduceNeg, Int.reduceToNat, Int.reduceEq, s.h13]) (by simp only [go_sem, reduceCtorEq, reduceIte, Nat.reduceEqDiff, Nat.reduceAdd, Nat.reduceLeDiff, Nat.reduceMul, Int.reduceLT, Int.reduceLE, Int.reduceAdd, Int.reduceSub, Int.reduceMul, Int.reduceNeg, Int.reduceToNat, Int.reduceEq, h16', h16]) (by simp only [go_sem, reduceCtorEq, reduceIte, Nat.reduceEqDiff, Nat.reduceAdd, Nat.reduceLeDiff, Nat.reduceMul, Int.reduceLT, Int.reduceLE, Int.reduceAdd, Int.reduceSub, Int.reduceMul, Int.reduceNeg, Int.reduceToNat, Int.reduceEq])
  clear s
  rintro σ F M s
  obtain rfl := s.ff
  obtain ⟨r7, a7, n7, c7, h7, f7, rd7⟩ := s.s7
  obtain ⟨r8, a8, n8, c8, h8, f8, rd8⟩ := s.s8
  have b7 := blk_M (F := fzOf W) f7
  have hpre := abs_pre ha1
  simp only [go_sem, reduceCtorEq, reduceIte, Nat.reduceEqDiff, Nat.reduceAdd, Nat.reduceLeDiff, Nat.reduceMul, Int.reduceLT, Int.reduceLE, Int.reduceAdd, Int.reduceSub, Int.reduceMul, Int.reduceNeg, Int.reduceToNat, Int.reduceEq, s.h3, s.h4, s.h5, s.h6, s.h13, h7, h8, b7]
  refine callK_same (k18 _ _ k x.v _ l1 rd7 (by omega) (fun h => (hpre.2.1 h).1) (fun t ht => ⟨(hpre.2.2 t ht).1, (hpre.2.2 t ht).2.1, (hpre.2.2 t ht).2.2.1⟩)) ?_
  simp only [go_sem, reduceCtorEq, reduceIte, Nat.reduceEqDiff, Nat.reduceAdd, Nat.reduceLeDiff, Nat.reduceMul, Int.reduceLT, Int.reduceLE, Int.reduceAdd, Int.reduceSub, Int.reduceMul, Int.reduceNeg, Int.reduceToNat, Int.reduceEq, s.h3, s.h4, s.h5, s.h6, s.h13, h7, h8]
  intro r18 hF18 hM18
  have kp : ∀ e, Keep M (M.upd r18 e) := fun e => (Keep.refl M).new hM18
  have oo : ∀ e, Old (fzOf W) (M.upd r18 e) := fun e => s.old.upd hF18
  have bb7 : ∀ e, blk (fzOf W) (M.upd r18 e) r7 = _ := fun e => blk_M (kp e _ _ f7)
  have bb8 : ∀ e, blk (fzOf W) (M.upd r18 e) r8 = _ := fun e => blk_M (kp e _ _ f8)
  have q7 : ∀ e, RdG 7 Ba.cs (fzOf W) (M.upd r18 e) (.slice a7 n7 c7) l1 := fun e => rd7.keep (kp e) (oo e)
  have q8 : ∀ e, RdG 7 Ba.cs (fzOf W) (M.upd r18 e) (.slice a8 n8 c8) l2 := fun e => rd8.keep (kp e) (oo e)
  have fin : ∀ (e : Ent) (σ' : Env), Ax.look σ' 3 = some sx → Ax.look σ' 4 = some (.int .i64 k) → Ax.look σ' 5 = some (.int .i64 i) → Ax.look σ' 6 = some (.int .i64 j) → Q2 (fzOf W) sx X k i j σ' (fzOf W) (M.upd r18 e) :=
    fun e σ' e3 e4 e5 e6 => (s.toQ2.grow (kp e) (oo e)).ext (e3.trans s.h3.symm) (e4.trans s.h4.symm) (e5.trans s.h5.symm) (e6.trans s.h6.symm)
  simp only [go_sem, reduceCtorEq, reduceIte, Nat.reduceEqDiff, Nat.reduceAdd, Nat.reduceLeDiff, Nat.reduceMul, Int.reduceLT, Int.reduceLE, Int.reduceAdd, Int.reduceSub, Int.reduceMul, Int.reduceNeg, Int.reduceToNat, Int.reduceEq, s.h3, s.h4, s.h5, s.h6, s.h13, h7, h8, bb7, bb8]
  refine callK_same (k29 _ _ k x.v _ l1 (q7 _) ha1) ?_
  cases he : emptyB k x.v l1
  · simp only [go_sem, reduceCtorEq, reduceIte, Nat.reduceEqDiff, Nat.reduceAdd, Nat.reduceLeDiff, Nat.reduceMul, Int.reduceLT, Int.reduceLE, Int.reduceAdd, Int.reduceSub, Int.reduceMul, Int.reduceNeg, Int.reduceToNat, Int.reduceEq, s.h3, s.h4, s.h5, s.h6, s.h13, h7, h8, bb7, bb8]
    refine callK_same (k32 _ _ x.v y.v _ _ l1 l2 (q7 _) (q8 _)) ?_
    cases hq : (decide (x.v = y.v) && decide (l1 = l2))
    · cases ho : (onlyB k x.v l1).2
      · simp only [go_sem, reduceCtorEq, reduceIte, Nat.reduceEqDiff, Nat.reduceAdd, Nat.reduceLeDiff, Nat.reduceMul, Int.reduceLT, Int.reduceLE, Int.reduceAdd, Int.reduceSub, Int.reduceMul, Int.reduceNeg, Int.reduceToNat, Int.reduceEq, s.h3, s.h4, s.h5, s.h6, s.h13, h7, h8, bb7, bb8]
        exact fin _ _ (by simp only [go_sem, reduceCtorEq, reduceIte, Nat.reduceEqDiff, Nat.reduceAdd, Nat.reduceLeDiff, Nat.reduceMul, Int.reduceLT, Int.reduceLE, Int.reduceAdd, Int.reduceSub, Int.reduceMul, Int.reduceNeg, Int.reduceToNat, Int.reduceEq, s.h3]) (by simp only [go_sem, reduceCtorEq, reduceIte, Nat.reduceEqDiff, Nat.reduceAdd, Nat.reduceLeDiff, Nat.reduceMul, Int.reduceLT, Int.reduceLE, Int.reduceAdd, Int.reduceSub, Int.reduceMul, Int.reduceNeg, Int.reduceToNat, Int.reduceEq, s.h4]) (by simp only [go_sem, reduceCtorEq, reduceIte, Nat.reduceEqDiff, Nat.reduceAdd, Nat.reduceLeDiff, Nat.reduceMul, Int.reduceLT, Int.reduceLE, Int.reduceAdd, Int.reduceSub, Int.reduceMul, Int.reduceNeg, Int.reduceToNat, Int.reduceEq, s.h5]) (by simp only [go_sem, reduceCtorEq, reduceIte, Nat.reduceEqDiff, Nat.reduceAdd, Nat.reduceLeDiff, Nat.reduceMul, Int.reduceLT, Int.reduceLE, Int.reduceAdd, Int.reduceSub, Int.reduceMul, Int.reduceNeg, Int.reduceToNat, Int.reduceEq, s.h6])
      · simp only [go_sem, reduceCtorEq, reduceIte, Nat.reduceEqDiff, Nat.reduceAdd, Nat.reduceLeDiff, Nat.reduceMul, Int.reduceLT, Int.reduceLE, Int.reduceAdd, Int.reduceSub, Int.reduceMul, Int.reduceNeg, Int.reduceToNat, Int.reduceEq, s.h3, s.h4, s.h5, s.h6, s.h13, h7, h8, bb7, bb8]
        refine callK_same (k23 _ _ k y.v _ l2 (onlyB k x.v l1).1 (q8 _)) ?_
        cases hh : hasB k y.v l2 (onlyB k x.v l1).1
        · simp only [go_sem, reduceCtorEq, reduceIte, Nat.reduceEqDiff, Nat.reduceAdd, Nat.reduceLeDiff, Nat.reduceMul, Int.reduceLT, Int.reduceLE, Int.reduceAdd, Int.reduceSub, Int.reduceMul, Int.reduceNeg, Int.reduceToNat, Int.reduceEq, s.h3, s.h4, s.h5, s.h6, s.h13, h7, h8, bb7, bb8]
          exact fin _ _ (by simp only [go_sem, reduceCtorEq, reduceIte, Nat.reduceEqDiff, Nat.reduceAdd, Nat.reduceLeDiff, Nat.reduceMul, Int.reduceLT, Int.reduceLE, Int.reduceAdd, Int.reduceSub, Int.reduceMul, Int.reduceNeg, Int.reduceToNat, Int.reduceEq, s.h3]) (by simp only [go_sem, reduceCtorEq, reduceIte, Nat.reduceEqDiff, Nat.reduceAdd, Nat.reduceLeDiff, Nat.reduceMul, Int.reduceLT, Int.reduceLE, Int.reduceAdd, Int.reduceSub, Int.reduceMul, Int.reduceNeg, Int.reduceToNat, Int.reduceEq, s.h4]) (by simp only [go_sem, reduceCtorEq, reduceIte, Nat.reduceEqDiff, Nat.reduceAdd, Nat.reduceLeDiff, Nat.reduceMul, Int.reduceLT, Int.reduceLE, Int.reduceAdd, Int.reduceSub, Int.reduceMul, Int.reduceNeg, Int.reduceToNat, Int.reduceEq, s.h5]) (by simp only [go_sem, reduceCtorEq, reduceIte, Nat.reduceEqDiff, Nat.reduceAdd, Nat.reduceLeDiff, Nat.reduceMul, Int.reduceLT, Int.reduceLE, Int.reduceAdd, Int.reduceSub, Int.reduceMul, Int.reduceNeg, Int.reduceToNat, Int.reduceEq, s.h6])
        · have hun := under_true ha1 ha2 (.inr (.inr ⟨ho, hh⟩))
          have h13 := s.h13
          rw [hun] at h13
          simp only [go_sem, reduceCtorEq, reduceIte, Nat.reduceEqDiff, Nat.reduceAdd, Nat.reduceLeDiff, Nat.reduceMul, Int.reduceLT, Int.reduceLE, Int.reduceAdd, Int.reduceSub, Int.reduceMul, Int.reduceNeg, Int.reduceToNat, Int.reduceEq, s.h3, s.h4, s.h5, s.h6, h13, h7, h8, bb7, bb8, hun]
          exact fin _ _ (by simp only [go_sem, reduceCtorEq, reduceIte, Nat.reduceEqDiff, Nat.reduceAdd, Nat.reduceLeDiff, Nat.reduceMul, Int.reduceLT, Int.reduceLE, Int.reduceAdd, Int.reduceSub, Int.reduceMul, Int.reduceNeg, Int.reduceToNat, Int.reduceEq, s.h3]) (by simp only [go_sem, reduceCtorEq, reduceIte, Nat.reduceEqDiff, Nat.reduceAdd, Nat.reduceLeDiff, Nat.reduceMul, Int.reduceLT, Int.reduceLE, Int.reduceAdd, Int.reduceSub, Int.reduceMul, Int.reduceNeg, Int.reduceToNat, Int.reduceEq, s.h4]) (by simp only [go_sem, reduceCtorEq, reduceIte, Nat.reduceEqDiff, Nat.reduceAdd, Nat.reduceLeDiff, Nat.reduceMul, Int.reduceLT, Int.reduceLE, Int.reduceAdd, Int.reduceSub, Int.reduceMul, Int.reduceNeg, Int.reduceToNat, Int.reduceEq, s.h5]) (by simp only [go_sem, reduceCtorEq, reduceIte, Nat.reduceEqDiff, Nat.reduceAdd, Nat.reduceLeDiff, Nat.reduceMul, Int.reduceLT, Int.reduceLE, Int.reduceAdd, Int.reduceSub, Int.reduceMul, Int.reduceNeg, Int.reduceToNat, Int.reduceEq, s.h6])
    · have hun := under_true ha1 ha2 (.inr (.inl (by simpa using hq)))
      have h13 := s.h13
      rw [hun] at h13
      simp only [go_sem, reduceCtorEq, reduceIte, Nat.reduceEqDiff, Nat.reduceAdd, Nat.reduceLeDiff, Nat.reduceMul, Int.reduceLT, Int.reduceLE, Int.reduceAdd, Int.reduceSub, Int.reduceMul, Int.reduceNeg, Int.reduceToNat, Int.reduceEq, s.h3, s.h4, s.h5, s.h6, h13, h7, h8, bb7, bb8, hun]
      exact fin _ _ (by simp only [go_sem, reduceCtorEq, reduceIte, Nat.reduceEqDiff, Nat.reduceAdd, Nat.reduceLeDiff, Nat.reduceMul, Int.reduceLT, Int.reduceLE, Int.reduceAdd, Int.reduceSub, Int.reduceMul, Int.reduceNeg, Int.reduceToNat, Int.reduceEq, s.h3]) (by simp only [go_sem, reduceCtorEq, reduceIte, Nat.reduceEqDiff, Nat.reduceAdd, Nat.reduceLeDiff, Nat.reduceMul, Int.reduceLT, Int.reduceLE, Int.reduceAdd, Int.reduceSub, Int.reduceMul, Int.reduceNeg, Int.reduceToNat, Int.reduceEq, s.h4]) (by simp only [go_sem, reduceCtorEq, reduceIte, Nat.reduceEqDiff, Nat.reduceAdd, Nat.reduceLeDiff, Nat.reduceMul, Int.reduceLT, Int.reduceLE, Int.reduceAdd, Int.reduceSub, Int.reduceMul, Int.reduceNeg, Int.reduceToNat, Int.reduceEq, s.h5]) (by simp only [go_sem, reduceCtorEq, reduceIte, Nat.reduceEqDiff, Nat.reduceAdd, Nat.reduceLeDiff, Nat.reduceMul, Int.reduceLT, Int.reduceLE, Int.reduceAdd, Int.reduceSub, Int.reduceMul, Int.reduceNeg, Int.reduceToNat, Int.reduceEq, s.h6])
  · have hun := under_true ha1 ha2 (.inl he)
    have h13 := s.h13
    rw [hun] at h13
    simp only [go_sem, reduceCtorEq, reduceIte, Nat.reduceEqDiff, Nat.reduceAdd, Nat.reduceLeDiff, Nat.reduceMul, Int.reduceLT, Int.reduceLE, Int.reduceAdd, Int.reduceSub, Int.reduceMul, Int.reduceNeg, Int.reduceToNat, Int.reduceEq, s.h3, s.h4, s.h5, s.h6, h13, h7, h8, bb7, bb8, hun]
    exact fin _ _ (by simp only [go_sem, reduceCtorEq, reduceIte, Nat.reduceEqDiff, Nat.reduceAdd, Nat.reduceLeDiff, Nat.reduceMul, Int.reduceLT, Int.reduceLE, Int.reduceAdd, Int.reduceSub, Int.reduceMul, Int.reduceNeg, Int.reduceToNat, Int.reduceEq, s.h3]) (by simp only [go_sem, reduceCtorEq, reduceIte, Nat.reduceEqDiff, Nat.reduceAdd, Nat.reduceLeDiff, Nat.reduceMul, Int.reduceLT, Int.reduceLE, Int.reduceAdd, Int.reduceSub, Int.reduceMul, Int.reduceNeg, Int.reduceToNat, Int.reduceEq, s.h4]) (by simp only [go_sem, reduceCtorEq, reduceIte, Nat.reduceEqDiff, Nat.reduceAdd, Nat.reduceLeDiff, Nat.reduceMul, Int.reduceLT, Int.reduceLE, Int.reduceAdd, Int.reduceSub, Int.reduceMul, Int.reduceNeg, Int.reduceToNat, Int.reduceEq, s.h5]) (by simp only [go_sem, reduceCtorEq, reduceIte, Nat.reduceEqDiff, Nat.reduceAdd, Nat.reduceLeDiff, Nat.reduceMul, Int.reduceLT, Int.reduceLE, Int.reduceAdd, Int.reduceSub, Int.reduceMul, Int.reduceNeg, Int.reduceToNat, Int.reduceEq, s.h6])
end Go.Proofs.Ytmaclakgkllojaa.absJoins
