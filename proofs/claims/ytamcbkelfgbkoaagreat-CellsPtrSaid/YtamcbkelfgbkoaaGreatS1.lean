/- The small codes of functions, by program (gen.py, by this workplace's session), each with the proof that it is the function's own. -/
import Derived.Test.YtamcbkelfgbkoaaGreatProg
import Derived.Test.YtamcbkelfgbkoaaGreatA3
namespace Go.Ax.W
open Go Go.Ax
open Go.Ax.N (t i b o og)
abbrev m (d a : Nat) : SO := o d (.mv (t a))
abbrev f (d n a : Nat) : SO := o d (.fa n (t a))
abbrev l (d a : Nat) : SO := o d (.ld false 1 (t a))
abbrev L (d n a : Nat) : SO := o d (.ld true n (t a))
abbrev z (d a : Nat) : SO := o d (.ln (t a))
abbrev x (d n a c : Nat) : SO := o d (.ia n (t a) (t c))
abbrev w (d : Nat) (v : Int) : SO := o d (.mv (i v))
abbrev B (d : Nat) (v : Bool) : SO := o d (.mv (b v))
abbrev e (d a n : Nat) : SO := o d (.ex (t a) n)
abbrev q (d : Nat) (r : BinOp) (a : Nat) (v : Int) : SO := o d (.bin r (t a) (i v))
abbrev p (d : Nat) (r : BinOp) (a c : Nat) : SO := o d (.bin r (t a) (t c))
abbrev P (d a c : Nat) : SO := o d (.pick (t a) (t c) (b false))
abbrev R (d a c : Nat) : SO := o d (.pick (t a) (b true) (t c))
abbrev u (d a : Nat) : SO := o d (.un .not (t a))
abbrev gm (d g : Nat) (y : Bool) (a : Nat) : SO := og d g y (.mv (t a))
abbrev gf (d g : Nat) (y : Bool) (n a : Nat) : SO := og d g y (.fa n (t a))
abbrev gl (d g : Nat) (y : Bool) (a : Nat) : SO := og d g y (.ld false 1 (t a))
abbrev gL (d g : Nat) (y : Bool) (n a : Nat) : SO := og d g y (.ld true n (t a))
abbrev sq (l : List SO) (c : SC) : SC := .seq (.ops l) c
def ps (l : List Nat) : List (Nat × List Nat) := l.map fun x => (x, [])
end Go.Ax.W
namespace Go.Proofs.Tryz.S
open Go Go.Ax Go.Ax.W
open Go.Ax.N (t i b o og k kn)
set_option maxRecDepth 100000

def c3 : SF := ⟨5,[.t 2],(sq [k 1 (.bx 33 (t 0)),B 2 false] (sq [L 3 10 1,k 4 (.ca (.func 10) [(t 3),(i 1)]),m 2 4]
 .ret))⟩
theorem e3 : qD Tryz.prog Tryz.f3 [] = some c3 := by kernel_rfl
def c10 : SF := ⟨221,[.t 4],(sq [k 2 (.bx 33 (t 0)),B 4 false] (sq [f 28 9 2,l 29 28,z 30 29,q 31 .rem 30 2,q 32 .eql 31 1,f 33 8 2,l 34 33,z 35 34,q 36 .rem 35 2,
 o 37 (.bin .mul (i 2) (t 36)),o 38 (.bin .add (i 2) (t 37)),o 39 (.bd [.bool false,.int .i64 0] [(0,1,(t 32)),(1,1,(t 38))]),k 40 (.bs 3 2 [.int .i64 0,
 .int .i64 0] [(0,1,(i 8)),(1,1,(i 12))]),o 41 (.bd [.int .i64 0,.int .i64 0,.int .i64 0,.int .i64 0,.int .i64 0,.slice none 0 0,.slice none 0 0] [(0,1,
 (i 7))]),k 42 (.bs 37 1 [.int .i64 0,.int .i64 0,.int .i64 0,.int .i64 0,.int .i64 0,.slice none 0 0,.slice none 0 0] [(0,7,(t 41))]),k 43 (.bs 3 1 [.int .i64 0] [(0,
 1,(i 0))]),o 44 (.bd [.bool false,.int .i64 0,.slice none 0 0,.slice none 0 0,.slice none 0 0,.slice none 0 0,.slice none 0 0] [(0,2,(t 39)),(2,1,(t 40)),
 (5,1,(t 42)),(6,1,(t 43))]),k 5 (.al 28 [.bool false,.int .i64 0,.slice none 0 0,.slice none 0 0,.slice none 0 0,.slice none 0 0,.slice none 0 0]),kn (.st [] 7 (t 5) (t 44))] (sq [L 45 7 5,
 k 46 (.ca (.func 11) [(t 45)]),k 6 (.al 42 [.slice none 0 0,.slice none 0 0,.int .i64 0,.int .i64 0,.int .i64 0]),kn (.st [] 5 (t 6) (t 46))] (sq [L 47 7 5,
 L 48 5 6,k 49 (.ca (.func 12) [(t 47),(t 48)]),k 7 (.al 46 [.bool false,.slice none 0 0,.slice none 0 0]),kn (.st [] 3 (t 7) (t 49))] (.seq (sq [L 50 7 5,
 L 51 3 7,k 52 (.ca (.func 13) [(t 50),(t 51)]),u 53 52] (.cond (t 53) (sq [B 4 false]
 .ret)
 .skip)) (.seq (sq [w 8 0] (.block 0 (.loop (.seq (sq [m 54 8,q 55 .lss 54 12] (.cond (t 55)
 .skip (.exit 0))) (.seq (.block 1 (sq [m 58 1,m 9 58] (.seq (sq [m 59 8,q 60 .rem 59 3,q 61 .eql 60 1] (.cond (t 61) (.ops [m 62 8,q 63 .mul 62 5,m 64 1,
 p 65 .add 63 64,q 66 .rem 65 7,o 67 (.bin .add (i 1) (t 66)),m 9 67])
 .skip)) (sq [m 68 8,q 69 .rem 68 2,o 70 (.bin .add (i 1) (t 69)),m 71 8,q 72 .mul 71 3,f 73 7 2,l 74 73,z 75 74,p 76 .add 72 75,q 77 .rem 76 9,o 78 (.bd [.bool false,
 .int .i64 0,.int .i64 0,.int .i64 0] [(0,1,(b true)),(2,1,(t 70)),(3,1,(t 77))]),k 10 (.al 50 [.bool false,.int .i64 0,.int .i64 0,.int .i64 0]),kn (.st [] 4 (t 10) (t 78))] (sq [m 79 8,
 q 80 .rem 79 2,o 81 (.bin .add (i 1) (t 80)),m 82 8,q 83 .rem 82 7,o 84 (.bd [.bool false,.int .i64 0,.int .i64 0,.int .i64 0] [(0,1,(b true)),(2,1,(t 81)),
 (3,1,(t 83))]),k 11 (.al 50 [.bool false,.int .i64 0,.int .i64 0,.int .i64 0]),kn (.st [] 4 (t 11) (t 84))] (.seq (sq [m 85 9,q 86 .neq 85 7] (.cond (t 86) (.ops [m 87 8,
 q 88 .mul 87 77777,q 89 .add 88 13,m 90 9,k 91 (.ca (.func 15) [(t 90)]),k 92 (.ca (.func 14) [(t 89),(t 91)]),o 93 (.bd [.bool false,.int .i64 0,.int .i64 0,
 .int .i64 0] [(1,1,(t 92))]),kn (.st [] 4 (t 11) (t 93))])
 .skip)) (sq [f 95 0 5,L 96 2 95,f 97 0 6,l 98 97,L 99 4 10,m 100 9,L 101 4 11,k 102 (.ca (.func 16) [(t 96),(t 98),(t 99),(t 100),(t 101)]),m 94 102,e 103 94 0,
 e 104 94 1,m 12 103,m 13 104] (.seq (.opd [L 106 7 5,L 107 3 7,L 108 4 10,m 110 9,m 111 9,L 112 4 11,k 109 (.ca (.func 18) [(i 7),(t 108)]),k 113 (.ca (.func 18) [(t 111),
 (t 112)]),k 114 (.ca (.func 17) [(t 106),(t 107),(t 109),(t 110),(t 113)]),m 105 114,e 115 105 0,e 116 105 1,e 117 105 2,k 14 (.al 46 [.bool false,.slice none 0 0,
 .slice none 0 0]),kn (.st [] 3 (t 14) (t 115)),m 15 116,m 16 117]) (.seq (sq [m 118 16,k 119 (.ca (.func 19) [(t 118)]),q 120 .neq 119 0,m 121 120,gL 122 121 false 7 5,
 gL 123 121 false 3 14,⟨some 124, some (121, false),.ca (.func 13) [(t 122),(t 123)]⟩,og 125 121 false (.un .not (t 124)),R 126 121 125] (.cond (t 126) (sq [B 4 false]
 .ret)
 .skip)) (.seq (sq [m 127 13,q 128 .neq 127 0] (.cond (t 128) (.seq (sq [m 129 15,m 130 13,k 131 (.ca (.func 20) [(t 129),(t 130)]),u 132 131] (.cond (t 132) (sq [B 4 false]
 .ret)
 .skip)) (.exit 1))
 .skip)) (.seq (.opq [m 133 12,L 134 3 14,f 135 0 6,kn (.st [14] 1 (t 135) (t 133)),kn (.st [] 3 (t 7) (t 134))]) (.seq (sq [L 136 7 5,L 137 3 7,L 138 5 6,
 k 139 (.ca (.func 21) [(t 136),(t 137),(t 138)]),u 140 139] (.cond (t 140) (sq [B 4 false]
 .ret)
 .skip)) (sq [w 17 0] (.block 2 (.loop (.seq (sq [m 141 17,q 142 .lss 141 12] (.cond (t 142)
 .skip (.exit 2))) (.seq (.block 3 (sq [w 18 1] (.block 4 (.loop (.seq (sq [m 145 18,q 146 .lss 145 3] (.cond (t 146)
 .skip (.exit 4))) (.seq (.block 5 (sq [m 149 18,m 150 17,o 151 (.bd [.bool false,.int .i64 0,.int .i64 0,.int .i64 0] [(0,1,(b true)),(2,1,(t 149)),(3,
 1,(t 150))]),k 19 (.al 50 [.bool false,.int .i64 0,.int .i64 0,.int .i64 0]),kn (.st [] 4 (t 19) (t 151))] (sq [f 153 0 5,L 154 2 153,f 155 0 6,l 156 155,
 L 157 4 19,m 158 1,k 159 (.ca (.func 22) [(t 154),(t 156),(t 157),(t 158)]),m 152 159,e 160 152 0,e 161 152 1,k 20 (.al 50 [.bool false,.int .i64 0,.int .i64 0,
 .int .i64 0]),kn (.st [] 4 (t 20) (t 160)),m 21 161] (.seq (.opd [L 163 7 5,L 164 3 7,L 165 4 19,m 167 1,k 166 (.ca (.func 18) [(i 7),(t 165)]),k 168 (.ca (.func 23) [(t 163),
 (t 164),(t 166),(t 167)]),m 162 168,e 169 162 0,e 170 162 1,e 171 162 2,k 22 (.al 62 [.int .i64 0,.bool false,.int .i64 0,.int .i64 0,.int .i64 0,.int .i64 0,
 .slice none 0 0]),kn (.st [] 7 (t 22) (t 169)),m 23 170,m 24 171]) (.seq (.opd [L 173 7 5,L 174 7 5,L 175 5 6,L 177 4 19,m 179 1,k 176 (.ca (.func 12) [(t 174),
 (t 175)]),k 178 (.ca (.func 18) [(i 7),(t 177)]),k 180 (.ca (.func 23) [(t 173),(t 176),(t 178),(t 179)]),m 172 180,e 181 172 0,e 182 172 1,e 183 172 2,
 k 25 (.al 62 [.int .i64 0,.bool false,.int .i64 0,.int .i64 0,.int .i64 0,.int .i64 0,.slice none 0 0]),kn (.st [] 7 (t 25) (t 181)),m 26 182,m 27 183]) (.seq (sq [m 184 24,
 k 185 (.ca (.func 19) [(t 184)]),q 186 .neq 185 0,m 187 186,gm 188 187 false 27,⟨some 189, some (187, false),.ca (.func 19) [(t 188)]⟩,og 190 187 false (.bin .neq (t 189) (i 0)),
 R 191 187 190,m 192 191,gm 193 192 false 1,gL 194 192 false 7 25,gm 195 192 false 26,gL 196 192 false 4 20,gm 197 192 false 21,⟨some 198, some (192, false),
 .ca (.func 24) [(t 193),(t 194),(t 195),(t 196),(t 197)]⟩,og 199 192 false (.un .not (t 198)),R 200 192 199] (.cond (t 200) (sq [B 4 false]
 .ret)
 .skip)) (sq [m 201 21,q 202 .neq 201 0,m 203 202,gm 204 203 true 23,gm 205 203 true 21,⟨some 206, some (203, true),.ca (.func 20) [(t 204),(t 205)]⟩,og 207 203 true (.un .not (t 206)),
 P 208 203 207,m 209 208,gm 210 209 false 21,og 211 209 false (.bin .eql (t 210) (i 0)),gm 212 209 false 211,gm 213 212 true 1,gL 214 212 true 7 22,gL 215 212 true 4 20,
 ⟨some 216, some (212, true),.ca (.func 25) [(t 213),(t 214),(t 215)]⟩,og 217 212 true (.un .not (t 216)),og 218 209 false (.pick (t 212) (t 217) (b false)),
 R 219 209 218] (.cond (t 219) (sq [B 4 false]
 .ret)
 .skip)))))))) (.ops [m 147 18,q 148 .add 147 1,m 18 148]))))))) (.ops [m 143 17,q 144 .add 143 1,m 17 144])))))))))))))))))) (.ops [m 56 8,q 57 .add 56 1,
 m 8 57])))))) (sq [k 220 (.ca (.func 26) []),m 4 220]
 .ret)))))))⟩
theorem e10 : qD Tryz.prog Tryz.f10 [(ps [0,1,2,4,5,6,3,7,8,9,10,11,12,13,14,15,16]),[(0,[]),(1,[]),(2,[]),(3,[14]),(4,[])],(ps [0,1,2,4,3,5,6,7,8,9,10,11,12,13]),(ps [0,1,2,4,6,3,5,7,8,9,10,11,12,13,14,15])] = some c10 := by kernel_rfl
def c11 : SF := ⟨45,[.c true 5 2],(sq [k 1 (.bx 28 (t 0)),k 2 (.al 42 [.slice none 0 0,.slice none 0 0,.int .i64 0,.int .i64 0,.int .i64 0])] (sq [o 6 (.bd [.int .i64 0,
 .slice none 0 0] []),k 7 (.bs 76 1 [.int .i64 0,.slice none 0 0] [(0,2,(t 6))]),f 8 6 1,l 9 8,k 10 (.ca (.func 27) [(t 9)]),o 11 (.bd [.slice none 0 0,
 .slice none 0 0,.int .i64 0,.int .i64 0,.int .i64 0] [(0,1,(t 7)),(1,1,(t 10))]),k 3 (.al 42 [.slice none 0 0,.slice none 0 0,.int .i64 0,.int .i64 0,.int .i64 0]),
 kn (.st [] 5 (t 3) (t 11))] (.seq (sq [w 4 0] (.block 0 (.loop (.seq (sq [m 12 4,f 13 2 1,l 14 13,z 15 14,p 16 .lss 12 15] (.cond (t 16)
 .skip (.exit 0))) (.seq (.block 1 (.opd [f 19 0 3,l 20 19,f 21 2 1,l 22 21,m 23 4,x 24 1 22 23,l 25 24,k 26 (.ca (.func 28) [(t 25)]),o 27 (.bd [.int .i64 0,
 .slice none 0 0] [(0,1,(i 1)),(1,1,(t 26))]),k 28 (.bs 76 1 [.int .i64 0,.slice none 0 0] [(0,2,(t 27))]),k 29 (.ap 76 2 32 (t 20) (t 28)),f 30 0 3,kn (.st [] 1 (t 30) (t 29))])) (.ops [m 17 4,
 q 18 .add 17 1,m 4 18])))))) (.seq (sq [w 5 0] (.block 2 (.loop (.seq (sq [m 31 5,f 32 3 1,l 33 32,z 34 33,p 35 .lss 31 34] (.cond (t 35)
 .skip (.exit 2))) (.seq (.block 3 (.ops [f 38 0 3,l 39 38,o 40 (.bd [.int .i64 0,.slice none 0 0] []),k 41 (.bs 76 1 [.int .i64 0,.slice none 0 0] [(0,
 2,(t 40))]),k 42 (.ap 76 2 32 (t 39) (t 41)),f 43 0 3,kn (.st [] 1 (t 43) (t 42))])) (.ops [m 36 5,q 37 .add 36 1,m 5 37])))))) (sq [L 44 5 3,kn (.st [] 5 (t 2) (t 44))]
 .ret)))))⟩
theorem e11 : qD Tryz.prog Tryz.f11 [(ps [0,1,2,3,4,5,6,7,8,9,10,11,12])] = some c11 := by kernel_rfl
def c12 : SF := ⟨18,[.c true 3 4],(sq [k 2 (.bx 28 (t 0)),k 3 (.bx 42 (t 1)),k 4 (.al 46 [.bool false,.slice none 0 0,.slice none 0 0])] (sq [L 8 7 2,L 9 5 3,
 k 10 (.ca (.func 29) [(t 8),(t 9)]),m 7 10,e 11 7 0,e 12 7 1,k 5 (.al 46 [.bool false,.slice none 0 0,.slice none 0 0]),kn (.st [] 3 (t 5) (t 11)),m 6 12] (.seq (sq [m 13 6,
 k 14 (.ca (.func 19) [(t 13)]),q 15 .neq 14 0] (.cond (t 15) (sq [o 16 (.bd [.bool false,.slice none 0 0,.slice none 0 0] []),kn (.st [] 3 (t 4) (t 16))]
 .ret)
 .skip)) (sq [L 17 3 5,kn (.st [] 3 (t 4) (t 17))]
 .ret))))⟩
theorem e12 : qD Tryz.prog Tryz.f12 [] = some c12 := by kernel_rfl
def c13 : SF := ⟨84,[.t 4],(sq [k 2 (.bx 28 (t 0)),k 3 (.bx 46 (t 1)),B 4 false] (.seq (sq [f 8 0 3,l 9 8] (.cond (t 9) (sq [f 10 1 3,l 11 10,z 12 11,q 13 .eql 12 0,
 m 14 13,gf 15 14 true 2 3,gl 16 14 true 15,og 17 14 true (.ln (t 16)),og 18 14 true (.bin .eql (t 17) (i 0)),P 19 14 18,m 4 19]
 .ret)
 .skip)) (.seq (sq [f 20 1 3,l 21 20,z 22 21,q 23 .gtr 22 200,m 24 23,gf 25 24 false 2 3,gl 26 24 false 25,og 27 24 false (.ln (t 26)),gf 28 24 false 3 2,
 gl 29 24 false 28,og 30 24 false (.ln (t 29)),og 31 24 false (.bin .neq (t 27) (t 30)),R 32 24 31] (.cond (t 32) (sq [B 4 false]
 .ret)
 .skip)) (sq [L 33 7 2,k 34 (.ca (.func 30) [(t 33)]),m 5 34] (.seq (sq [w 6 0] (.block 0 (.loop (.seq (sq [m 35 6,f 36 1 3,l 37 36,z 38 37,p 39 .lss 35 38] (.cond (t 39)
 .skip (.exit 0))) (.seq (.block 1 (.seq (.opq [L 42 7 2,m 43 5,f 44 1 3,l 45 44,m 46 6,x 47 10 45 46,L 48 10 47,k 49 (.ca (.func 31) [(t 42),(t 43),(t 48)]),
 u 50 49,m 51 50,gm 52 51 false 6,og 53 51 false (.bin .gtr (t 52) (i 0)),gm 54 51 false 53,gf 55 54 true 1 3,gl 56 54 true 55,gm 57 54 true 6,og 58 54 true (.bin .sub (t 57) (i 1)),
 og 59 54 true (.ia 10 (t 56) (t 58)),gL 60 54 true 10 59,gf 61 54 true 1 3,gl 62 54 true 61,gm 63 54 true 6,og 64 54 true (.ia 10 (t 62) (t 63)),gL 65 54 true 10 64,
 ⟨some 66, some (54, true),.ca (.func 32) [(t 60),(t 65)]⟩,og 67 54 true (.un .not (t 66)),og 68 51 false (.pick (t 54) (t 67) (b false)),R 69 51 68]) (.cond (t 69) (sq [B 4 false]
 .ret)
 .skip))) (.ops [m 40 6,q 41 .add 40 1,m 6 41])))))) (.seq (sq [w 7 0] (.block 2 (.loop (.seq (sq [m 70 7,f 71 2 3,l 72 71,z 73 72,p 74 .lss 70 73] (.cond (t 74)
 .skip (.exit 2))) (.seq (.block 3 (sq [f 77 2 3,l 78 77,m 79 7,x 80 1 78 79,l 81 80,k 82 (.ca (.func 33) [(t 81),(i 1),(i 15)]),u 83 82] (.cond (t 83) (sq [B 4 false]
 .ret)
 .skip))) (.ops [m 75 7,q 76 .add 75 1,m 7 76])))))) (sq [B 4 true]
 .ret)))))))⟩
theorem e13 : qD Tryz.prog Tryz.f13 [(ps [0,1,2,3,4,5,6,7,8,9,10,11,12,13,14,15,16,17,18,19,20,21,22,23,24,25,26,27])] = some c13 := by kernel_rfl
def c14 : SF := ⟨10,[.t 4],(sq [w 4 0] (sq [m 5 0,m 6 1,o 7 (.bin .shl (i 1) (t 6)),q 8 .sub 7 1,p 9 .and 5 8,m 4 9]
 .ret))⟩
theorem e14 : qD Tryz.prog Tryz.f14 [] = some c14 := by kernel_rfl
def c15 : SF := ⟨13,[.t 2],(sq [w 2 0] (.seq (sq [m 3 0] (.block 0 (.seq (sq [q 5 .eql 3 1,m 4 5] (.cond (t 4)
 .skip (.ops [q 6 .eql 3 2,m 4 6]))) (.cond (t 4) (sq [w 2 8]
 .ret) (.seq (sq [q 8 .eql 3 3,m 7 8] (.cond (t 7)
 .skip (.ops [q 9 .eql 3 4,m 7 9]))) (.cond (t 7) (sq [w 2 16]
 .ret) (.seq (sq [q 11 .eql 3 5,m 10 11] (.cond (t 10)
 .skip (.ops [q 12 .eql 3 6,m 10 12]))) (.cond (t 10) (sq [w 2 32]
 .ret)
 .skip)))))))) (sq [w 2 0]
 .ret)))⟩
theorem e15 : qD Tryz.prog Tryz.f15 [] = some c15 := by kernel_rfl
def c16 : SF := ⟨53,[.t 10,.t 11],(sq [k 5 (.bx 23 (t 0)),k 7 (.bx 50 (t 2)),k 9 (.bx 50 (t 4)),o 10 (.mv (.const (.slice none 0 0))),w 11 0] (sq [L 15 2 5,
 m 16 1,L 17 4 7,m 18 3,k 19 (.ca (.func 34) [(t 15),(t 16),(t 17),(t 18)]),m 12 19] (.seq (sq [m 20 12,q 21 .neq 20 0] (.cond (t 21) (sq [m 22 1,k 23 (.ca (.func 35) [(t 22)]),
 m 24 12,m 10 23,m 11 24]
 .ret)
 .skip)) (sq [m 25 1,k 26 (.ca (.func 35) [(t 25)]),m 1 26] (sq [L 27 2 5,m 28 3,L 29 4 9,k 30 (.ca (.func 36) [(t 27),(t 28),(t 29)]),m 13 30] (.seq (sq [w 14 0] (.block 0 (.loop (.seq (sq [m 31 14,
 m 32 13,z 33 32,p 34 .lss 31 33] (.cond (t 34)
 .skip (.exit 0))) (.seq (.block 1 (.opq [m 37 1,f 38 2 7,l 39 38,x 40 2 37 39,f 41 1 40,l 42 41,f 43 3 7,l 44 43,m 45 14,p 46 .add 44 45,m 47 13,m 48 14,
 x 49 5 47 48,L 50 5 49,x 51 5 42 46,kn (.st [] 5 (t 51) (t 50))])) (.ops [m 35 14,q 36 .add 35 1,m 14 36])))))) (sq [m 52 1,m 10 52,w 11 0]
 .ret)))))))⟩
theorem e16 : qD Tryz.prog Tryz.f16 [(ps [0,1,2,3,4,5,6,7,8,9,10,11,12,13,14,15])] = some c16 := by kernel_rfl
def c17 : SF := ⟨61,[.c true 3 10,.t 11,.t 12],(sq [k 5 (.bx 28 (t 0)),k 6 (.bx 46 (t 1)),k 7 (.bx 62 (t 2)),k 9 (.bx 62 (t 4)),k 10 (.al 46 [.bool false,
 .slice none 0 0,.slice none 0 0]),o 11 (.mv (.const (.slice none 0 0))),w 12 0] (.seq (sq [L 13 7 5,L 14 3 6,k 15 (.bs 46 1 [.bool false,.slice none 0 0,
 .slice none 0 0] [(0,3,(t 14))]),k 16 (.ca (.func 37) [(t 13),(t 15)]),u 17 16,m 18 17,gL 19 18 false 7 5,gL 20 18 false 7 7,⟨some 21, some (18, false),
 .ca (.func 38) [(t 19),(t 20)]⟩,og 22 18 false (.un .not (t 21)),R 23 18 22,m 24 23,gm 25 24 false 3,⟨some 26, some (24, false),.ca (.func 39) [(t 25)]⟩,
 og 27 24 false (.un .not (t 26)),R 28 24 27,m 29 28,gm 30 29 false 3,gL 31 29 false 7 9,⟨some 32, some (29, false),.ca (.func 40) [(t 30),(t 31)]⟩,og 33 29 false (.un .not (t 32)),
 R 34 29 33,m 35 34,gf 36 35 false 6 9,gl 37 35 false 36,gf 38 35 false 2 5,gl 39 35 false 38,og 40 35 false (.ln (t 39)),gf 41 35 false 3 5,gl 42 35 false 41,
 og 43 35 false (.ln (t 42)),og 44 35 false (.bin .add (t 40) (t 43)),⟨some 45, some (35, false),.ca (.func 41) [(t 37),(t 44)]⟩,og 46 35 false (.un .not (t 45)),
 R 47 35 46] (.cond (t 47) (sq [L 48 3 10,kn (.st [] 3 (t 10) (t 48)),o 11 (.mv (.const (.slice none 0 0))),w 12 1]
 .ret)
 .skip)) (sq [L 50 7 5,L 51 3 6,L 52 7 7,m 53 3,L 54 7 9,k 55 (.ca (.func 42) [(t 50),(t 51),(t 52),(t 53),(t 54)]),m 49 55,e 56 49 0,e 57 49 1,kn (.st [] 3 (t 10) (t 56)),
 m 11 57] (sq [L 58 3 10,k 59 (.ca (.func 43) [(t 58)]),m 60 11,kn (.st [] 3 (t 10) (t 59)),m 11 60,w 12 0]
 .ret))))⟩
theorem e17 : qD Tryz.prog Tryz.f17 [] = some c17 := by kernel_rfl
def c18 : SF := ⟨21,[.c true 7 4],(sq [k 3 (.bx 50 (t 1)),k 4 (.al 62 [.int .i64 0,.bool false,.int .i64 0,.int .i64 0,.int .i64 0,.int .i64 0,.slice none 0 0])] (.seq (sq [m 5 0,
 q 6 .neq 5 7] (.cond (t 6) (.seq (.opd [m 7 0,f 9 1 3,l 10 9,k 8 (.ca (.func 15) [(t 7)]),k 11 (.ca (.func 44) [(t 8),(t 10)]),o 12 (.bd [.int .i64 0,.bool false,
 .int .i64 0,.int .i64 0,.int .i64 0,.int .i64 0,.slice none 0 0] [(0,6,(t 11))]),kn (.st [] 7 (t 4) (t 12))])
 .ret)
 .skip)) (.seq (.opd [f 13 2 3,l 14 13,f 15 3 3,l 16 15,k 17 (.ca (.func 44) [(i 8),(t 16)]),o 18 (.bd [.int .i64 0,.int .i64 0,.bool false,.int .i64 0,
 .int .i64 0,.int .i64 0,.int .i64 0] [(0,1,(t 14)),(1,6,(t 17))]),k 19 (.bs 102 1 [.int .i64 0,.int .i64 0,.bool false,.int .i64 0,.int .i64 0,.int .i64 0,
 .int .i64 0] [(0,7,(t 18))]),o 20 (.bd [.int .i64 0,.bool false,.int .i64 0,.int .i64 0,.int .i64 0,.int .i64 0,.slice none 0 0] [(6,1,(t 19))]),kn (.st [] 7 (t 4) (t 20))])
 .ret)))⟩
theorem e18 : qD Tryz.prog Tryz.f18 [(ps [0,2,3,1,4,5,6]),(ps [0,1,2,3,4,5,6,7,8])] = some c18 := by kernel_rfl
def c19 : SF := ⟨4,[.t 2],(sq [w 2 0] (sq [m 3 0,m 2 3]
 .ret))⟩
theorem e19 : qD Tryz.prog Tryz.f19 [] = some c19 := by kernel_rfl
def c20 : SF := ⟨9,[.t 4],(sq [B 4 false] (sq [m 5 0,m 6 1,k 7 (.ca (.func 45) [(t 5),(t 6)]),q 8 .geq 7 0,m 4 8]
 .ret))⟩
theorem e20 : qD Tryz.prog Tryz.f20 [] = some c20 := by kernel_rfl
def c21 : SF := ⟨54,[.t 6],(sq [k 3 (.bx 28 (t 0)),k 4 (.bx 46 (t 1)),k 5 (.bx 42 (t 2)),B 6 false] (.seq (sq [f 9 0 4,l 10 9] (.cond (t 10) (sq [B 6 false]
 .ret)
 .skip)) (.seq (sq [w 7 0] (.block 0 (.loop (.seq (sq [m 11 7,f 12 1 4,l 13 12,z 14 13,p 15 .lss 11 14] (.cond (t 15)
 .skip (.exit 0))) (.seq (.block 1 (.seq (.opq [L 18 7 3,f 19 0 5,l 20 19,f 21 1 4,l 22 21,m 23 7,x 24 10 22 23,L 25 10 24,k 26 (.ca (.func 46) [(t 18),
 (t 20),(t 25)]),u 27 26]) (.cond (t 27) (sq [B 6 false]
 .ret)
 .skip))) (.ops [m 16 7,q 17 .add 16 1,m 7 17])))))) (.seq (sq [w 8 0] (.block 2 (.loop (.seq (sq [m 28 8,f 29 2 4,l 30 29,z 31 30,p 32 .lss 28 31] (.cond (t 32)
 .skip (.exit 2))) (.seq (.block 3 (.seq (.opq [f 35 2 4,l 36 35,m 37 8,x 38 1 36 37,l 39 38,f 40 0 5,l 41 40,f 42 2 3,l 43 42,z 44 43,q 45 .add 44 1,m 46 8,
 p 47 .add 45 46,x 48 2 41 47,f 49 0 48,l 50 49,p 51 .shr 39 50,q 52 .and 51 1,q 53 .eql 52 0]) (.cond (t 53) (sq [B 6 false]
 .ret)
 .skip))) (.ops [m 33 8,q 34 .add 33 1,m 8 34])))))) (sq [B 6 true]
 .ret)))))⟩
theorem e21 : qD Tryz.prog Tryz.f21 [(ps [0,1,2,3,4,5,6,7,8,9]),(ps [0,1,2,3,4,5,6,7,8,9,10,11,12,13,14,15,16,17,18])] = some c21 := by kernel_rfl
def c22 : SF := ⟨40,[.c true 4 8,.t 9],(sq [k 4 (.bx 23 (t 0)),k 6 (.bx 50 (t 2)),k 8 (.al 50 [.bool false,.int .i64 0,.int .i64 0,.int .i64 0]),w 9 0] (sq [L 11 2 4,
 m 12 1,L 13 4 6,m 14 3,k 15 (.ca (.func 34) [(t 11),(t 12),(t 13),(t 14)]),m 10 15] (.seq (sq [m 16 10,q 17 .neq 16 0] (.cond (t 17) (sq [o 18 (.bd [.bool false,
 .int .i64 0,.int .i64 0,.int .i64 0] []),m 19 10,kn (.st [] 4 (t 8) (t 18)),m 9 19]
 .ret)
 .skip)) (.seq (.opd [L 20 2 4,m 21 3,m 22 1,f 23 2 6,l 24 23,x 25 2 22 24,f 26 1 25,l 27 26,f 28 3 6,l 29 28,f 30 3 6,l 31 30,L 32 2 4,m 33 3,k 34 (.ca (.func 48) [(t 32),
 (t 33)]),p 35 .add 31 34,o 36 (.sl 5 (t 27) (some (t 29)) (some (t 35))),k 37 (.ca (.func 47) [(t 20),(t 21),(t 36)]),e 38 37 0,e 39 37 1,kn (.st [] 4 (t 8) (t 38)),
 m 9 39])
 .ret))))⟩
theorem e22 : qD Tryz.prog Tryz.f22 [(ps [0,1,2,3,4,5,6,7,8,9,10,11,12,13,14,15,16,17,18,19,20,21])] = some c22 := by kernel_rfl
def c23 : SF := ⟨39,[.c true 7 8,.t 9,.t 10],(sq [k 4 (.bx 28 (t 0)),k 5 (.bx 46 (t 1)),k 6 (.bx 62 (t 2)),k 8 (.al 62 [.int .i64 0,.bool false,.int .i64 0,
 .int .i64 0,.int .i64 0,.int .i64 0,.slice none 0 0]),o 9 (.mv (.const (.slice none 0 0))),w 10 0] (.seq (sq [L 11 7 4,L 12 3 5,k 13 (.bs 46 1 [.bool false,
 .slice none 0 0,.slice none 0 0] [(0,3,(t 12))]),k 14 (.ca (.func 37) [(t 11),(t 13)]),u 15 14,m 16 15,gL 17 16 false 7 4,gL 18 16 false 7 6,⟨some 19, some (16,
  false),.ca (.func 38) [(t 17),(t 18)]⟩,og 20 16 false (.un .not (t 19)),R 21 16 20,m 22 21,gm 23 22 false 3,⟨some 24, some (22, false),.ca (.func 39) [(t 23)]⟩,
 og 25 22 false (.un .not (t 24)),R 26 22 25] (.cond (t 26) (sq [L 27 7 8,kn (.st [] 7 (t 8) (t 27)),o 9 (.mv (.const (.slice none 0 0))),w 10 1]
 .ret)
 .skip)) (sq [L 29 7 4,L 30 3 5,L 31 7 6,m 32 3,k 33 (.ca (.func 49) [(t 29),(t 30),(t 31),(t 32)]),m 28 33,e 34 28 0,e 35 28 1,kn (.st [] 7 (t 8) (t 34)),
 m 9 35] (sq [L 36 7 8,k 37 (.ca (.func 50) [(t 36)]),m 38 9,kn (.st [] 7 (t 8) (t 37)),m 9 38,w 10 0]
 .ret))))⟩
theorem e23 : qD Tryz.prog Tryz.f23 [] = some c23 := by kernel_rfl
def c24 : SF := ⟨47,[.t 10],(sq [k 6 (.bx 62 (t 1)),k 8 (.bx 50 (t 3)),B 10 false] (.seq (sq [m 13 4,q 14 .neq 13 0] (.cond (t 14) (sq [m 15 0,L 16 7 6,
 k 17 (.ca (.func 51) [(t 15),(t 16)]),m 18 17,gm 19 18 true 2,og 20 18 true (.ln (t 19)),og 21 18 true (.bin .eql (t 20) (i 1)),P 22 18 21,m 23 22,gm 24 23 true 2,
 og 25 23 true (.ia 1 (t 24) (i 0)),gl 26 23 true 25,gm 27 23 true 4,og 28 23 true (.bin .eql (t 26) (t 27)),P 29 23 28,m 10 29]
 .ret)
 .skip)) (sq [m 31 0,L 32 7 6,k 33 (.ca (.func 52) [(t 31),(t 32)]),m 30 33,e 34 30 0,e 35 30 1,k 11 (.al 50 [.bool false,.int .i64 0,.int .i64 0,.int .i64 0]),
 kn (.st [] 4 (t 11) (t 34)),m 12 35] (sq [m 36 12,m 37 36,gL 38 37 true 4 11,gL 39 37 true 4 8,og 40 37 true (.eqs (.st [(false,0,1,.b),(false,1,1,.i),
 (false,2,1,.i),(false,3,1,.i)]) false (t 38) (t 39)),P 41 37 40,m 42 41,gm 43 42 true 2,og 44 42 true (.ln (t 43)),og 45 42 true (.bin .eql (t 44) (i 0)),
 P 46 42 45,m 10 46]
 .ret))))⟩
theorem e24 : qD Tryz.prog Tryz.f24 [] = some c24 := by kernel_rfl
def c25 : SF := ⟨21,[.t 6],(sq [k 4 (.bx 62 (t 1)),k 5 (.bx 50 (t 2)),B 6 false] (.seq (sq [m 7 0,q 8 .neq 7 7] (.cond (t 8) (sq [f 9 0 4,L 10 6 9,f 11 1 5,
 l 12 11,k 13 (.ca (.func 53) [(t 10),(t 12)]),m 6 13]
 .ret)
 .skip)) (sq [f 14 6 4,l 15 14,f 16 2 5,l 17 16,f 18 3 5,l 19 18,k 20 (.ca (.func 54) [(t 15),(t 17),(t 19)]),m 6 20]
 .ret)))⟩
theorem e25 : qD Tryz.prog Tryz.f25 [] = some c25 := by kernel_rfl
def c26 : SF := ⟨41,[.t 0],(sq [B 0 false] (sq [k 7 (.ca (.func 55) []),k 1 (.al 28 [.bool false,.int .i64 0,.slice none 0 0,.slice none 0 0,.slice none 0 0,
 .slice none 0 0,.slice none 0 0]),kn (.st [] 7 (t 1) (t 7))] (sq [L 8 7 1,k 9 (.ca (.func 11) [(t 8)]),k 2 (.al 42 [.slice none 0 0,.slice none 0 0,.int .i64 0,
 .int .i64 0,.int .i64 0]),kn (.st [] 5 (t 2) (t 9))] (sq [L 11 7 1,o 12 (.bd [.bool false,.slice none 0 0,.slice none 0 0] [(0,1,(b true))]),L 13 5 2,k 14 (.ca (.func 56) [(t 11),
 (t 12),(t 13)]),m 10 14,e 15 10 0,e 16 10 1,m 3 15,m 4 16] (sq [L 18 7 1,L 19 5 2,k 20 (.ca (.func 29) [(t 18),(t 19)]),m 17 20,e 21 17 0,e 22 17 1,k 5 (.al 46 [.bool false,
 .slice none 0 0,.slice none 0 0]),kn (.st [] 3 (t 5) (t 21)),m 6 22] (sq [m 23 4,k 24 (.ca (.func 19) [(t 23)]),q 25 .eql 24 0,m 26 25,gm 27 26 true 6,
 ⟨some 28, some (26, true),.ca (.func 19) [(t 27)]⟩,og 29 26 true (.bin .eql (t 28) (i 0)),P 30 26 29,m 31 30,gm 32 31 true 3,og 33 31 true (.un .not (t 32)),
 P 34 31 33,m 35 34,gL 36 35 true 7 1,gL 37 35 true 3 5,gL 38 35 true 5 2,⟨some 39, some (35, true),.ca (.func 57) [(t 36),(t 37),(t 38)]⟩,P 40 35 39,m 0 40]
 .ret))))))⟩
theorem e26 : qD Tryz.prog Tryz.f26 [] = some c26 := by kernel_rfl
def c27 : SF := ⟨19,[.t 2],(sq [o 2 (.mv (.const (.slice none 0 0)))] (sq [o 3 (.mv (.const (.slice none 0 0)))] (.seq (sq [w 4 0] (.block 0 (.loop (.seq (sq [m 5 4,
 m 6 0,z 7 6,p 8 .lss 5 7] (.cond (t 8)
 .skip (.exit 0))) (.seq (.block 1 (.ops [m 11 3,m 12 0,m 13 4,x 14 1 12 13,l 15 14,k 16 (.bs 3 1 [.int .i64 0] [(0,1,(t 15))]),k 17 (.ap 3 1 8 (t 11) (t 16)),
 m 3 17])) (.ops [m 9 4,q 10 .add 9 1,m 4 10])))))) (sq [m 18 3,m 2 18]
 .ret))))⟩
theorem e27 : qD Tryz.prog Tryz.f27 [] = some c27 := by kernel_rfl
def c28 : SF := ⟨5,[.t 2],(sq [o 2 (.mv (.const (.slice none 0 0)))] (sq [m 3 0,k 4 (.ms 91 5 40 [.int .i64 0,.int .i64 0,.int .i64 0,.int .i64 0,.int .i64 0] (t 3) (t 3)),
 m 2 4]
 .ret))⟩
theorem e28 : qD Tryz.prog Tryz.f28 [] = some c28 := by kernel_rfl
def c29 : SF := ⟨19,[.c true 3 4,.t 5],(sq [k 2 (.bx 28 (t 0)),k 3 (.bx 42 (t 1)),k 4 (.al 46 [.bool false,.slice none 0 0,.slice none 0 0]),w 5 0] (.seq (sq [L 6 7 2,
 k 7 (.ca (.func 58) [(t 6)]),u 8 7,m 9 8,gL 10 9 false 7 2,gL 11 9 false 5 3,⟨some 12, some (9, false),.ca (.func 59) [(t 10),(t 11)]⟩,og 13 9 false (.un .not (t 12)),
 R 14 9 13] (.cond (t 14) (sq [o 15 (.bd [.bool false,.slice none 0 0,.slice none 0 0] []),kn (.st [] 3 (t 4) (t 15)),w 5 1]
 .ret)
 .skip)) (sq [L 16 7 2,L 17 5 3,k 18 (.ca (.func 60) [(t 16),(t 17)]),kn (.st [] 3 (t 4) (t 18)),w 5 0]
 .ret)))⟩
theorem e29 : qD Tryz.prog Tryz.f29 [] = some c29 := by kernel_rfl
def c30 : SF := ⟨10,[.t 2],(sq [k 1 (.bx 28 (t 0)),o 2 (.mv (.const (.slice none 0 0)))] (.seq (.opq [f 4 2 1,l 5 4,f 7 3 1,l 8 7,k 3 (.bs 3 1 [.int .i64 0] [(0,
 1,(i 0))]),k 6 (.ap 3 1 8 (t 3) (t 5)),k 9 (.ap 3 1 8 (t 6) (t 8)),m 2 9])
 .ret))⟩
theorem e30 : qD Tryz.prog Tryz.f30 [(ps [1,2,4,5,0,3,6,7])] = some c30 := by kernel_rfl
def c31 : SF := ⟨115,[.t 6],(sq [k 3 (.bx 28 (t 0)),k 5 (.bx 84 (t 2)),B 6 false] (.seq (sq [f 8 0 5,l 9 8,m 10 1,z 11 10,q 12 .sub 11 1,k 13 (.ca (.func 33) [(t 9),
 (i 1),(t 12)]),u 14 13,m 15 14,gf 16 15 false 2 5,gl 17 15 false 16,⟨some 18, some (15, false),.ca (.func 61) [(t 17)]⟩,og 19 15 false (.un .not (t 18)),
 gm 20 15 false 19,gf 21 20 true 2 5,gl 22 20 true 21,og 23 20 true (.bin .neq (t 22) (i 0)),og 24 15 false (.pick (t 20) (t 23) (b false)),gm 25 15 false 24,
 gf 26 25 true 2 5,gl 27 25 true 26,og 28 25 true (.bin .neq (t 27) (i 11)),og 29 15 false (.pick (t 25) (t 28) (b false)),R 30 15 29] (.cond (t 30) (sq [B 6 false]
 .ret)
 .skip)) (sq [L 31 7 3,f 32 2 5,l 33 32,k 34 (.ca (.func 62) [(t 31),(t 33)]),m 7 34] (.seq (.seq (.opq [f 35 1 5,l 36 35,q 37 .lss 36 0,m 38 37,gf 39 38 false 1 5,
 gl 40 38 false 39,gm 41 38 false 1,gf 42 38 false 0 5,gl 43 38 false 42,og 44 38 false (.ia 1 (t 41) (t 43)),gl 45 38 false 44,og 46 38 false (.bin .gtr (t 40) (t 45)),
 R 47 38 46,m 48 47,gm 49 48 false 7,gm 50 48 false 1,gf 51 48 false 0 5,gl 52 48 false 51,og 53 48 false (.ia 1 (t 50) (t 52)),gl 54 48 false 53,gf 55 48 false 1 5,
 gl 56 48 false 55,og 57 48 false (.bin .sub (t 54) (t 56)),og 58 48 false (.bin .gtr (t 49) (t 57)),R 59 48 58,m 60 59,gf 61 60 false 1 5,gl 62 60 false 61,
 gm 63 60 false 7,og 64 60 false (.bin .rem (t 62) (t 63)),og 65 60 false (.bin .neq (t 64) (i 0)),R 66 60 65]) (.cond (t 66) (sq [B 6 false]
 .ret)
 .skip)) (.seq (sq [f 67 2 5,l 68 67] (.block 0 (sq [q 70 .eql 68 0,m 69 70] (.cond (t 69) (sq [f 71 3 5,L 72 7 71,o 73 (.bd [.int .i64 0,.bool false,.int .i64 0,
 .int .i64 0,.int .i64 0,.int .i64 0,.slice none 0 0] []),k 74 (.ca (.func 63) [(t 72),(t 73)]),m 6 74]
 .ret) (sq [q 76 .eql 68 11,m 75 76] (.cond (t 75) (sq [f 77 3 5,f 78 0 77,L 79 6 78,k 80 (.ca (.func 64) [(t 79)]),m 81 80,gf 82 81 true 3 5,gf 83 81 true 0 82,
 gf 84 81 true 0 83,gl 85 81 true 84,og 86 81 true (.bin .eql (t 85) (i 8)),P 87 81 86,m 88 87,gf 89 88 true 3 5,gf 90 88 true 6 89,gl 91 88 true 90,⟨some 92,
  some (88, true),.ca (.func 65) [(t 91)]⟩,P 93 88 92,m 94 93,gf 95 94 true 3 5,gf 96 94 true 6 95,gl 97 94 true 96,gm 98 94 true 1,og 99 94 true (.ln (t 98)),
 ⟨some 100, some (94, true),.ca (.func 66) [(t 97),(t 99)]⟩,P 101 94 100,m 6 101]
 .ret)
 .skip)))))) (sq [f 102 2 5,l 103 102,f 104 3 5,L 105 7 104,k 106 (.ca (.func 67) [(t 103),(t 105)]),m 107 106,gf 108 107 true 3 5,gf 109 107 true 6 108,
 gl 110 107 true 109,gm 111 107 true 1,og 112 107 true (.ln (t 111)),⟨some 113, some (107, true),.ca (.func 66) [(t 110),(t 112)]⟩,P 114 107 113,m 6 114]
 .ret))))))⟩
theorem e31 : qD Tryz.prog Tryz.f31 [(ps [0,1,2,3,4,5,6,7,8,9,10,11,12,13,14,15,16,17,18,19,20,21,22,23,24,25,26,27,28,29,30,31])] = some c31 := by kernel_rfl
def c32 : SF := ⟨30,[.t 4],(sq [k 2 (.bx 84 (t 0)),k 3 (.bx 84 (t 1)),B 4 false] (.seq (sq [f 5 0 2,l 6 5,f 7 0 3,l 8 7,p 9 .neq 6 8] (.cond (t 9) (sq [f 10 0 2,
 l 11 10,f 12 0 3,l 13 12,p 14 .lss 11 13,m 4 14]
 .ret)
 .skip)) (.seq (sq [f 15 1 2,l 16 15,f 17 1 3,l 18 17,p 19 .neq 16 18] (.cond (t 19) (sq [f 20 1 2,l 21 20,f 22 1 3,l 23 22,p 24 .lss 21 23,m 4 24]
 .ret)
 .skip)) (sq [f 25 2 2,l 26 25,f 27 2 3,l 28 27,p 29 .lss 26 28,m 4 29]
 .ret))))⟩
theorem e32 : qD Tryz.prog Tryz.f32 [] = some c32 := by kernel_rfl
def c33 : SF := ⟨15,[.t 6],(sq [B 6 false] (sq [m 7 0,m 8 1,p 9 .geq 7 8,m 10 9,gm 11 10 true 0,gm 12 10 true 2,og 13 10 true (.bin .leq (t 11) (t 12)),
 P 14 10 13,m 6 14]
 .ret))⟩
theorem e33 : qD Tryz.prog Tryz.f33 [] = some c33 := by kernel_rfl
def c34 : SF := ⟨40,[.t 8],(sq [k 4 (.bx 23 (t 0)),k 6 (.bx 50 (t 2)),w 8 0] (sq [L 10 2 4,m 11 3,k 12 (.ca (.func 48) [(t 10),(t 11)]),m 9 12] (.seq (.block 0 (sq [m 14 1,
 f 15 2 6,l 16 15,x 17 2 14 16,f 18 0 17,l 19 18,q 20 .neq 19 1,m 13 20] (.cond (t 13) (sq [w 8 2]
 .ret) (.seq (.opq [f 22 3 6,l 23 22,m 24 9,p 25 .add 23 24,m 26 1,f 27 2 6,l 28 27,x 29 2 26 28,f 30 1 29,l 31 30,z 32 31,p 33 .gtr 25 32,m 21 33]) (.cond (t 21) (sq [w 8 1]
 .ret) (sq [f 35 3 6,l 36 35,m 37 9,p 38 .rem 36 37,q 39 .neq 38 0,m 34 39] (.cond (t 34) (sq [w 8 3]
 .ret)
 .skip))))))) (sq [w 8 0]
 .ret))))⟩
theorem e34 : qD Tryz.prog Tryz.f34 [(ps [0,1,2,3,4,5,6,7,8,9,10,11,12])] = some c34 := by kernel_rfl
def c35 : SF := ⟨20,[.t 2],(sq [o 2 (.mv (.const (.slice none 0 0)))] (sq [o 3 (.mv (.const (.slice none 0 0)))] (.seq (sq [w 4 0] (.block 0 (.loop (.seq (sq [m 5 4,
 m 6 0,z 7 6,p 8 .lss 5 7] (.cond (t 8)
 .skip (.exit 0))) (.seq (.block 1 (.ops [m 11 3,m 12 0,m 13 4,x 14 2 12 13,L 15 2 14,k 16 (.ca (.func 68) [(t 15)]),k 17 (.bs 76 1 [.int .i64 0,.slice none 0 0] [(0,
 2,(t 16))]),k 18 (.ap 76 2 32 (t 11) (t 17)),m 3 18])) (.ops [m 9 4,q 10 .add 9 1,m 4 10])))))) (sq [m 19 3,m 2 19]
 .ret))))⟩
theorem e35 : qD Tryz.prog Tryz.f35 [] = some c35 := by kernel_rfl
def c36 : SF := ⟨57,[.t 6],(sq [k 3 (.bx 23 (t 0)),k 5 (.bx 50 (t 2)),o 6 (.mv (.const (.slice none 0 0)))] (sq [L 11 2 3,m 12 1,k 13 (.ca (.func 48) [(t 11),
 (t 12)]),m 7 13] (sq [m 14 7,k 15 (.ms 91 5 40 [.int .i64 0,.int .i64 0,.int .i64 0,.int .i64 0,.int .i64 0] (t 14) (t 14)),m 8 15] (.seq (sq [w 9 0] (.block 0 (.loop (.seq (sq [m 16 9,
 m 17 7,p 18 .lss 16 17] (.cond (t 18)
 .skip (.exit 0))) (.seq (.block 1 (sq [m 21 9,m 10 21] (.seq (sq [f 22 0 3,l 23 22] (.cond (t 23) (.ops [m 24 7,q 25 .sub 24 1,m 26 9,p 27 .sub 25 26,
 m 10 27])
 .skip)) (sq [m 28 8,m 29 9,f 30 1 5,l 31 30,m 32 10,o 33 (.bin .mul (i 8) (t 32)),p 34 .shr 31 33,q 35 .and 34 255,o 36 (.bd [.int .i64 0,.int .i64 0,
 .int .i64 0,.int .i64 0,.int .i64 0] [(0,1,(i 1)),(1,1,(t 35))]),x 37 5 28 29,kn (.st [] 5 (t 37) (t 36))] (sq [f 38 0 5,l 39 38] (.cond (t 39) (sq [m 40 8,
 m 41 9,o 42 (.bd [.int .i64 0,.int .i64 0,.int .i64 0,.int .i64 0,.int .i64 0] [(0,1,(i 1))]),x 43 5 40 41,kn (.st [] 5 (t 43) (t 42))] (sq [f 44 2 5,l 45 44,
 q 46 .gtr 45 0] (.cond (t 46) (.ops [m 47 8,m 48 9,f 49 2 5,l 50 49,f 51 3 5,l 52 51,m 53 9,o 54 (.bd [.int .i64 0,.int .i64 0,.int .i64 0,.int .i64 0,
 .int .i64 0] [(0,1,(i 2)),(2,1,(t 50)),(3,1,(t 52)),(4,1,(t 53))]),x 55 5 47 48,kn (.st [] 5 (t 55) (t 54))])
 .skip)))
 .skip)))))) (.ops [m 19 9,q 20 .add 19 1,m 9 20])))))) (sq [m 56 8,m 6 56]
 .ret)))))⟩
theorem e36 : qD Tryz.prog Tryz.f36 [] = some c36 := by kernel_rfl
def c37 : SF := ⟨13,[.t 4],(sq [k 2 (.bx 28 (t 0)),B 4 false] (sq [L 5 7 2,k 6 (.ca (.func 58) [(t 5)]),m 7 6,gm 8 7 true 1,og 9 7 true (.mf (.func 70) [] [(t 2)]),
 ⟨some 10, some (7, true),.ca (.func 69) [(t 8),(t 9)]⟩,og 11 7 true (.un .not (t 10)),P 12 7 11,m 4 12]
 .ret))⟩
theorem e37 : qD Tryz.prog Tryz.f37 [] = some c37 := by kernel_rfl
def c38 : SF := ⟨19,[.t 4],(sq [k 2 (.bx 28 (t 0)),k 3 (.bx 62 (t 1)),B 4 false] (sq [L 5 7 3,k 6 (.ca (.func 40) [(i 7),(t 5)]),m 7 6,gf 8 7 true 6 3,
 gl 9 7 true 8,gf 10 7 true 2 2,gl 11 7 true 10,og 12 7 true (.ln (t 11)),gf 13 7 true 3 2,gl 14 7 true 13,og 15 7 true (.ln (t 14)),og 16 7 true (.bin .add (t 12) (t 15)),
 ⟨some 17, some (7, true),.ca (.func 41) [(t 9),(t 16)]⟩,P 18 7 17,m 4 18]
 .ret))⟩
theorem e38 : qD Tryz.prog Tryz.f38 [] = some c38 := by kernel_rfl
def c39 : SF := ⟨9,[.t 2],(sq [B 2 false] (sq [m 3 0,q 4 .geq 3 1,m 5 4,gm 6 5 true 0,og 7 5 true (.bin .leq (t 6) (i 7)),P 8 5 7,m 2 8]
 .ret))⟩
theorem e39 : qD Tryz.prog Tryz.f39 [] = some c39 := by kernel_rfl
def c40 : SF := ⟨37,[.t 4],(sq [k 3 (.bx 62 (t 1)),B 4 false] (.seq (.block 0 (sq [m 6 0,k 7 (.ca (.func 72) [(t 6)]),m 5 7] (.cond (t 5) (.seq (.opd [f 8 0 3,
 L 9 6 8,k 10 (.ca (.func 73) [(t 9)]),m 11 10,gf 12 11 true 0 3,gf 13 11 true 0 12,gl 14 11 true 13,gm 15 11 true 0,⟨some 16, some (11, true),.ca (.func 74) [(t 15)]⟩,
 og 17 11 true (.bin .eql (t 14) (t 16)),P 18 11 17,m 19 18,gf 20 19 true 6 3,gl 21 19 true 20,og 22 19 true (.ln (t 21)),og 23 19 true (.bin .eql (t 22) (i 0)),
 P 24 19 23,m 4 24])
 .ret) (sq [m 26 0,q 27 .eql 26 7,m 25 27] (.cond (t 25) (sq [f 28 0 3,L 29 6 28,o 30 (.bd [.int .i64 0,.bool false,.int .i64 0,.int .i64 0,.int .i64 0,
 .int .i64 0] []),o 31 (.eqs (.st [(false,0,1,.i),(false,1,1,.b),(false,2,1,.i),(false,3,1,.i),(false,4,1,.i),(false,5,1,.i)]) false (t 29) (t 30)),m 32 31,
 gf 33 32 true 6 3,gl 34 32 true 33,⟨some 35, some (32, true),.ca (.func 75) [(t 34)]⟩,P 36 32 35,m 4 36]
 .ret)
 .skip))))) (sq [B 4 false]
 .ret)))⟩
theorem e40 : qD Tryz.prog Tryz.f40 [(ps [0,1,2,3,4,5,6,7,8,9,10,11,12,13,14,15,16,17])] = some c40 := by kernel_rfl
def c41 : SF := ⟨9,[.t 4],(sq [k 3 (.bx 3 (t 1)),B 4 false] (sq [m 5 0,o 6 (.mf (.func 77) [] [(t 3)]),k 7 (.ca (.func 76) [(t 5),(t 6)]),u 8 7,m 4 8]
 .ret))⟩
theorem e41 : qD Tryz.prog Tryz.f41 [] = some c41 := by kernel_rfl
def c42 : SF := ⟨87,[.c true 3 10,.t 11],(sq [k 5 (.bx 28 (t 0)),k 6 (.bx 46 (t 1)),k 7 (.bx 62 (t 2)),k 9 (.bx 62 (t 4)),k 10 (.al 46 [.bool false,.slice none 0 0,
 .slice none 0 0]),o 11 (.mv (.const (.slice none 0 0)))] (sq [o 19 (.bd [.int .i64 0,.bool false,.int .i64 0,.int .i64 0,.int .i64 0,.int .i64 0,.slice none 0 0,
 .slice none 0 0] []),k 20 (.bx 130 (t 19)),m 12 20] (sq [L 21 7 5,L 22 3 6,o 23 (.bd [.bool false,.int .i64 0,.slice none 0 0,.slice none 0 0,.slice none 0 0,
 .slice none 0 0,.slice none 0 0,.bool false,.slice none 0 0,.slice none 0 0] [(0,7,(t 21)),(7,3,(t 22))]),k 13 (.al 132 [.bool false,.int .i64 0,.slice none 0 0,
 .slice none 0 0,.slice none 0 0,.slice none 0 0,.slice none 0 0,.bool false,.slice none 0 0,.slice none 0 0]),kn (.st [] 10 (t 13) (t 23))] (.seq (sq [f 24 0 6,
 l 25 24,m 26 25,gm 27 26 false 3,gL 28 26 false 7 9,⟨some 29, some (26, false),.ca (.func 78) [(t 27),(t 28)]⟩,R 30 26 29] (.cond (t 30) (sq [o 31 (.bd [.bool false,
 .slice none 0 0,.slice none 0 0] [(0,1,(b true))]),kn (.st [] 3 (t 10) (t 31)),o 11 (.mv (.const (.slice none 0 0)))]
 .ret)
 .skip)) (sq [L 32 10 13,L 33 7 7,m 34 3,m 35 12,k 36 (.ca (.func 79) [(t 32),(t 33),(t 34),(t 35)]),m 14 36] (sq [m 38 12,k 39 (.ca (.func 80) [(t 38)]),
 m 37 39,e 40 37 0,e 41 37 1,k 15 (.al 62 [.int .i64 0,.bool false,.int .i64 0,.int .i64 0,.int .i64 0,.int .i64 0,.slice none 0 0]),kn (.st [] 7 (t 15) (t 40)),
 m 16 41] (.seq (sq [m 42 14,z 43 42] (.block 0 (sq [q 45 .eql 43 0,m 44 45] (.cond (t 44) (sq [o 46 (.bd [.bool false,.slice none 0 0,.slice none 0 0] [(0,
 1,(b true))]),m 47 16,kn (.st [] 3 (t 10) (t 46)),m 11 47]
 .ret) (sq [q 49 .eql 43 1,m 48 49] (.cond (t 48) (.seq (.opd [L 50 10 13,m 51 14,o 52 (.ia 2 (t 51) (i 0)),L 53 2 52,m 54 3,L 55 7 9,L 57 10 13,m 58 14,
 o 59 (.ia 2 (t 58) (i 0)),f 60 0 59,l 61 60,m 64 16,k 56 (.ca (.func 81) [(t 50),(t 53),(t 54),(t 55)]),k 62 (.ca (.func 82) [(t 57),(t 61)]),o 63 (.bd [.bool false,
 .slice none 0 0,.slice none 0 0] [(1,1,(t 56)),(2,1,(t 62))]),kn (.st [] 3 (t 10) (t 63)),m 11 64])
 .ret)
 .skip)))))) (.seq (sq [m 65 14,z 66 65,w 67 0] (.block 1 (.loop (sq [p 68 .lss 67 66] (.seq (.cond (t 68)
 .skip (.exit 1)) (.seq (.block 2 (sq [x 69 2 65 67,L 70 2 69,k 18 (.al 138 [.int .i64 0,.int .i64 0]),kn (.st [] 2 (t 18) (t 70))] (.ops [L 71 10 13,L 72 2 18,
 m 73 3,L 74 7 9,k 75 (.ca (.func 83) [(t 71),(t 72),(t 73),(t 74)]),f 76 7 13,f 77 1 76,kn (.st [] 1 (t 77) (t 75))]))) (.ops [q 78 .add 67 1,m 67 78]))))))) (.seq (.opd [f 79 7 13,
 f 80 1 79,l 81 80,f 82 2 6,l 83 82,m 86 16,k 84 (.ca (.func 84) [(t 83)]),o 85 (.bd [.bool false,.slice none 0 0,.slice none 0 0] [(1,1,(t 81)),(2,1,(t 84))]),
 kn (.st [] 3 (t 10) (t 85)),m 11 86])
 .ret)))))))))⟩
theorem e42 : qD Tryz.prog Tryz.f42 [(ps [0,1,2,3,4,5,7,8,9,10,11,14,6,12,13,15,16]),(ps [0,1,2,3,4,7,5,6,8,9])] = some c42 := by kernel_rfl
def c43 : SF := ⟨32,[.c true 3 2],(sq [k 1 (.bx 46 (t 0)),k 2 (.al 46 [.bool false,.slice none 0 0,.slice none 0 0])] (.seq (.opd [f 4 1 1,l 5 4,f 7 2 1,
 l 8 7,k 6 (.ca (.func 85) [(t 5)]),f 10 1 1,k 9 (.ca (.func 84) [(t 8)]),kn (.st [] 1 (t 10) (t 6)),f 11 2 1,kn (.st [] 1 (t 11) (t 9))]) (.seq (sq [f 12 1 1,
 l 13 12,z 14 13,w 15 0] (.block 0 (.loop (sq [p 16 .lss 15 14] (.seq (.cond (t 16)
 .skip (.exit 0)) (.seq (.block 1 (sq [m 17 15,m 3 17] (.opd [f 18 1 1,l 19 18,m 20 3,f 21 1 1,l 22 21,m 23 3,x 24 10 22 23,f 25 3 24,L 26 7 25,k 27 (.ca (.func 50) [(t 26)]),
 x 28 10 19 20,f 29 3 28,kn (.st [] 7 (t 29) (t 27))]))) (.ops [q 30 .add 15 1,m 15 30]))))))) (sq [L 31 3 1,kn (.st [] 3 (t 2) (t 31))]
 .ret))))⟩
theorem e43 : qD Tryz.prog Tryz.f43 [(ps [0,1,3,4,2,6,5,7,8,9]),(ps [0,1,2,3,4,5,6,7,8,9,10,11,12])] = some c43 := by kernel_rfl
def c44 : SF := ⟨10,[.c true 6 4],(sq [k 4 (.al 59 [.int .i64 0,.bool false,.int .i64 0,.int .i64 0,.int .i64 0,.int .i64 0])] (sq [m 5 0,m 6 1,m 7 1,m 8 1,
 o 9 (.bd [.int .i64 0,.bool false,.int .i64 0,.int .i64 0,.int .i64 0,.int .i64 0] [(0,1,(t 5)),(2,1,(t 6)),(3,1,(t 7)),(5,1,(t 8))]),kn (.st [] 6 (t 4) (t 9))]
 .ret))⟩
theorem e44 : qD Tryz.prog Tryz.f44 [] = some c44 := by kernel_rfl
def c45 : SF := ⟨19,[.t 4],(sq [w 4 0] (.seq (sq [w 5 0] (.block 0 (.loop (.seq (sq [m 6 5,m 7 0,z 8 7,p 9 .lss 6 8] (.cond (t 9)
 .skip (.exit 0))) (.seq (.block 1 (sq [m 12 0,m 13 5,x 14 1 12 13,l 15 14,m 16 1,p 17 .eql 15 16] (.cond (t 17) (sq [m 18 5,m 4 18]
 .ret)
 .skip))) (.ops [m 10 5,q 11 .add 10 1,m 5 11])))))) (sq [w 4 (-1)]
 .ret)))⟩
theorem e45 : qD Tryz.prog Tryz.f45 [] = some c45 := by kernel_rfl
def c46 : SF := ⟨91,[.t 6],(sq [k 3 (.bx 28 (t 0)),k 5 (.bx 84 (t 2)),B 6 false] (.seq (sq [m 10 1,f 11 0 5,l 12 11,x 13 2 10 12,f 14 0 13,l 15 14,q 16 .neq 15 1] (.cond (t 16) (sq [B 6 true]
 .ret)
 .skip)) (.seq (.opq [m 17 1,f 18 0 5,l 19 18,x 20 2 17 19,f 21 1 20,l 22 21,f 23 1 5,l 24 23,x 25 5 22 24,L 26 5 25,k 7 (.al 91 [.int .i64 0,.int .i64 0,
 .int .i64 0,.int .i64 0,.int .i64 0]),kn (.st [] 5 (t 7) (t 26))]) (.seq (sq [f 27 2 5,l 28 27] (.block 0 (sq [q 30 .eql 28 0,m 29 30] (.cond (t 29) (sq [f 31 0 7,
 l 32 31,q 33 .eql 32 0,m 6 33]
 .ret) (sq [q 35 .eql 28 11,m 34 35] (.cond (t 34) (sq [f 36 0 7,l 37 36,q 38 .eql 37 2,m 39 38,gf 40 39 true 3 5,gf 41 39 true 0 40,gL 42 39 true 6 41,
 gf 43 39 true 4 7,gl 44 39 true 43,⟨some 45, some (39, true),.ca (.func 53) [(t 42),(t 44)]⟩,P 46 39 45,m 47 46,gf 48 47 true 3 5,gf 49 47 true 6 48,gl 50 47 true 49,
 gf 51 47 true 2 7,gl 52 47 true 51,gf 53 47 true 3 7,gl 54 47 true 53,⟨some 55, some (47, true),.ca (.func 54) [(t 50),(t 52),(t 54)]⟩,P 56 47 55,m 6 56]
 .ret)
 .skip)))))) (.seq (.opd [f 58 0 3,L 59 2 58,f 60 2 5,l 61 60,m 62 1,f 63 0 5,l 64 63,x 65 2 62 64,f 66 1 65,l 67 66,f 68 1 5,l 69 68,f 70 1 5,l 71 70,
 L 72 7 3,f 73 2 5,l 74 73,k 75 (.ca (.func 62) [(t 72),(t 74)]),p 76 .add 71 75,o 77 (.sl 5 (t 67) (some (t 69)) (some (t 76))),k 78 (.ca (.func 47) [(t 59),
 (t 61),(t 77)]),m 57 78,e 79 57 0,e 80 57 1,k 8 (.al 50 [.bool false,.int .i64 0,.int .i64 0,.int .i64 0]),kn (.st [] 4 (t 8) (t 79)),m 9 80]) (sq [m 81 9,
 q 82 .eql 81 0,m 83 82,gf 84 83 true 2 5,gl 85 83 true 84,gf 86 83 true 3 5,gL 87 83 true 7 86,gL 88 83 true 4 8,⟨some 89, some (83, true),.ca (.func 25) [(t 85),
 (t 87),(t 88)]⟩,P 90 83 89,m 6 90]
 .ret))))))⟩
theorem e46 : qD Tryz.prog Tryz.f46 [(ps [0,1,2,3,4,5,6,7,8,9,10,11]),(ps [0,1,2,3,4,5,6,7,8,9,10,11,12,13,14,15,16,17,18,19,20,21,22,23,24,25,26])] = some c46 := by kernel_rfl
def c47 : SF := ⟨106,[.c true 4 6,.t 7],(sq [k 3 (.bx 23 (t 0)),k 6 (.al 50 [.bool false,.int .i64 0,.int .i64 0,.int .i64 0]),w 7 0] (sq [w 8 0] (.seq (sq [w 9 0] (.block 0 (.loop (.seq (sq [m 15 9,
 m 16 2,z 17 16,p 18 .lss 15 17] (.cond (t 18)
 .skip (.exit 0))) (.seq (.block 1 (.seq (sq [m 21 2,m 22 9,x 23 5 21 22,f 24 0 23,l 25 24,q 26 .eql 25 0] (.cond (t 26) (sq [o 27 (.bd [.bool false,.int .i64 0,
 .int .i64 0,.int .i64 0] []),kn (.st [] 4 (t 6) (t 27)),w 7 7]
 .ret)
 .skip)) (sq [m 28 2,m 29 9,x 30 5 28 29,f 31 0 30,l 32 31,q 33 .eql 32 2] (.cond (t 33) (.ops [m 34 8,q 35 .add 34 1,m 8 35])
 .skip)))) (.ops [m 19 9,q 20 .add 19 1,m 9 20])))))) (.seq (sq [m 36 1,q 37 .eql 36 7] (.cond (t 37) (.seq (sq [m 38 8,q 39 .eql 38 0] (.cond (t 39) (.seq (sq [w 10 0] (.block 2 (.loop (.seq (sq [m 40 10,
 m 41 2,z 42 41,p 43 .lss 40 42] (.cond (t 43)
 .skip (.exit 2))) (.seq (.block 3 (sq [m 46 2,m 47 10,x 48 5 46 47,f 49 1 48,l 50 49,q 51 .neq 50 0] (.cond (t 51) (sq [o 52 (.bd [.bool false,.int .i64 0,
 .int .i64 0,.int .i64 0] []),kn (.st [] 4 (t 6) (t 52)),w 7 8]
 .ret)
 .skip))) (.ops [m 44 10,q 45 .add 44 1,m 10 45])))))) (sq [o 53 (.bd [.bool false,.int .i64 0,.int .i64 0,.int .i64 0] [(0,1,(b true))]),kn (.st [] 4 (t 6) (t 53)),
 w 7 0]
 .ret))
 .skip)) (.seq (.opq [m 54 2,o 55 (.ia 5 (t 54) (i 0)),f 56 2 55,l 57 56,m 58 2,o 59 (.ia 5 (t 58) (i 0)),f 60 3 59,l 61 60,o 62 (.bd [.bool false,.int .i64 0,
 .int .i64 0,.int .i64 0] [(0,1,(b true)),(2,1,(t 57)),(3,1,(t 61))]),k 11 (.al 50 [.bool false,.int .i64 0,.int .i64 0,.int .i64 0]),kn (.st [] 4 (t 11) (t 62))]) (.seq (sq [m 63 2,
 o 64 (.ia 5 (t 63) (i 0)),f 65 0 64,l 66 65,q 67 .neq 66 2,m 68 67,gL 69 68 false 2 3,gm 70 68 false 1,gL 71 68 false 4 11,⟨some 72, some (68, false),.ca (.func 36) [(t 69),
 (t 70),(t 71)]⟩,gm 73 68 false 2,⟨some 74, some (68, false),.ca (.func 86) [(t 72),(t 73)]⟩,og 75 68 false (.un .not (t 74)),R 76 68 75] (.cond (t 76) (sq [o 77 (.bd [.bool false,
 .int .i64 0,.int .i64 0,.int .i64 0] []),kn (.st [] 4 (t 6) (t 77)),w 7 8]
 .ret)
 .skip)) (sq [L 78 4 11,kn (.st [] 4 (t 6) (t 78)),w 7 0]
 .ret))))
 .skip)) (.seq (sq [m 79 8,q 80 .gtr 79 0] (.cond (t 80) (sq [o 81 (.bd [.bool false,.int .i64 0,.int .i64 0,.int .i64 0] []),kn (.st [] 4 (t 6) (t 81)),
 w 7 8]
 .ret)
 .skip)) (sq [w 12 0] (.seq (sq [w 13 0] (.block 4 (.loop (.seq (sq [m 82 13,m 83 2,z 84 83,p 85 .lss 82 84] (.cond (t 85)
 .skip (.exit 4))) (.seq (.block 5 (sq [m 88 2,z 89 88,q 90 .sub 89 1,m 91 13,p 92 .sub 90 91,m 14 92] (.seq (sq [f 93 0 3,l 94 93] (.cond (t 94) (.ops [m 95 13,
 m 14 95])
 .skip)) (.ops [m 96 12,o 97 (.bin .shl (t 96) (.const (.int .u64 8))),m 98 2,m 99 14,x 100 5 98 99,f 101 1 100,l 102 101,p 103 .or 97 102,m 12 103])))) (.ops [m 86 13,
 q 87 .add 86 1,m 13 87])))))) (sq [m 104 12,o 105 (.bd [.bool false,.int .i64 0,.int .i64 0,.int .i64 0] [(1,1,(t 104))]),kn (.st [] 4 (t 6) (t 105)),w 7 0]
 .ret))))))))⟩
theorem e47 : qD Tryz.prog Tryz.f47 [(ps [0,1,2,3,4,5,6,7,8,9,10])] = some c47 := by kernel_rfl
def c48 : SF := ⟨12,[.t 4],(sq [k 2 (.bx 23 (t 0)),w 4 0] (.seq (sq [m 5 1,q 6 .eql 5 7] (.cond (t 6) (sq [f 7 1 2,l 8 7,m 4 8]
 .ret)
 .skip)) (sq [m 9 1,k 10 (.ca (.func 15) [(t 9)]),q 11 .quo 10 8,m 4 11]
 .ret)))⟩
theorem e48 : qD Tryz.prog Tryz.f48 [] = some c48 := by kernel_rfl
def c49 : SF := ⟨74,[.c true 7 8,.t 9],(sq [k 4 (.bx 28 (t 0)),k 5 (.bx 46 (t 1)),k 6 (.bx 62 (t 2)),k 8 (.al 62 [.int .i64 0,.bool false,.int .i64 0,.int .i64 0,
 .int .i64 0,.int .i64 0,.slice none 0 0]),o 9 (.mv (.const (.slice none 0 0)))] (sq [m 17 3,k 18 (.ca (.func 87) [(t 17)]),o 19 (.bd [.int .i64 0,.bool false,
 .int .i64 0,.int .i64 0,.int .i64 0,.int .i64 0,.slice none 0 0,.slice none 0 0] [(0,7,(t 18))]),k 20 (.bx 130 (t 19)),m 10 20] (.seq (sq [f 21 0 5,l 22 21] (.cond (t 22) (sq [m 23 10,
 k 24 (.ca (.func 80) [(t 23)]),e 25 24 0,e 26 24 1,kn (.st [] 7 (t 8) (t 25)),m 9 26]
 .ret)
 .skip)) (sq [L 27 7 4,L 28 3 5,o 29 (.bd [.bool false,.int .i64 0,.slice none 0 0,.slice none 0 0,.slice none 0 0,.slice none 0 0,.slice none 0 0,.bool false,
 .slice none 0 0,.slice none 0 0] [(0,7,(t 27)),(7,3,(t 28))]),k 11 (.al 132 [.bool false,.int .i64 0,.slice none 0 0,.slice none 0 0,.slice none 0 0,.slice none 0 0,
 .slice none 0 0,.bool false,.slice none 0 0,.slice none 0 0]),kn (.st [] 10 (t 11) (t 29))] (.seq (sq [L 30 10 11,L 31 7 6,m 32 3,m 33 10,k 34 (.ca (.func 79) [(t 30),
 (t 31),(t 32),(t 33)]),z 35 34,w 36 0] (.block 0 (.loop (sq [p 37 .lss 36 35] (.seq (.cond (t 37)
 .skip (.exit 0)) (.seq (.block 1 (sq [x 38 2 34 36,L 39 2 38,k 13 (.al 138 [.int .i64 0,.int .i64 0]),kn (.st [] 2 (t 13) (t 39))] (sq [L 40 10 11,f 41 0 13,
 l 42 41,f 43 1 13,l 44 43,m 45 3,k 46 (.ca (.func 88) [(t 40),(t 42),(t 44),(t 45)]),k 14 (.al 130 [.int .i64 0,.bool false,.int .i64 0,.int .i64 0,.int .i64 0,
 .int .i64 0,.slice none 0 0,.slice none 0 0]),kn (.st [] 8 (t 14) (t 46))] (.seq (sq [f 47 7 14,l 48 47,z 49 48,w 50 0] (.block 2 (.loop (sq [p 51 .lss 50 49] (.seq (.cond (t 51)
 .skip (.exit 2)) (.seq (.block 3 (sq [x 52 1 48 50,l 53 52,m 16 53] (.ops [m 54 10,m 55 16,k 56 (.ca (.func 89) [(t 54),(t 55)])]))) (.ops [q 57 .add 50 1,
 m 50 57]))))))) (.opq [m 58 10,m 59 3,m 60 10,o 61 (.nc (t 60)),f 62 0 61,L 63 7 62,f 64 0 14,L 65 7 64,k 66 (.ca (.func 90) [(t 59),(t 63),(t 65)]),o 67 (.nc (t 58)),
 f 68 0 67,kn (.st [] 7 (t 68) (t 66))]))))) (.ops [q 69 .add 36 1,m 36 69]))))))) (sq [m 70 10,k 71 (.ca (.func 80) [(t 70)]),e 72 71 0,e 73 71 1,kn (.st [] 7 (t 8) (t 72)),
 m 9 73]
 .ret))))))⟩
theorem e49 : qD Tryz.prog Tryz.f49 [(ps [0,1,2,3,4,5,6,7,8,9,10,11])] = some c49 := by kernel_rfl
def c50 : SF := ⟨9,[.c true 7 2],(sq [k 1 (.bx 62 (t 0)),k 2 (.al 62 [.int .i64 0,.bool false,.int .i64 0,.int .i64 0,.int .i64 0,.int .i64 0,.slice none 0 0])] (.seq (.opd [f 3 0 1,
 L 4 6 3,f 5 6 1,l 6 5,k 7 (.ca (.func 91) [(t 6)]),o 8 (.bd [.int .i64 0,.bool false,.int .i64 0,.int .i64 0,.int .i64 0,.int .i64 0,.slice none 0 0] [(0,
 6,(t 4)),(6,1,(t 7))]),kn (.st [] 7 (t 2) (t 8))])
 .ret))⟩
theorem e50 : qD Tryz.prog Tryz.f50 [(ps [0,1,2,3,4,5,6])] = some c50 := by kernel_rfl
def c51 : SF := ⟨33,[.t 4],(sq [k 3 (.bx 62 (t 1)),B 4 false] (.seq (sq [m 7 0,q 8 .neq 7 7] (.cond (t 8) (sq [f 9 0 3,L 10 6 9,k 11 (.ca (.func 92) [(t 10),
 (i 0)]),q 12 .lss 11 0,m 4 12]
 .ret)
 .skip)) (.seq (sq [w 5 0] (.block 0 (.loop (.seq (sq [m 13 5,f 14 6 3,l 15 14,z 16 15,p 17 .lss 13 16] (.cond (t 17)
 .skip (.exit 0))) (.seq (.block 1 (sq [f 20 6 3,l 21 20,m 22 5,x 23 7 21 22,f 24 1 23,L 25 6 24,k 26 (.ca (.func 92) [(t 25),(i 0)]),m 6 26] (sq [m 27 6,
 q 28 .geq 27 0,m 29 28,gm 30 29 true 6,og 31 29 true (.bin .leq (t 30) (i 32)),P 32 29 31] (.cond (t 32) (sq [B 4 false]
 .ret)
 .skip)))) (.ops [m 18 5,q 19 .add 18 1,m 5 19])))))) (sq [B 4 true]
 .ret))))⟩
theorem e51 : qD Tryz.prog Tryz.f51 [] = some c51 := by kernel_rfl
def c52 : SF := ⟨74,[.c true 4 4,.t 5],(sq [k 3 (.bx 62 (t 1)),k 4 (.al 50 [.bool false,.int .i64 0,.int .i64 0,.int .i64 0]),B 5 false] (.seq (sq [m 13 0,
 q 14 .neq 13 7] (.cond (t 14) (sq [f 16 0 3,L 17 6 16,k 18 (.ca (.func 93) [(t 17)]),m 15 18,e 19 15 0,e 20 15 1,m 6 19,m 7 20] (sq [m 21 6,o 22 (.bd [.bool false,
 .int .i64 0,.int .i64 0,.int .i64 0] [(1,1,(t 21))]),m 23 7,kn (.st [] 4 (t 4) (t 22)),m 5 23]
 .ret))
 .skip)) (sq [k 8 (.al 50 [.bool false,.int .i64 0,.int .i64 0,.int .i64 0])] (sq [w 9 0] (.seq (sq [w 10 0] (.block 0 (.loop (.seq (sq [m 24 10,f 25 6 3,
 l 26 25,z 27 26,p 28 .lss 24 27] (.cond (t 28)
 .skip (.exit 0))) (.seq (.block 1 (sq [f 31 6 3,l 32 31,m 33 10,x 34 7 32 33,f 35 1 34,L 36 6 35,k 37 (.ca (.func 92) [(t 36),(i 0)]),m 11 37] (.seq (sq [m 38 11,
 q 39 .lss 38 0,m 40 39,gm 41 40 false 11,og 42 40 false (.bin .gtr (t 41) (i 32)),R 43 40 42] (.cond (t 43) (.exit 1)
 .skip)) (sq [m 44 9,q 45 .add 44 1,m 9 45] (sq [f 46 6 3,l 47 46,m 48 10,x 49 7 47 48,f 50 1 49,L 51 6 50,m 52 11,q 53 .add 52 1,k 54 (.ca (.func 92) [(t 51),
 (t 53)]),m 12 54] (.seq (sq [m 55 12,q 56 .geq 55 0,m 57 56,gm 58 57 true 12,og 59 57 true (.bin .leq (t 58) (i 32)),P 60 57 59] (.cond (t 60) (.ops [m 61 9,
 q 62 .add 61 1,m 9 62])
 .skip)) (.ops [f 63 6 3,l 64 63,m 65 10,x 66 7 64 65,f 67 0 66,l 68 67,m 69 11,o 70 (.bd [.bool false,.int .i64 0,.int .i64 0,.int .i64 0] [(0,1,(b true)),
 (2,1,(t 68)),(3,1,(t 69))]),kn (.st [] 4 (t 8) (t 70))]))))))) (.ops [m 29 10,q 30 .add 29 1,m 10 30])))))) (sq [L 71 4 8,m 72 9,q 73 .eql 72 1,kn (.st [] 4 (t 4) (t 71)),
 m 5 73]
 .ret))))))⟩
theorem e52 : qD Tryz.prog Tryz.f52 [] = some c52 := by kernel_rfl
def c53 : SF := ⟨37,[.t 4],(sq [k 2 (.bx 59 (t 0)),B 4 false] (.seq (sq [f 5 1 2,l 6 5,m 7 6,gm 8 7 false 1,gf 9 7 false 4 2,gl 10 7 false 9,og 11 7 false (.bin .andNot (t 8) (t 10)),
 gf 12 7 false 5 2,gl 13 7 false 12,og 14 7 false (.bin .neq (t 11) (t 13)),R 15 7 14] (.cond (t 15) (sq [B 4 false]
 .ret)
 .skip)) (.seq (sq [f 16 2 2,l 17 16,f 18 3 2,l 19 18,p 20 .leq 17 19] (.cond (t 20) (sq [m 21 1,f 22 2 2,l 23 22,f 24 3 2,l 25 24,k 26 (.ca (.func 33) [(t 21),
 (t 23),(t 25)]),m 4 26]
 .ret)
 .skip)) (sq [m 27 1,f 28 2 2,l 29 28,p 30 .geq 27 29,m 31 30,gm 32 31 false 1,gf 33 31 false 3 2,gl 34 31 false 33,og 35 31 false (.bin .leq (t 32) (t 34)),
 R 36 31 35,m 4 36]
 .ret))))⟩
theorem e53 : qD Tryz.prog Tryz.f53 [] = some c53 := by kernel_rfl
def c54 : SF := ⟨30,[.t 6],(sq [B 6 false] (.seq (sq [w 7 0] (.block 0 (.loop (.seq (sq [m 8 7,m 9 0,z 10 9,p 11 .lss 8 10] (.cond (t 11)
 .skip (.exit 0))) (.seq (.block 1 (sq [m 14 0,m 15 7,x 16 7 14 15,f 17 0 16,l 18 17,m 19 1,p 20 .eql 18 19,m 21 20,gm 22 21 true 0,gm 23 21 true 7,og 24 21 true (.ia 7 (t 22) (t 23)),
 gf 25 21 true 1 24,gL 26 21 true 6 25,gm 27 21 true 2,⟨some 28, some (21, true),.ca (.func 53) [(t 26),(t 27)]⟩,P 29 21 28] (.cond (t 29) (sq [B 6 true]
 .ret)
 .skip))) (.ops [m 12 7,q 13 .add 12 1,m 7 13])))))) (sq [B 6 false]
 .ret)))⟩
theorem e54 : qD Tryz.prog Tryz.f54 [] = some c54 := by kernel_rfl
def c55 : SF := ⟨7,[.c true 7 0],(sq [k 0 (.al 28 [.bool false,.int .i64 0,.slice none 0 0,.slice none 0 0,.slice none 0 0,.slice none 0 0,.slice none 0 0])] (sq [o 1 (.bd [.bool false,
 .int .i64 0] [(1,1,(i 4))]),k 2 (.bs 3 1 [.int .i64 0] [(0,1,(i 1))]),o 3 (.bd [.int .i64 0,.int .i64 0,.int .i64 0,.int .i64 0,.int .i64 0,.slice none 0 0,
 .slice none 0 0] [(0,1,(i 7))]),k 4 (.bs 37 1 [.int .i64 0,.int .i64 0,.int .i64 0,.int .i64 0,.int .i64 0,.slice none 0 0,.slice none 0 0] [(0,7,(t 3))]),
 k 5 (.bs 3 1 [.int .i64 0] [(0,1,(i 0))]),o 6 (.bd [.bool false,.int .i64 0,.slice none 0 0,.slice none 0 0,.slice none 0 0,.slice none 0 0,.slice none 0 0] [(0,
 2,(t 1)),(2,1,(t 2)),(5,1,(t 4)),(6,1,(t 5))]),kn (.st [] 7 (t 0) (t 6))]
 .ret))⟩
theorem e55 : qD Tryz.prog Tryz.f55 [] = some c55 := by kernel_rfl
def c56 : SF := ⟨23,[.t 6,.t 7],(sq [k 3 (.bx 28 (t 0)),k 4 (.bx 46 (t 1)),k 5 (.bx 42 (t 2)),B 6 false,w 7 0] (.seq (sq [L 8 7 3,L 9 3 4,k 10 (.bs 46 1 [.bool false,
 .slice none 0 0,.slice none 0 0] [(0,3,(t 9))]),k 11 (.ca (.func 37) [(t 8),(t 10)]),u 12 11,m 13 12,gL 14 13 false 7 3,gL 15 13 false 5 5,⟨some 16, some (13,
  false),.ca (.func 59) [(t 14),(t 15)]⟩,og 17 13 false (.un .not (t 16)),R 18 13 17] (.cond (t 18) (sq [B 6 false,w 7 1]
 .ret)
 .skip)) (sq [L 19 7 3,L 20 3 4,L 21 5 5,k 22 (.ca (.func 94) [(t 19),(t 20),(t 21)]),m 6 22,w 7 0]
 .ret)))⟩
theorem e56 : qD Tryz.prog Tryz.f56 [] = some c56 := by kernel_rfl
def c57 : SF := ⟨78,[.t 6],(sq [k 3 (.bx 28 (t 0)),k 4 (.bx 46 (t 1)),k 5 (.bx 42 (t 2)),B 6 false] (.seq (sq [L 12 7 3,L 13 3 4,L 14 5 5,k 15 (.ca (.func 21) [(t 12),
 (t 13),(t 14)]),u 16 15] (.cond (t 16) (sq [B 6 false]
 .ret)
 .skip)) (.seq (sq [w 7 1] (.block 0 (.loop (.seq (sq [m 17 7,f 18 0 5,l 19 18,z 20 19,p 21 .lss 17 20] (.cond (t 21)
 .skip (.exit 0))) (.seq (.block 1 (sq [w 8 0] (.block 2 (.loop (.seq (sq [m 24 8,f 25 0 5,l 26 25,m 27 7,x 28 2 26 27,f 29 1 28,l 30 29,z 31 30,p 32 .lss 24 31] (.cond (t 32)
 .skip (.exit 2))) (.seq (.block 3 (sq [B 9 false] (.seq (sq [w 10 0] (.block 4 (.loop (.seq (sq [m 35 10,f 36 1 4,l 37 36,z 38 37,p 39 .lss 35 38,m 40 39,
 gm 41 40 true 9,og 42 40 true (.un .not (t 41)),P 43 40 42] (.cond (t 43)
 .skip (.exit 4))) (.seq (.block 5 (sq [f 46 1 4,l 47 46,m 48 10,x 49 10 47 48,L 50 10 49,k 11 (.al 84 [.int .i64 0,.int .i64 0,.int .i64 0,.int .i64 0,
 .bool false,.int .i64 0,.int .i64 0,.int .i64 0,.int .i64 0,.slice none 0 0]),kn (.st [] 10 (t 11) (t 50))] (.opd [f 51 0 11,l 52 51,m 53 7,p 54 .eql 52 53,
 m 55 54,gf 56 55 true 1 11,gl 57 55 true 56,gm 58 55 true 8,og 59 55 true (.bin .leq (t 57) (t 58)),P 60 55 59,m 61 60,gm 62 61 true 8,gf 63 61 true 1 11,
 gl 64 61 true 63,gL 65 61 true 7 3,gf 66 61 true 2 11,gl 67 61 true 66,⟨some 68, some (61, true),.ca (.func 62) [(t 65),(t 67)]⟩,og 69 61 true (.bin .add (t 64) (t 68)),
 og 70 61 true (.bin .lss (t 62) (t 69)),P 71 61 70,m 72 71,gL 73 72 true 10 11,⟨some 74, some (72, true),.ca (.func 95) [(t 73)]⟩,P 75 72 74,m 9 75]))) (.ops [m 44 10,
 q 45 .add 44 1,m 10 45])))))) (sq [m 76 9,u 77 76] (.cond (t 77) (sq [B 6 false]
 .ret)
 .skip))))) (.ops [m 33 8,q 34 .add 33 1,m 8 34]))))))) (.ops [m 22 7,q 23 .add 22 1,m 7 23])))))) (sq [B 6 true]
 .ret))))⟩
theorem e57 : qD Tryz.prog Tryz.f57 [(ps [0,1,2,3,4,5,6,7,8,9,10,11,12,13,14,15,16,17,18,19,20,21,22,23,24,25])] = some c57 := by kernel_rfl
def c58 : SF := ⟨73,[.t 2],(sq [k 1 (.bx 28 (t 0)),B 2 false] (sq [L 8 7 1,o 9 (.bd [.bool false,.int .i64 0,.slice none 0 0,.slice none 0 0,.slice none 0 0,
 .slice none 0 0,.slice none 0 0] [(0,7,(t 8))]),k 3 (.al 153 [.bool false,.int .i64 0,.slice none 0 0,.slice none 0 0,.slice none 0 0,.slice none 0 0,.slice none 0 0]),
 kn (.st [] 7 (t 3) (t 9))] (sq [o 4 (.mv (.func 96))] (.seq (sq [f 10 0 1,L 11 2 10,k 12 (.ca (.func 97) [(t 11)]),u 13 12,m 14 13,gf 15 14 false 2 1,gl 16 14 false 15,
 og 17 14 false (.ln (t 16)),og 18 14 false (.bin .gtr (t 17) (i 4)),R 19 14 18,m 20 19,gf 21 20 false 3 1,gl 22 20 false 21,og 23 20 false (.ln (t 22)),
 og 24 20 false (.bin .gtr (t 23) (i 2)),R 25 20 24,m 26 25,gf 27 26 false 4 1,gl 28 26 false 27,og 29 26 false (.ln (t 28)),og 30 26 false (.bin .gtr (t 29) (i 120)),
 R 31 26 30,m 32 31,gf 33 32 false 5 1,gl 34 32 false 33,og 35 32 false (.ln (t 34)),og 36 32 false (.bin .gtr (t 35) (i 40)),R 37 32 36] (.cond (t 37) (sq [B 2 false]
 .ret)
 .skip)) (.seq (sq [f 38 2 1,l 39 38,m 40 4,k 41 (.ca (.func 98) [(t 39),(t 40)]),m 42 41,gf 43 42 false 3 1,gl 44 42 false 43,gm 45 42 false 4,⟨some 46,
  some (42, false),.ca (.func 98) [(t 44),(t 45)]⟩,R 47 42 46] (.cond (t 47) (sq [B 2 false]
 .ret)
 .skip)) (.seq (sq [f 48 4 1,l 49 48,z 50 49,w 51 0] (.block 0 (.loop (sq [p 52 .lss 51 50] (.seq (.cond (t 52)
 .skip (.exit 0)) (.seq (.block 1 (sq [m 53 51,m 5 53] (sq [L 54 7 3,m 55 5,k 56 (.ca (.func 99) [(t 54),(t 55)]),u 57 56] (.cond (t 57) (sq [B 2 false]
 .ret)
 .skip)))) (.ops [q 58 .add 51 1,m 51 58]))))))) (.seq (sq [f 59 5 1,l 60 59,o 61 (.mf (.func 101) [] [(t 3)]),k 62 (.ca (.func 100) [(t 60),(t 61)])] (.cond (t 62) (sq [B 2 false]
 .ret)
 .skip)) (sq [L 64 7 3,k 65 (.ca (.func 103) [(t 64)]),m 63 65,e 66 63 0,e 67 63 1,m 6 66,m 7 67] (sq [m 68 7,m 69 68,gL 70 69 true 7 3,⟨some 71, some (69,
  true),.ca (.func 104) [(t 70)]⟩,P 72 69 71,m 2 72]
 .ret)))))))))⟩
theorem e58 : qD Tryz.prog Tryz.f58 [] = some c58 := by kernel_rfl
def c59 : SF := ⟨49,[.t 4],(sq [k 2 (.bx 28 (t 0)),k 3 (.bx 42 (t 1)),B 4 false] (sq [o 6 (.mf (.func 105) [] [(t 2)]),k 5 (.al 94 [.nilFunc]),kn (.st [] 1 (t 5) (t 6))] (.seq (sq [f 7 2 3,
 l 8 7,q 9 .lss 8 0,m 10 9,gf 11 10 false 2 3,gl 12 10 false 11,og 13 10 false (.bin .gtr (t 12) (i 400)),R 14 10 13,m 15 14,gf 16 15 false 1 3,gl 17 15 false 16,
 og 18 15 false (.mf (.func 106) [] [(t 5)]),⟨some 19, some (15, false),.ca (.func 98) [(t 17),(t 18)]⟩,R 20 15 19] (.cond (t 20) (sq [B 4 false]
 .ret)
 .skip)) (.seq (sq [f 21 3 3,L 22 2 21,o 23 (.bd [.int .i64 0,.int .i64 0] []),o 24 (.eqs (.st [(false,0,1,.i),(false,1,1,.i)]) true (t 22) (t 23)),m 25 24,
 gl 26 25 true 5,gf 27 25 true 3 3,gf 28 25 true 0 27,gl 29 25 true 28,⟨some 30, some (25, true),.ca (t 26) [(t 29)]⟩,og 31 25 true (.un .not (t 30)),gm 32 25 true 31,
 gf 33 32 false 3 3,gf 34 32 false 1 33,gl 35 32 false 34,og 36 32 false (.bin .lss (t 35) (i 1)),og 37 25 true (.pick (t 32) (b true) (t 36)),gm 38 25 true 37,
 gf 39 38 false 3 3,gf 40 38 false 1 39,gl 41 38 false 40,og 42 38 false (.bin .gtr (t 41) (i 10)),og 43 25 true (.pick (t 38) (b true) (t 42)),P 44 25 43] (.cond (t 44) (sq [B 4 false]
 .ret)
 .skip)) (sq [L 45 7 2,f 46 0 3,l 47 46,k 48 (.ca (.func 107) [(t 45),(t 47)]),m 4 48]
 .ret)))))⟩
theorem e59 : qD Tryz.prog Tryz.f59 [] = some c59 := by kernel_rfl
def c60 : SF := ⟨89,[.c true 3 4],(sq [k 2 (.bx 28 (t 0)),k 3 (.bx 42 (t 1)),k 4 (.al 46 [.bool false,.slice none 0 0,.slice none 0 0])] (sq [k 5 (.al 46 [.bool false,
 .slice none 0 0,.slice none 0 0])] (.seq (sq [f 13 0 3,l 14 13,z 15 14,w 16 0] (.block 0 (.loop (sq [p 17 .lss 16 15] (.seq (.cond (t 17)
 .skip (.exit 0)) (.seq (.block 1 (sq [m 18 16,x 19 2 14 16,L 20 2 19,k 7 (.al 76 [.int .i64 0,.slice none 0 0]),m 6 18,kn (.st [] 2 (t 7) (t 20))] (sq [w 8 0] (.block 2 (.loop (.seq (sq [m 21 8,
 f 22 1 7,l 23 22,z 24 23,p 25 .lss 21 24] (.cond (t 25)
 .skip (.exit 2))) (.block 3 (.seq (sq [f 27 0 2,L 28 2 27,f 29 1 7,l 30 29,m 31 8,k 32 (.ca (.func 108) [(t 28),(t 30),(t 31)]),m 26 32,e 33 26 0,e 34 26 1,
 k 9 (.al 50 [.bool false,.int .i64 0,.int .i64 0,.int .i64 0]),kn (.st [] 4 (t 9) (t 33)),m 10 34] (sq [m 35 10] (.cond (t 35) (.seq (.opd [f 36 1 5,l 37 36,
 m 38 6,m 39 8,L 40 4 9,k 41 (.ca (.func 109) [(i 7),(t 40)]),o 42 (.bd [.int .i64 0,.int .i64 0,.int .i64 0,.int .i64 0,.bool false,.int .i64 0,.int .i64 0,
 .int .i64 0,.int .i64 0,.slice none 0 0] [(0,1,(t 38)),(1,1,(t 39)),(2,1,(i 7)),(3,7,(t 41))]),k 43 (.bs 84 1 [.int .i64 0,.int .i64 0,.int .i64 0,.int .i64 0,
 .bool false,.int .i64 0,.int .i64 0,.int .i64 0,.int .i64 0,.slice none 0 0] [(0,10,(t 42))]),k 44 (.ap 84 10 96 (t 37) (t 43)),f 45 1 5,kn (.st [] 1 (t 45) (t 44))]) (sq [m 46 8,
 f 47 0 2,f 48 1 47,l 49 48,p 50 .add 46 49,m 8 50] (.exit 3)))
 .skip))) (.seq (.opd [f 51 1 5,l 52 51,m 53 6,m 54 8,f 55 1 7,l 56 55,m 57 8,x 58 5 56 57,L 59 5 58,k 60 (.ca (.func 110) [(t 53),(t 54),(t 59)]),k 61 (.bs 84 1 [.int .i64 0,
 .int .i64 0,.int .i64 0,.int .i64 0,.bool false,.int .i64 0,.int .i64 0,.int .i64 0,.int .i64 0,.slice none 0 0] [(0,10,(t 60))]),k 62 (.ap 84 10 96 (t 52) (t 61)),
 f 63 1 5,kn (.st [] 1 (t 63) (t 62))]) (.ops [m 64 8,q 65 .add 64 1,m 8 65])))))))))) (.ops [q 66 .add 16 1,m 16 66]))))))) (.seq (sq [f 67 0 3,l 68 67,
 f 69 2 2,l 70 69,z 71 70,o 72 (.bin .add (i 1) (t 71)),o 73 (.sl 2 (t 68) (some (t 72)) none),z 74 73,w 75 0] (.block 4 (.loop (sq [p 76 .lss 75 74] (.seq (.cond (t 76)
 .skip (.exit 4)) (.seq (.block 5 (sq [x 77 2 73 75,L 78 2 77,k 12 (.al 76 [.int .i64 0,.slice none 0 0]),kn (.st [] 2 (t 12) (t 78))] (.opq [f 79 2 5,
 l 80 79,f 81 0 12,l 82 81,o 83 (.bin .shl (i 1) (t 82)),k 84 (.bs 3 1 [.int .i64 0] [(0,1,(t 83))]),k 85 (.ap 3 1 8 (t 80) (t 84)),f 86 2 5,kn (.st [] 1 (t 86) (t 85))]))) (.ops [q 87 .add 75 1,
 m 75 87]))))))) (sq [L 88 3 5,kn (.st [] 3 (t 4) (t 88))]
 .ret)))))⟩
theorem e60 : qD Tryz.prog Tryz.f60 [(ps [0,1,2,3,4,5,6,7,8,9,10]),(ps [0,1,2,3,4,5,6,7,8,9,10,11,12,13]),(ps [0,1,2,3,4,5,6,7,8])] = some c60 := by kernel_rfl
def c61 : SF := ⟨5,[.t 2],(sq [B 2 false] (sq [m 3 0,k 4 (.ca (.func 33) [(t 3),(i 1),(i 7)]),m 2 4]
 .ret))⟩
theorem e61 : qD Tryz.prog Tryz.f61 [] = some c61 := by kernel_rfl
def c62 : SF := ⟨15,[.t 4],(sq [k 2 (.bx 28 (t 0)),w 4 0] (.seq (sq [m 5 1,q 6 .eql 5 0,m 7 6,gm 8 7 false 1,og 9 7 false (.bin .eql (t 8) (i 11)),R 10 7 9] (.cond (t 10) (sq [w 4 1]
 .ret)
 .skip)) (sq [f 11 0 2,L 12 2 11,m 13 1,k 14 (.ca (.func 48) [(t 12),(t 13)]),m 4 14]
 .ret)))⟩
theorem e62 : qD Tryz.prog Tryz.f62 [] = some c62 := by kernel_rfl
def c63 : SF := ⟨17,[.t 4],(sq [k 2 (.bx 62 (t 0)),k 3 (.bx 62 (t 1)),B 4 false] (sq [f 5 0 2,L 6 6 5,f 7 0 3,L 8 6 7,o 9 (.eqs (.st [(false,0,1,.i),(false,
 1,1,.b),(false,2,1,.i),(false,3,1,.i),(false,4,1,.i),(false,5,1,.i)]) false (t 6) (t 8)),m 10 9,gf 11 10 true 6 2,gl 12 10 true 11,gf 13 10 true 6 3,gl 14 10 true 13,
 ⟨some 15, some (10, true),.ca (.func 111) [(t 12),(t 14)]⟩,P 16 10 15,m 4 16]
 .ret))⟩
theorem e63 : qD Tryz.prog Tryz.f63 [] = some c63 := by kernel_rfl
def c64 : SF := ⟨48,[.t 2],(sq [k 1 (.bx 59 (t 0)),B 2 false] (.seq (sq [f 3 0 1,l 4 3,k 5 (.ca (.func 112) [(t 4)]),u 6 5] (.cond (t 6) (sq [B 2 false]
 .ret)
 .skip)) (.seq (sq [f 7 1 1,l 8 7] (.cond (t 8) (sq [L 9 6 1,f 10 0 1,l 11 10,o 12 (.bd [.int .i64 0,.bool false,.int .i64 0,.int .i64 0,.int .i64 0,.int .i64 0] [(0,
 1,(t 11)),(1,1,(b true))]),o 13 (.eqs (.st [(false,0,1,.i),(false,1,1,.b),(false,2,1,.i),(false,3,1,.i),(false,4,1,.i),(false,5,1,.i)]) false (t 9) (t 12)),
 m 2 13]
 .ret)
 .skip)) (sq [f 14 2 1,l 15 14,f 16 0 1,l 17 16,k 18 (.ca (.func 113) [(t 15),(t 17)]),m 19 18,gf 20 19 true 3 1,gl 21 19 true 20,gf 22 19 true 0 1,gl 23 19 true 22,
 ⟨some 24, some (19, true),.ca (.func 113) [(t 21),(t 23)]⟩,P 25 19 24,m 26 25,gf 27 26 true 4 1,gl 28 26 true 27,gf 29 26 true 0 1,gl 30 26 true 29,⟨some 31,
  some (26, true),.ca (.func 113) [(t 28),(t 30)]⟩,P 32 26 31,m 33 32,gf 34 33 true 5 1,gl 35 33 true 34,gf 36 33 true 0 1,gl 37 33 true 36,⟨some 38, some (33,
  true),.ca (.func 113) [(t 35),(t 37)]⟩,P 39 33 38,m 40 39,gf 41 40 true 5 1,gl 42 40 true 41,gf 43 40 true 4 1,gl 44 40 true 43,og 45 40 true (.bin .and (t 42) (t 44)),
 og 46 40 true (.bin .eql (t 45) (i 0)),P 47 40 46,m 2 47]
 .ret))))⟩
theorem e64 : qD Tryz.prog Tryz.f64 [] = some c64 := by kernel_rfl
def c65 : SF := ⟨68,[.t 2],(sq [B 2 false] (.seq (sq [m 7 0,z 8 7,q 9 .gtr 8 7] (.cond (t 9) (sq [B 2 false]
 .ret)
 .skip)) (.seq (sq [w 3 0] (.block 0 (.loop (.seq (sq [m 10 3,m 11 0,z 12 11,p 13 .lss 10 12] (.cond (t 13)
 .skip (.exit 0))) (.seq (.block 1 (sq [m 16 0,m 17 3,x 18 7 16 17,L 19 7 18,k 4 (.al 102 [.int .i64 0,.int .i64 0,.bool false,.int .i64 0,.int .i64 0,
 .int .i64 0,.int .i64 0]),kn (.st [] 7 (t 4) (t 19))] (.seq (.seq (.opq [f 20 0 4,l 21 20,k 22 (.ca (.func 114) [(t 21),(i 6)]),u 23 22,m 24 23,gm 25 24 false 3,
 og 26 24 false (.bin .gtr (t 25) (i 0)),gm 27 24 false 26,gm 28 27 true 0,gm 29 27 true 3,og 30 27 true (.bin .sub (t 29) (i 1)),og 31 27 true (.ia 7 (t 28) (t 30)),
 gf 32 27 true 0 31,gl 33 27 true 32,gf 34 27 true 0 4,gl 35 27 true 34,og 36 27 true (.bin .geq (t 33) (t 35)),og 37 24 false (.pick (t 27) (t 36) (b false)),
 R 38 24 37,m 39 38,gf 40 39 false 1 4,gL 41 39 false 6 40,⟨some 42, some (39, false),.ca (.func 64) [(t 41)]⟩,og 43 39 false (.un .not (t 42)),R 44 39 43,
 m 45 44,gf 46 45 false 1 4,gf 47 45 false 0 46,gl 48 45 false 47,og 49 45 false (.bin .neq (t 48) (i 8)),R 50 45 49]) (.cond (t 50) (sq [B 2 false]
 .ret)
 .skip)) (sq [f 52 1 4,L 53 6 52,k 54 (.ca (.func 93) [(t 53)]),m 51 54,e 55 51 0,e 56 51 1,m 5 55,m 6 56] (sq [f 57 0 4,l 58 57,q 59 .eql 58 0,m 60 59,
 gm 61 60 true 6,og 62 60 true (.un .not (t 61)),gm 63 60 true 62,gm 64 63 false 5,og 65 63 false (.bin .neq (t 64) (i 0)),og 66 60 true (.pick (t 63) (b true) (t 65)),
 P 67 60 66] (.cond (t 67) (sq [B 2 false]
 .ret)
 .skip)))))) (.ops [m 14 3,q 15 .add 14 1,m 3 15])))))) (sq [B 2 true]
 .ret))))⟩
theorem e65 : qD Tryz.prog Tryz.f65 [(ps [0,1,2,3,4,5,6,7,8,9,10,11,12,13,14,15,16,17,18,19,20,21,22,23,24,25,26,27,28,29,30])] = some c65 := by kernel_rfl
def c66 : SF := ⟨19,[.t 4],(sq [B 4 false] (sq [m 5 0,z 6 5,q 7 .eql 6 0,m 8 7,gm 9 8 false 0,gm 10 8 false 0,og 11 8 false (.ln (t 10)),og 12 8 false (.bin .sub (t 11) (i 1)),
 og 13 8 false (.ia 7 (t 9) (t 12)),gf 14 8 false 0 13,gl 15 8 false 14,gm 16 8 false 1,og 17 8 false (.bin .lss (t 15) (t 16)),R 18 8 17,m 4 18]
 .ret))⟩
theorem e66 : qD Tryz.prog Tryz.f66 [] = some c66 := by kernel_rfl
def c67 : SF := ⟨39,[.t 4],(sq [k 3 (.bx 62 (t 1)),B 4 false] (.seq (sq [m 6 0,q 7 .neq 6 7] (.cond (t 7) (sq [m 8 0,k 9 (.ca (.func 15) [(t 8)]),m 5 9] (sq [m 10 5,
 q 11 .gtr 10 0,m 12 11,gf 13 12 true 0 3,gL 14 12 true 6 13,⟨some 15, some (12, true),.ca (.func 64) [(t 14)]⟩,P 16 12 15,m 17 16,gf 18 17 true 0 3,gf 19 17 true 0 18,
 gl 20 17 true 19,gm 21 17 true 5,og 22 17 true (.bin .eql (t 20) (t 21)),P 23 17 22,m 24 23,gf 25 24 true 6 3,gl 26 24 true 25,og 27 24 true (.ln (t 26)),
 og 28 24 true (.bin .eql (t 27) (i 0)),P 29 24 28,m 4 29]
 .ret))
 .skip)) (sq [f 30 0 3,L 31 6 30,o 32 (.bd [.int .i64 0,.bool false,.int .i64 0,.int .i64 0,.int .i64 0,.int .i64 0] []),o 33 (.eqs (.st [(false,0,1,.i),
 (false,1,1,.b),(false,2,1,.i),(false,3,1,.i),(false,4,1,.i),(false,5,1,.i)]) false (t 31) (t 32)),m 34 33,gf 35 34 true 6 3,gl 36 34 true 35,⟨some 37, some (34,
  true),.ca (.func 65) [(t 36)]⟩,P 38 34 37,m 4 38]
 .ret)))⟩
theorem e67 : qD Tryz.prog Tryz.f67 [] = some c67 := by kernel_rfl
def c68 : SF := ⟨10,[.c true 2 2],(sq [k 1 (.bx 76 (t 0)),k 2 (.al 76 [.int .i64 0,.slice none 0 0])] (sq [L 4 2 1,k 3 (.al 76 [.int .i64 0,.slice none 0 0]),
 kn (.st [] 2 (t 3) (t 4))] (sq [f 5 1 1,l 6 5,k 7 (.ca (.func 115) [(t 6)]),f 8 1 3,kn (.st [] 1 (t 8) (t 7))] (sq [L 9 2 3,kn (.st [] 2 (t 2) (t 9))]
 .ret))))⟩
theorem e68 : qD Tryz.prog Tryz.f68 [] = some c68 := by kernel_rfl
end Go.Proofs.Tryz.S
