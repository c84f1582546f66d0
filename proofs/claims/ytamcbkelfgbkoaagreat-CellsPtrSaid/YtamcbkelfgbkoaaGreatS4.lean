/- The small codes of functions, by program (gen.py, by this workplace's session), each with the proof that it is the function's own. -/
import Derived.Test.YtamcbkelfgbkoaaGreatProg
import Derived.Test.YtamcbkelfgbkoaaGreatS3
namespace Go.Proofs.Tryz.S
open Go Go.Ax Go.Ax.W
open Go.Ax.N (t i b o og k kn)
set_option maxRecDepth 100000

def c194 : SF := ⟨27,[.t 8],(sq [k 4 (.bx 185 (t 0)),B 8 false] (sq [f 9 0 4,l 10 9,m 11 1,o 12 (.eqb false (t 10) (t 11)),m 13 12,gf 14 13 true 1 4,gL 15 13 true 6 14,
 ⟨some 16, some (13, true),.ca (.func 128) [(t 15)]⟩,og 17 13 true (.un .not (t 16)),gm 18 13 true 2,og 19 13 true (.eqb false (t 17) (t 18)),P 20 13 19,
 m 21 20,gL 22 21 true 14 4,⟨some 23, some (21, true),.ca (.func 200) [(t 22)]⟩,gm 24 21 true 3,og 25 21 true (.eqb false (t 23) (t 24)),P 26 21 25,m 8 26]
 .ret))⟩
theorem e194 : qD Tryz.prog Tryz.f194 [] = some c194 := by kernel_rfl
def c195 : SF := ⟨52,[.c true 8 6,.t 7],(sq [k 3 (.bx 23 (t 0)),k 6 (.al 130 [.int .i64 0,.bool false,.int .i64 0,.int .i64 0,.int .i64 0,.int .i64 0,.slice none 0 0,
 .slice none 0 0]),B 7 false] (sq [o 8 (.mv (.const (.slice none 0 0)))] (.seq (sq [m 15 2,z 16 15,w 17 0] (.block 0 (.loop (sq [p 18 .lss 17 16] (.seq (.cond (t 18)
 .skip (.exit 0)) (.seq (.block 1 (sq [x 19 14 15 17,L 20 14 19,k 10 (.al 185 [.bool false,.int .i64 0,.bool false,.int .i64 0,.int .i64 0,.int .i64 0,
 .int .i64 0,.int .i64 0,.bool false,.int .i64 0,.int .i64 0,.int .i64 0,.int .i64 0,.slice none 0 0]),kn (.st [] 14 (t 10) (t 20))] (sq [L 22 14 10,k 23 (.ca (.func 247) [(t 22)]),
 m 21 23,e 24 21 0,e 25 21 1,k 11 (.al 91 [.int .i64 0,.int .i64 0,.int .i64 0,.int .i64 0,.int .i64 0]),kn (.st [] 5 (t 11) (t 24)),m 12 25] (.seq (sq [m 26 12,
 u 27 26] (.cond (t 27) (sq [L 28 8 6,kn (.st [] 8 (t 6) (t 28)),B 7 false]
 .ret)
 .skip)) (.ops [m 29 8,L 30 5 11,k 31 (.bs 91 1 [.int .i64 0,.int .i64 0,.int .i64 0,.int .i64 0,.int .i64 0] [(0,5,(t 30))]),k 32 (.ap 91 5 40 (t 29) (t 31)),
 m 8 32]))))) (.ops [q 33 .add 17 1,m 17 33]))))))) (sq [L 35 2 3,m 36 1,m 37 8,k 38 (.ca (.func 164) [(t 35),(t 36),(t 37)]),m 34 38,e 39 34 0,e 40 34 1,
 k 13 (.al 50 [.bool false,.int .i64 0,.int .i64 0,.int .i64 0]),kn (.st [] 4 (t 13) (t 39)),m 14 40] (.seq (sq [m 41 14,q 42 .neq 41 0] (.cond (t 42) (sq [m 43 1,
 k 44 (.ca (.func 87) [(t 43)]),m 45 14,k 46 (.bs 3 1 [.int .i64 0] [(0,1,(t 45))]),o 47 (.bd [.int .i64 0,.bool false,.int .i64 0,.int .i64 0,.int .i64 0,
 .int .i64 0,.slice none 0 0,.slice none 0 0] [(0,7,(t 44)),(7,1,(t 46))]),kn (.st [] 8 (t 6) (t 47)),B 7 true]
 .ret)
 .skip)) (sq [m 48 1,L 49 4 13,k 50 (.ca (.func 109) [(t 48),(t 49)]),o 51 (.bd [.int .i64 0,.bool false,.int .i64 0,.int .i64 0,.int .i64 0,.int .i64 0,
 .slice none 0 0,.slice none 0 0] [(0,7,(t 50)),(7,1,(.const (.slice none 0 0)))]),kn (.st [] 8 (t 6) (t 51)),B 7 true]
 .ret))))))⟩
theorem e195 : qD Tryz.prog Tryz.f195 [] = some c195 := by kernel_rfl
def c200 : SF := ⟨14,[.t 2],(sq [k 1 (.bx 185 (t 0)),B 2 false] (sq [f 3 7 1,L 4 6 3,k 5 (.ca (.func 128) [(t 4)]),u 6 5,m 7 6,gf 8 7 true 13 1,gl 9 7 true 8,
 og 10 7 true (.bd [.int .i64 0,.bool false,.int .i64 0,.int .i64 0,.int .i64 0,.int .i64 0,.slice none 0 0] [(6,1,(t 9))]),⟨some 11, some (7, true),.ca (.func 78) [(i 7),
 (t 10)]⟩,og 12 7 true (.un .not (t 11)),P 13 7 12,m 2 13]
 .ret))⟩
theorem e200 : qD Tryz.prog Tryz.f200 [] = some c200 := by kernel_rfl
def c202 : SF := ⟨19,[.t 4],(sq [w 4 0] (.seq (sq [m 6 0,z 7 6,w 8 0] (.block 0 (.loop (sq [p 9 .lss 8 7] (.seq (.cond (t 9)
 .skip (.exit 0)) (.seq (.block 1 (sq [m 10 8,m 5 10] (sq [m 11 1,m 12 0,m 13 5,x 14 1 12 13,l 15 14,p 16 .eql 11 15] (.cond (t 16) (sq [m 17 5,m 4 17]
 .ret)
 .skip)))) (.ops [q 18 .add 8 1,m 8 18]))))))) (sq [w 4 (-1)]
 .ret)))⟩
theorem e202 : qD Tryz.prog Tryz.f202 [] = some c202 := by kernel_rfl
def c203 : SF := ⟨27,[.c true 6 2],(sq [k 1 (.bx 59 (t 0)),k 2 (.al 59 [.int .i64 0,.bool false,.int .i64 0,.int .i64 0,.int .i64 0,.int .i64 0])] (sq [L 6 6 1,
 k 7 (.ca (.func 218) [(t 6),(i 1)]),m 5 7,e 8 5 0,e 9 5 1,m 3 8,m 4 9] (.seq (.block 0 (sq [m 11 4,u 12 11,m 10 12] (.cond (t 10) (sq [L 13 6 1,kn (.st [] 6 (t 2) (t 13))]
 .ret) (sq [m 15 3,z 16 15,q 17 .eql 16 0,m 14 17] (.cond (t 14) (sq [f 18 0 1,l 19 18,k 20 (.ca (.func 122) [(t 19)]),kn (.st [] 6 (t 2) (t 20))]
 .ret)
 .skip))))) (.seq (.opq [f 21 0 1,l 22 21,m 23 3,o 24 (.ia 1 (t 23) (i 0)),l 25 24,k 26 (.ca (.func 166) [(t 22),(t 25)]),kn (.st [] 6 (t 2) (t 26))])
 .ret))))⟩
theorem e203 : qD Tryz.prog Tryz.f203 [(ps [0,1,2,3,4,5,6])] = some c203 := by kernel_rfl
def c204 : SF := ⟨63,[.t 4,.t 5],(sq [k 2 (.bx 59 (t 0)),k 3 (.bx 59 (t 1)),w 4 0,w 5 0] (.seq (.opd [f 12 0 2,l 13 12,f 14 0 2,l 15 14,k 16 (.ca (.func 170) [(t 15)]),
 o 17 (.bd [.int .i64 0,.bool false,.int .i64 0,.int .i64 0,.int .i64 0,.int .i64 0] [(0,1,(t 13)),(3,1,(t 16))]),k 6 (.al 59 [.int .i64 0,.bool false,.int .i64 0,
 .int .i64 0,.int .i64 0,.int .i64 0]),kn (.st [] 6 (t 6) (t 17))]) (.seq (sq [L 18 6 2,L 19 6 3,k 20 (.bs 59 2 [.int .i64 0,.bool false,.int .i64 0,.int .i64 0,
 .int .i64 0,.int .i64 0,.int .i64 0,.bool false,.int .i64 0,.int .i64 0,.int .i64 0,.int .i64 0] [(0,6,(t 18)),(6,6,(t 19))]),z 21 20,w 22 0] (.block 0 (.loop (sq [p 23 .lss 22 21] (.seq (.cond (t 23)
 .skip (.exit 0)) (.seq (.block 1 (sq [x 24 6 20 22,L 25 6 24,k 8 (.al 59 [.int .i64 0,.bool false,.int .i64 0,.int .i64 0,.int .i64 0,.int .i64 0]),kn (.st [] 6 (t 8) (t 25))] (sq [L 26 6 2,
 L 27 6 3,k 28 (.bs 59 2 [.int .i64 0,.bool false,.int .i64 0,.int .i64 0,.int .i64 0,.int .i64 0,.int .i64 0,.bool false,.int .i64 0,.int .i64 0,.int .i64 0,
 .int .i64 0] [(0,6,(t 26)),(6,6,(t 27))]),z 29 28,w 30 0] (.block 2 (.loop (sq [p 31 .lss 30 29] (.seq (.cond (t 31)
 .skip (.exit 2)) (.seq (.block 3 (sq [x 32 6 28 30,L 33 6 32,k 10 (.al 59 [.int .i64 0,.bool false,.int .i64 0,.int .i64 0,.int .i64 0,.int .i64 0]),kn (.st [] 6 (t 10) (t 33))] (sq [f 34 0 2,
 l 35 34,f 36 2 8,l 37 36,f 38 3 10,l 39 38,o 40 (.bd [.int .i64 0,.bool false,.int .i64 0,.int .i64 0,.int .i64 0,.int .i64 0] [(0,1,(t 35)),(2,1,(t 37)),
 (3,1,(t 39))]),k 11 (.al 59 [.int .i64 0,.bool false,.int .i64 0,.int .i64 0,.int .i64 0,.int .i64 0]),kn (.st [] 6 (t 11) (t 40))] (.seq (.opd [L 41 6 2,
 L 42 6 11,k 43 (.ca (.func 251) [(t 41),(t 42)]),m 44 43,gL 45 44 true 6 3,gL 46 44 true 6 11,⟨some 47, some (44, true),.ca (.func 251) [(t 45),(t 46)]⟩,
 P 48 44 47,m 49 48,gL 50 49 true 6 11,gL 52 49 true 6 6,⟨some 51, some (49, true),.ca (.func 252) [(t 50)]⟩,⟨some 53, some (49, true),.ca (.func 252) [(t 52)]⟩,
 og 54 49 true (.bin .lss (t 51) (t 53)),P 55 49 54]) (.cond (t 55) (.ops [L 56 6 11,kn (.st [] 6 (t 6) (t 56))])
 .skip))))) (.ops [q 57 .add 30 1,m 30 57]))))))))) (.ops [q 58 .add 22 1,m 22 58]))))))) (.seq (.opq [f 59 2 6,l 60 59,f 61 3 6,l 62 61,m 4 60,m 5 62])
 .ret))))⟩
theorem e204 : qD Tryz.prog Tryz.f204 [(ps [0,1,2,3,4,5,6,7]),(ps [0,1,2,3,4,5,6,7,8,9,11,10,12,13,14]),(ps [0,1,2,3,4,5])] = some c204 := by kernel_rfl
def c205 : SF := ⟨22,[.c true 7 4],(sq [k 4 (.al 102 [.int .i64 0,.int .i64 0,.bool false,.int .i64 0,.int .i64 0,.int .i64 0,.int .i64 0])] (.seq (sq [m 7 0,
 z 8 7,w 9 0] (.block 0 (.loop (sq [p 10 .lss 9 8] (.seq (.cond (t 10)
 .skip (.exit 0)) (.seq (.block 1 (sq [x 11 7 7 9,L 12 7 11,k 6 (.al 102 [.int .i64 0,.int .i64 0,.bool false,.int .i64 0,.int .i64 0,.int .i64 0,.int .i64 0]),
 kn (.st [] 7 (t 6) (t 12))] (sq [f 13 0 6,l 14 13,m 15 1,p 16 .eql 14 15] (.cond (t 16) (sq [L 17 7 6,kn (.st [] 7 (t 4) (t 17))]
 .ret)
 .skip)))) (.ops [q 18 .add 9 1,m 9 18]))))))) (sq [m 19 1,k 20 (.ca (.func 122) [(i 8)]),o 21 (.bd [.int .i64 0,.int .i64 0,.bool false,.int .i64 0,.int .i64 0,
 .int .i64 0,.int .i64 0] [(0,1,(t 19)),(1,6,(t 20))]),kn (.st [] 7 (t 4) (t 21))]
 .ret)))⟩
theorem e205 : qD Tryz.prog Tryz.f205 [] = some c205 := by kernel_rfl
def c206 : SF := ⟨22,[.t 4],(sq [k 2 (.bx 59 (t 0)),B 4 false] (sq [f 5 1 2,l 6 5,u 7 6,m 8 7,gm 9 8 true 1,gf 10 8 true 4 2,gl 11 8 true 10,og 12 8 true (.bin .andNot (t 9) (t 11)),
 gf 13 8 true 5 2,gl 14 8 true 13,og 15 8 true (.bin .eql (t 12) (t 14)),P 16 8 15,m 17 16,gL 18 17 true 6 2,gm 19 17 true 1,⟨some 20, some (17, true),.ca (.func 253) [(t 18),
 (t 19)]⟩,P 21 17 20,m 4 21]
 .ret))⟩
theorem e206 : qD Tryz.prog Tryz.f206 [] = some c206 := by kernel_rfl
def c207 : SF := ⟨21,[.t 6],(sq [k 4 (.bx 62 (t 1)),k 5 (.bx 50 (t 2)),B 6 false] (.seq (sq [m 7 0,q 8 .eql 7 7] (.cond (t 8) (sq [f 9 6 4,l 10 9,f 11 2 5,
 l 12 11,f 13 3 5,l 14 13,k 15 (.ca (.func 188) [(t 10),(t 12),(t 14)]),m 6 15]
 .ret)
 .skip)) (sq [f 16 0 4,L 17 6 16,f 18 1 5,l 19 18,k 20 (.ca (.func 206) [(t 17),(t 19)]),m 6 20]
 .ret)))⟩
theorem e207 : qD Tryz.prog Tryz.f207 [] = some c207 := by kernel_rfl
def c208 : SF := ⟨11,[.t 3],(sq [B 3 false] (sq [m 4 0,q 5 .geq 4 0,m 6 5,gm 7 6 true 0,gl 8 6 true 1,og 9 6 true (.bin .lss (t 7) (t 8)),P 10 6 9,m 3 10]
 .ret))⟩
theorem e208 : qD Tryz.prog Tryz.f208 [] = some c208 := by kernel_rfl
def c209 : SF := ⟨12,[.t 4],(sq [k 2 (.bx 153 (t 0)),w 4 0] (sq [f 5 0 2,f 6 4 5,l 7 6,m 8 1,x 9 5 7 8,f 10 1 9,l 11 10,m 4 11]
 .ret))⟩
theorem e209 : qD Tryz.prog Tryz.f209 [] = some c209 := by kernel_rfl
def c210 : SF := ⟨9,[.t 4],(sq [B 4 false] (sq [m 5 0,m 6 1,k 7 (.ca (.func 254) [(t 5),(t 6)]),q 8 .geq 7 0,m 4 8]
 .ret))⟩
theorem e210 : qD Tryz.prog Tryz.f210 [] = some c210 := by kernel_rfl
def c211 : SF := ⟨6,[.t 2],(sq [k 1 (.bx 76 (t 0)),B 2 false] (sq [L 3 2 1,k 4 (.ca (.func 212) [(t 3)]),u 5 4,m 2 5]
 .ret))⟩
theorem e211 : qD Tryz.prog Tryz.f211 [] = some c211 := by kernel_rfl
def c212 : SF := ⟨32,[.t 2],(sq [k 1 (.bx 76 (t 0)),B 2 false] (.seq (sq [f 3 0 1,l 4 3,q 5 .lss 4 0,m 6 5,gf 7 6 false 0 1,gl 8 6 false 7,og 9 6 false (.bin .gtr (t 8) (i 3)),
 R 10 6 9,m 11 10,gf 12 11 false 1 1,gl 13 11 false 12,og 14 11 false (.ln (t 13)),og 15 11 false (.bin .gtr (t 14) (i 32)),R 16 11 15,m 17 16,gf 18 17 false 0 1,
 gl 19 17 false 18,og 20 17 false (.bin .neq (t 19) (i 1)),gm 21 17 false 20,gf 22 21 true 1 1,gl 23 21 true 22,og 24 21 true (.ln (t 23)),og 25 21 true (.bin .gtr (t 24) (i 0)),
 og 26 17 false (.pick (t 21) (t 25) (b false)),R 27 17 26] (.cond (t 27) (sq [B 2 false]
 .ret)
 .skip)) (sq [f 28 1 1,l 29 28,k 30 (.ca (.func 213) [(t 29),(.func 255)]),u 31 30,m 2 31]
 .ret)))⟩
theorem e212 : qD Tryz.prog Tryz.f212 [] = some c212 := by kernel_rfl
def c213 : SF := ⟨9,[.t 4],(sq [B 4 false] (sq [m 5 0,m 6 1,k 7 (.ca (.func 257) [(t 5),(t 6)]),q 8 .geq 7 0,m 4 8]
 .ret))⟩
theorem e213 : qD Tryz.prog Tryz.f213 [] = some c213 := by kernel_rfl
def c214 : SF := ⟨24,[.t 3],(sq [k 2 (.bx 91 (t 0)),B 3 false] (.seq (.opq [f 4 0 2,l 5 4,q 6 .eql 5 2,m 7 6,gf 8 7 true 2 2,gl 9 7 true 8,gl 10 7 true 1,
 og 11 7 true (.ln (t 10)),og 12 7 true (.bin .geq (t 9) (t 11)),gm 13 7 true 12,gf 14 13 false 3 2,gl 15 13 false 14,gl 16 13 false 1,gf 17 13 false 2 2,
 gl 18 13 false 17,og 19 13 false (.ia 1 (t 16) (t 18)),gl 20 13 false 19,og 21 13 false (.bin .gtr (t 15) (t 20)),og 22 7 true (.pick (t 13) (b true) (t 21)),
 P 23 7 22,m 3 23])
 .ret))⟩
theorem e214 : qD Tryz.prog Tryz.f214 [(ps [0,1,2,3,4,5,6,7,8,9,10,11,12,13,14,15,16,17,18,19,20])] = some c214 := by kernel_rfl
def c215 : SF := ⟨8,[.t 4],(sq [k 3 (.bx 3 (t 1)),B 4 false] (sq [m 5 0,o 6 (.mf (.func 258) [] [(t 3)]),k 7 (.ca (.func 213) [(t 5),(t 6)]),m 4 7]
 .ret))⟩
theorem e215 : qD Tryz.prog Tryz.f215 [] = some c215 := by kernel_rfl
def c216 : SF := ⟨40,[.c true 4 2,.t 3],(sq [k 2 (.al 50 [.bool false,.int .i64 0,.int .i64 0,.int .i64 0]),w 3 0] (.seq (.opq [m 8 0,o 9 (.ia 5 (t 8) (i 0)),
 f 10 2 9,l 11 10,m 12 0,o 13 (.ia 5 (t 12) (i 0)),f 14 3 13,l 15 14,o 16 (.bd [.bool false,.int .i64 0,.int .i64 0,.int .i64 0] [(0,1,(b true)),(2,1,(t 11)),
 (3,1,(t 15))]),k 4 (.al 50 [.bool false,.int .i64 0,.int .i64 0,.int .i64 0]),kn (.st [] 4 (t 4) (t 16))]) (.seq (sq [m 17 0,z 18 17,w 19 0] (.block 0 (.loop (sq [p 20 .lss 19 18] (.seq (.cond (t 20)
 .skip (.exit 0)) (.seq (.block 1 (sq [m 21 19,x 22 5 17 19,L 23 5 22,k 6 (.al 91 [.int .i64 0,.int .i64 0,.int .i64 0,.int .i64 0,.int .i64 0]),m 5 21,
 kn (.st [] 5 (t 6) (t 23))] (sq [o 24 (.bd [.int .i64 0,.int .i64 0,.int .i64 0,.int .i64 0,.int .i64 0] [(0,1,(i 1))]),k 7 (.al 91 [.int .i64 0,.int .i64 0,
 .int .i64 0,.int .i64 0,.int .i64 0]),kn (.st [] 5 (t 7) (t 24))] (.seq (sq [f 25 2 4,l 26 25,q 27 .gtr 26 0] (.cond (t 27) (.ops [f 28 2 4,l 29 28,f 30 3 4,
 l 31 30,m 32 5,o 33 (.bd [.int .i64 0,.int .i64 0,.int .i64 0,.int .i64 0,.int .i64 0] [(0,1,(i 2)),(2,1,(t 29)),(3,1,(t 31)),(4,1,(t 32))]),kn (.st [] 5 (t 7) (t 33))])
 .skip)) (sq [L 34 5 6,L 35 5 7,o 36 (.eqs (.st [(false,0,1,.i),(false,1,1,.i),(false,2,1,.i),(false,3,1,.i),(false,4,1,.i)]) true (t 34) (t 35))] (.cond (t 36) (sq [o 37 (.bd [.bool false,
 .int .i64 0,.int .i64 0,.int .i64 0] []),kn (.st [] 4 (t 2) (t 37)),w 3 8]
 .ret)
 .skip)))))) (.ops [q 38 .add 19 1,m 19 38]))))))) (sq [L 39 4 4,kn (.st [] 4 (t 2) (t 39)),w 3 0]
 .ret))))⟩
theorem e216 : qD Tryz.prog Tryz.f216 [(ps [0,1,2,3,4,5,6,7,8,9,10])] = some c216 := by kernel_rfl
def c217 : SF := ⟨6,[.t 2],(sq [B 2 false] (sq [m 3 0,m 4 0,p 5 .neq 3 4,m 2 5]
 .ret))⟩
theorem e217 : qD Tryz.prog Tryz.f217 [] = some c217 := by kernel_rfl
def c218 : SF := ⟨24,[.t 4,.t 5],(sq [k 2 (.bx 59 (t 0)),o 4 (.mv (.const (.slice none 0 0))),B 5 false] (.seq (sq [L 7 6 2,k 8 (.ca (.func 172) [(t 7),
 (i 0)]),m 6 8] (.block 0 (.loop (.seq (sq [m 9 6,q 10 .geq 9 0] (.cond (t 10)
 .skip (.exit 0))) (.seq (.block 1 (.seq (sq [m 15 4,z 16 15,m 17 1,p 18 .eql 16 17] (.cond (t 18) (sq [o 4 (.mv (.const (.slice none 0 0))),B 5 false]
 .ret)
 .skip)) (.ops [m 19 4,m 20 6,k 21 (.bs 3 1 [.int .i64 0] [(0,1,(t 20))]),k 22 (.ap 3 1 8 (t 19) (t 21)),m 4 22]))) (.ops [L 11 6 2,m 12 6,q 13 .add 12 1,
 k 14 (.ca (.func 172) [(t 11),(t 13)]),m 6 14])))))) (sq [m 23 4,m 4 23,B 5 true]
 .ret)))⟩
theorem e218 : qD Tryz.prog Tryz.f218 [] = some c218 := by kernel_rfl
def c219 : SF := ⟨24,[.t 2],(sq [k 1 (.bx 59 (t 0)),o 2 (.mv (.const (.slice none 0 0)))] (.seq (sq [f 3 2 1,l 4 3,f 5 3 1,l 6 5,p 7 .leq 4 6] (.cond (t 7) (sq [f 8 2 1,
 l 9 8,f 10 3 1,l 11 10,o 12 (.bd [.int .i64 0,.int .i64 0] [(0,1,(t 9)),(1,1,(t 11))]),k 13 (.bs 246 1 [.int .i64 0,.int .i64 0] [(0,2,(t 12))]),m 2 13]
 .ret)
 .skip)) (.seq (.opd [f 14 3 1,l 15 14,o 16 (.bd [.int .i64 0,.int .i64 0] [(0,1,(i 0)),(1,1,(t 15))]),f 17 2 1,l 18 17,f 19 0 1,l 20 19,k 21 (.ca (.func 170) [(t 20)]),
 o 22 (.bd [.int .i64 0,.int .i64 0] [(0,1,(t 18)),(1,1,(t 21))]),k 23 (.bs 246 2 [.int .i64 0,.int .i64 0,.int .i64 0,.int .i64 0] [(0,2,(t 16)),(2,2,(t 22))]),
 m 2 23])
 .ret)))⟩
theorem e219 : qD Tryz.prog Tryz.f219 [(ps [0,1,2,3,4,5,6,7,8,9,10])] = some c219 := by kernel_rfl
def c220 : SF := ⟨54,[.t 4],(sq [k 2 (.bx 59 (t 0)),w 4 0] (.seq (sq [m 8 1,f 9 4 2,l 10 9,p 11 .andNot 8 10,f 12 5 2,l 13 12,p 14 .eql 11 13] (.cond (t 14) (sq [m 15 1,
 m 4 15]
 .ret)
 .skip)) (.seq (sq [f 16 0 2,l 17 16,w 18 0] (.block 0 (.loop (sq [p 19 .lss 18 17] (.seq (.cond (t 19)
 .skip (.exit 0)) (.seq (.block 1 (sq [m 20 18,m 5 20] (sq [m 21 5,o 22 (.bin .shl (i 1) (t 21)),m 6 22] (.seq (sq [m 23 1,m 24 6,p 25 .and 23 24,q 26 .neq 25 0] (.cond (t 26) (.exit 1)
 .skip)) (sq [m 27 1,m 28 6,q 29 .sub 28 1,p 30 .andNot 27 29,m 31 6,p 32 .or 30 31,m 7 32] (sq [m 33 7,f 34 4 2,l 35 34,p 36 .andNot 33 35,m 37 6,q 38 .sub 37 1,
 p 39 .andNot 36 38,f 40 5 2,l 41 40,m 42 6,q 43 .sub 42 1,p 44 .andNot 41 43,p 45 .eql 39 44] (.cond (t 45) (sq [m 46 7,f 47 5 2,l 48 47,m 49 6,q 50 .sub 49 1,
 p 51 .and 48 50,p 52 .or 46 51,m 4 52]
 .ret)
 .skip))))))) (.ops [q 53 .add 18 1,m 18 53]))))))) (sq [w 4 (-1)]
 .ret))))⟩
theorem e220 : qD Tryz.prog Tryz.f220 [] = some c220 := by kernel_rfl
def c221 : SF := ⟨49,[],(sq [m 8 1,q 9 .add 8 1,m 6 9] (.block 0 (.loop (.seq (sq [m 10 6,m 11 2,p 12 .lss 10 11] (.cond (t 12)
 .skip (.exit 0))) (.seq (.block 1 (sq [m 15 6,m 7 15] (.block 2 (.loop (.seq (.seq (.opq [m 16 7,m 17 1,p 18 .gtr 16 17,m 19 18,gm 20 19 true 0,gm 21 19 true 7,
 og 22 19 true (.ia 1 (t 20) (t 21)),gl 23 19 true 22,gm 24 19 true 0,gm 25 19 true 7,og 26 19 true (.bin .sub (t 25) (i 1)),og 27 19 true (.ia 1 (t 24) (t 26)),
 gl 28 19 true 27,⟨some 29, some (19, true),.ca (.func 227) [(t 23),(t 28)]⟩,P 30 19 29]) (.cond (t 30)
 .skip (.exit 2))) (.seq (.block 3 (.opq [m 33 0,m 34 7,m 35 0,m 36 7,q 37 .sub 36 1,m 38 0,m 39 7,q 40 .sub 39 1,x 41 1 38 40,l 42 41,m 43 0,m 44 7,x 45 1 43 44,
 l 46 45,x 47 1 33 34,kn (.st [] 1 (t 47) (t 42)),x 48 1 35 37,kn (.st [] 1 (t 48) (t 46))])) (.ops [m 31 7,q 32 .sub 31 1,m 7 32]))))))) (.ops [m 13 6,
 q 14 .add 13 1,m 6 14]))))))⟩
theorem e221 : qD Tryz.prog Tryz.f221 [(ps [0,1,2,3,4,5,6,7,8,9,10,11,12,13,14]),(ps [0,1,2,3,4,5,6,7,8,9,10,11,12,13,14,15,16,17])] = some c221 := by kernel_rfl
def c227 : SF := ⟨17,[.t 4],(sq [B 4 false] (sq [m 5 0,k 6 (.ca (.func 217) [(t 5)]),m 7 6,gm 8 7 true 1,⟨some 9, some (7, true),.ca (.func 217) [(t 8)]⟩,
 og 10 7 true (.un .not (t 9)),P 11 7 10,m 12 11,gm 13 12 false 0,gm 14 12 false 1,og 15 12 false (.bin .lss (t 13) (t 14)),R 16 12 15,m 4 16]
 .ret))⟩
theorem e227 : qD Tryz.prog Tryz.f227 [] = some c227 := by kernel_rfl
def c231 : SF := ⟨25,[.t 2],(sq [w 2 0] (.seq (sq [m 3 0,o 4 (.bin .geq (t 3) (.const (.int .u64 4294967296)))] (.cond (t 4) (sq [m 5 0,o 6 (.bin .shr (t 5) (.const (.int .u64 32))),
 m 0 6] (.ops [w 2 32]))
 .skip)) (.seq (sq [m 7 0,o 8 (.bin .geq (t 7) (.const (.int .u64 65536)))] (.cond (t 8) (sq [m 9 0,o 10 (.bin .shr (t 9) (.const (.int .u64 16))),m 0 10] (.ops [m 11 2,
 q 12 .add 11 16,m 2 12]))
 .skip)) (.seq (sq [m 13 0,o 14 (.bin .geq (t 13) (.const (.int .u64 256)))] (.cond (t 14) (sq [m 15 0,o 16 (.bin .shr (t 15) (.const (.int .u64 8))),m 0 16] (.ops [m 17 2,
 q 18 .add 17 8,m 2 18]))
 .skip)) (sq [m 19 2,m 20 0,o 21 (.cv .u8 (t 20)),o 22 (.si (.const (.string ⟨#[0,1,2,2,3,3,3,3,4,4,4,4,4,4,4,4,5,5,5,5,5,5,5,5,5,5,5,5,5,5,5,5,6,6,6,6,
 6,6,6,6,6,6,6,6,6,6,6,6,6,6,6,6,6,6,6,6,6,6,6,6,6,6,6,6,7,7,7,7,7,7,7,7,7,7,7,7,7,7,7,7,7,7,7,7,7,7,7,7,7,7,7,7,7,7,7,7,7,7,7,7,7,7,7,7,7,7,7,7,7,7,7,7,
 7,7,7,7,7,7,7,7,7,7,7,7,7,7,7,7,8,8,8,8,8,8,8,8,8,8,8,8,8,8,8,8,8,8,8,8,8,8,8,8,8,8,8,8,8,8,8,8,8,8,8,8,8,8,8,8,8,8,8,8,8,8,8,8,8,8,8,8,8,8,8,8,8,8,8,8,
 8,8,8,8,8,8,8,8,8,8,8,8,8,8,8,8,8,8,8,8,8,8,8,8,8,8,8,8,8,8,8,8,8,8,8,8,8,8,8,8,8,8,8,8,8,8,8,8,8,8,8,8,8,8,8,8,8,8,8,8,8,8,8,8,8,8,8,8]⟩)) (t 21)),o 23 (.cv .i64 (t 22)),
 p 24 .add 19 23,m 2 24]
 .ret)))))⟩
theorem e231 : qD Tryz.prog Tryz.f231 [] = some c231 := by kernel_rfl
def c232 : SF := ⟨9,[.t 4],(sq [B 4 false] (sq [m 5 0,m 6 1,k 7 (.ca (.func 183) [(t 5),(t 6)]),q 8 .geq 7 0,m 4 8]
 .ret))⟩
theorem e232 : qD Tryz.prog Tryz.f232 [] = some c232 := by kernel_rfl
def c233 : SF := ⟨14,[.t 5],(sq [k 4 (.bx 84 (t 0)),B 5 false] (.seq (.opq [l 6 1,o 7 (.nc (t 6)),f 8 0 7,L 9 2 8,L 10 10 4,l 11 2,l 12 3,k 13 (.ca (.func 179) [(t 9),
 (t 10),(t 11),(t 12),(i 1)]),m 5 13])
 .ret))⟩
theorem e233 : qD Tryz.prog Tryz.f233 [(ps [0,1,2,3,4,5,6,7,8])] = some c233 := by kernel_rfl
def c237 : SF := ⟨15,[.t 4],(sq [k 3 (.bx 102 (t 0)),B 4 false] (sq [f 5 0 3,l 6 5,l 7 1,p 8 .eql 6 7,m 9 8,gf 10 9 true 1 3,gL 11 9 true 6 10,gl 12 9 true 2,
 ⟨some 13, some (9, true),.ca (.func 206) [(t 11),(t 12)]⟩,P 14 9 13,m 4 14]
 .ret))⟩
theorem e237 : qD Tryz.prog Tryz.f237 [] = some c237 := by kernel_rfl
def c238 : SF := ⟨17,[.t 4],(sq [w 4 0] (.seq (sq [m 5 0,q 6 .eql 5 18,m 7 6,gm 8 7 false 0,og 9 7 false (.bin .eql (t 8) (i 19)),R 10 7 9,m 11 10,gm 12 11 false 0,
 og 13 11 false (.bin .eql (t 12) (i 7)),R 14 11 13] (.cond (t 14) (sq [w 4 32]
 .ret)
 .skip)) (sq [m 15 1,k 16 (.ca (.func 74) [(t 15)]),m 4 16]
 .ret)))⟩
theorem e238 : qD Tryz.prog Tryz.f238 [] = some c238 := by kernel_rfl
def c239 : SF := ⟨17,[.c true 6 2,.t 3],(sq [k 2 (.al 59 [.int .i64 0,.bool false,.int .i64 0,.int .i64 0,.int .i64 0,.int .i64 0]),o 3 (.mv (.const (.slice none 0 0)))] (sq [m 4 0,
 o 5 (.nc (t 4)),f 6 6 5,l 7 6,k 8 (.ca (.func 134) [(t 7)])] (.seq (.opq [m 9 0,o 10 (.nc (t 9)),f 11 0 10,L 12 6 11,m 13 0,o 14 (.nc (t 13)),f 15 6 14,
 l 16 15,kn (.st [15] 6 (t 2) (t 12)),m 3 16])
 .ret)))⟩
theorem e239 : qD Tryz.prog Tryz.f239 [[(0,[]),(1,[]),(2,[]),(3,[]),(4,[]),(5,[]),(6,[]),(7,[]),(8,[15]),(9,[])]] = some c239 := by kernel_rfl
def c241 : SF := ⟨40,[],(sq [m 6 2,q 7 .eql 6 0] (.cond (t 7) (.opd [m 8 0,m 9 0,o 10 (.nc (t 9)),f 11 0 10,L 12 6 11,m 13 0,o 14 (.nc (t 13)),f 15 0 14,
 f 16 0 15,l 17 16,m 18 1,k 19 (.ca (.func 166) [(t 17),(t 18)]),k 20 (.ca (.func 146) [(t 12),(t 19)]),o 21 (.nc (t 8)),f 22 0 21,kn (.st [] 6 (t 22) (t 20))]) (sq [m 23 0,
 o 24 (.nc (t 23)),f 25 6 24,l 26 25,m 27 2,k 28 (.ca (.func 145) [(t 26),(t 27)]),u 29 28] (.cond (t 29) (.ops [m 30 0,m 31 0,o 32 (.nc (t 31)),f 33 6 32,
 l 34 33,m 35 2,k 36 (.bs 3 1 [.int .i64 0] [(0,1,(t 35))]),k 37 (.ap 3 1 8 (t 34) (t 36)),o 38 (.nc (t 30)),f 39 6 38,kn (.st [] 1 (t 39) (t 37))])
 .skip))))⟩
theorem e241 : qD Tryz.prog Tryz.f241 [(ps [0,1,2,3,4,5,6,7,8,9,10,11,12,13,14,15])] = some c241 := by kernel_rfl
def c242 : SF := ⟨92,[.t 8,.t 9],(sq [w 8 0,w 9 0] (sq [m 12 1,m 13 2,k 14 (.ca (.func 278) [(t 12),(t 13)]),m 15 1,m 16 3,k 17 (.ca (.func 278) [(t 15),
 (t 16)]),m 10 14,m 11 17] (.seq (sq [m 18 0] (.block 0 (sq [q 20 .eql 18 8,m 19 20] (.cond (t 19) (sq [m 21 1,m 22 10,m 23 11,p 24 .add 22 23,k 25 (.ca (.func 279) [(t 21),
 (t 24)]),e 26 25 0,e 27 25 1,m 8 26,m 9 27]
 .ret) (sq [q 29 .eql 18 9,m 28 29] (.cond (t 28) (sq [m 30 1,m 31 10,m 32 11,p 33 .sub 31 32,k 34 (.ca (.func 279) [(t 30),(t 33)]),e 35 34 0,e 36 34 1,
 m 8 35,m 9 36]
 .ret) (sq [q 38 .eql 18 10,m 37 38] (.cond (t 37) (sq [m 39 1,m 40 10,m 41 11,p 42 .mul 40 41,k 43 (.ca (.func 279) [(t 39),(t 42)]),e 44 43 0,e 45 43 1,
 m 8 44,m 9 45]
 .ret) (.seq (sq [q 47 .eql 18 11,m 46 47] (.cond (t 46)
 .skip (.ops [q 48 .eql 18 12,m 46 48]))) (.cond (t 46) (sq [m 49 0,m 50 1,m 51 10,m 52 11,k 53 (.ca (.func 280) [(t 49),(t 50),(t 51),(t 52)]),e 54 53 0,
 e 55 53 1,m 8 54,m 9 55]
 .ret) (sq [q 57 .eql 18 13,m 56 57] (.cond (t 56) (sq [m 58 2,m 59 3,p 60 .and 58 59,m 8 60,w 9 0]
 .ret) (sq [q 62 .eql 18 14,m 61 62] (.cond (t 61) (sq [m 63 2,m 64 3,p 65 .or 63 64,m 8 65,w 9 0]
 .ret) (sq [q 67 .eql 18 15,m 66 67] (.cond (t 66) (sq [m 68 2,m 69 3,p 70 .xor 68 69,m 8 70,w 9 0]
 .ret) (.seq (sq [q 72 .eql 18 16,m 71 72] (.cond (t 71)
 .skip (.ops [q 73 .eql 18 17,m 71 73]))) (.cond (t 71) (sq [m 74 0,m 75 1,m 76 2,m 77 10,m 78 11,k 79 (.ca (.func 281) [(t 74),(t 75),(t 76),(t 77),(t 78)]),
 e 80 79 0,e 81 79 1,m 8 80,m 9 81]
 .ret) (sq [q 83 .eql 18 18,m 82 83] (.cond (t 82) (sq [m 84 10,m 85 11,p 86 .eql 84 85,k 87 (.ca (.func 282) [(t 86)]),m 8 87,w 9 0]
 .ret)
 .skip)))))))))))))))))))) (sq [m 88 10,m 89 11,p 90 .lss 88 89,k 91 (.ca (.func 282) [(t 90)]),m 8 91,w 9 0]
 .ret))))⟩
theorem e242 : qD Tryz.prog Tryz.f242 [] = some c242 := by kernel_rfl
def c243 : SF := ⟨13,[.t 6],(sq [w 6 0] (sq [m 7 0,m 8 2,k 9 (.ca (.func 278) [(t 7),(t 8)]),m 10 1,k 11 (.ca (.func 74) [(t 10)]),k 12 (.ca (.func 246) [(t 9),
 (t 11)]),m 6 12]
 .ret))⟩
theorem e243 : qD Tryz.prog Tryz.f243 [] = some c243 := by kernel_rfl
def c246 : SF := ⟨9,[.t 4],(sq [w 4 0] (sq [m 5 0,m 6 1,k 7 (.ca (.func 170) [(t 6)]),p 8 .and 5 7,m 4 8]
 .ret))⟩
theorem e246 : qD Tryz.prog Tryz.f246 [] = some c246 := by kernel_rfl
def c247 : SF := ⟨66,[.c true 5 2,.t 3],(sq [k 1 (.bx 185 (t 0)),k 2 (.al 91 [.int .i64 0,.int .i64 0,.int .i64 0,.int .i64 0,.int .i64 0]),B 3 false] (sq [f 11 1 1,
 L 12 6 11,k 13 (.ca (.func 171) [(t 12)]),m 10 13,e 14 10 0,e 15 10 1,m 4 14,m 5 15] (sq [f 17 7 1,L 18 6 17,k 19 (.ca (.func 171) [(t 18)]),m 16 19,e 20 16 0,
 e 21 16 1,m 6 20,m 7 21] (sq [f 23 13 1,l 24 23,o 25 (.bd [.int .i64 0,.bool false,.int .i64 0,.int .i64 0,.int .i64 0,.int .i64 0,.slice none 0 0] [(6,
 1,(t 24))]),k 26 (.ca (.func 286) [(i 7),(t 25)]),m 22 26,e 27 22 0,e 28 22 1,k 8 (.al 50 [.bool false,.int .i64 0,.int .i64 0,.int .i64 0]),kn (.st [] 4 (t 8) (t 27)),
 m 9 28] (.seq (.block 0 (sq [L 30 14 1,k 31 (.ca (.func 194) [(t 30),(b true),(b false),(b false)]),m 29 31] (.cond (t 29) (sq [o 32 (.bd [.int .i64 0,
 .int .i64 0,.int .i64 0,.int .i64 0,.int .i64 0] []),kn (.st [] 5 (t 2) (t 32)),B 3 true]
 .ret) (sq [L 34 14 1,k 35 (.ca (.func 194) [(t 34),(b false),(b true),(b false)]),m 36 35,gm 37 36 true 5,P 38 36 37,m 33 38] (.cond (t 33) (sq [m 39 4,
 o 40 (.bd [.int .i64 0,.int .i64 0,.int .i64 0,.int .i64 0,.int .i64 0] [(0,1,(i 1)),(1,1,(t 39))]),kn (.st [] 5 (t 2) (t 40)),B 3 true]
 .ret) (sq [L 42 14 1,k 43 (.ca (.func 194) [(t 42),(b false),(b false),(b true)]),m 44 43,gm 45 44 true 7,P 46 44 45,m 47 46,gm 48 47 true 9,P 49 47 48,
 m 50 49,gf 51 50 true 2 8,gl 52 50 true 51,og 53 50 true (.bin .gtr (t 52) (i 0)),P 54 50 53,m 55 54,gm 56 55 true 6,og 57 55 true (.bin .lss (t 56) (i 4)),
 P 58 55 57,m 41 58] (.cond (t 41) (sq [f 59 2 8,l 60 59,f 61 3 8,l 62 61,m 63 6,o 64 (.bd [.int .i64 0,.int .i64 0,.int .i64 0,.int .i64 0,.int .i64 0] [(0,
 1,(i 2)),(2,1,(t 60)),(3,1,(t 62)),(4,1,(t 63))]),kn (.st [] 5 (t 2) (t 64)),B 3 true]
 .ret)
 .skip))))))) (sq [o 65 (.bd [.int .i64 0,.int .i64 0,.int .i64 0,.int .i64 0,.int .i64 0] []),kn (.st [] 5 (t 2) (t 65)),B 3 false]
 .ret))))))⟩
theorem e247 : qD Tryz.prog Tryz.f247 [] = some c247 := by kernel_rfl
def c251 : SF := ⟨35,[.t 4],(sq [k 2 (.bx 59 (t 0)),k 3 (.bx 59 (t 1)),B 4 false] (sq [f 6 2 2,l 7 6,f 8 2 3,l 9 8,p 10 .sub 7 9,f 11 0 2,l 12 11,k 13 (.ca (.func 246) [(t 10),
 (t 12)]),m 5 13] (.seq (.opd [L 14 6 3,f 16 0 3,l 17 16,k 15 (.ca (.func 252) [(t 14)]),k 18 (.ca (.func 170) [(t 17)]),p 19 .eql 15 18,m 20 19,gm 21 20 false 5,
 gL 22 20 false 6 3,⟨some 23, some (20, false),.ca (.func 252) [(t 22)]⟩,og 24 20 false (.bin .leq (t 21) (t 23)),gm 25 20 false 24,gL 26 25 true 6 2,gL 28 25 true 6 3,
 gm 30 25 true 5,⟨some 27, some (25, true),.ca (.func 252) [(t 26)]⟩,⟨some 29, some (25, true),.ca (.func 252) [(t 28)]⟩,og 31 25 true (.bin .sub (t 29) (t 30)),
 og 32 25 true (.bin .leq (t 27) (t 31)),og 33 20 false (.pick (t 25) (t 32) (b false)),R 34 20 33,m 4 34])
 .ret)))⟩
theorem e251 : qD Tryz.prog Tryz.f251 [(ps [0,2,3,1,4,5,6,7,8,9,10,11,12,14,16,13,15,17,18,19,20,21])] = some c251 := by kernel_rfl
def c252 : SF := ⟨11,[.t 2],(sq [k 1 (.bx 59 (t 0)),w 2 0] (sq [f 3 3 1,l 4 3,f 5 2 1,l 6 5,p 7 .sub 4 6,f 8 0 1,l 9 8,k 10 (.ca (.func 246) [(t 7),(t 9)]),
 m 2 10]
 .ret))⟩
theorem e252 : qD Tryz.prog Tryz.f252 [] = some c252 := by kernel_rfl
def c253 : SF := ⟨30,[.t 4],(sq [k 2 (.bx 59 (t 0)),B 4 false] (.seq (sq [f 5 2 2,l 6 5,f 7 3 2,l 8 7,p 9 .leq 6 8] (.cond (t 9) (sq [m 10 1,f 11 2 2,l 12 11,
 p 13 .geq 10 12,m 14 13,gm 15 14 true 1,gf 16 14 true 3 2,gl 17 14 true 16,og 18 14 true (.bin .leq (t 15) (t 17)),P 19 14 18,m 4 19]
 .ret)
 .skip)) (sq [m 20 1,f 21 2 2,l 22 21,p 23 .geq 20 22,m 24 23,gm 25 24 false 1,gf 26 24 false 3 2,gl 27 24 false 26,og 28 24 false (.bin .leq (t 25) (t 27)),
 R 29 24 28,m 4 29]
 .ret)))⟩
theorem e253 : qD Tryz.prog Tryz.f253 [] = some c253 := by kernel_rfl
def c254 : SF := ⟨19,[.t 4],(sq [w 4 0] (.seq (sq [m 6 0,z 7 6,w 8 0] (.block 0 (.loop (sq [p 9 .lss 8 7] (.seq (.cond (t 9)
 .skip (.exit 0)) (.seq (.block 1 (sq [m 10 8,m 5 10] (sq [m 11 1,m 12 0,m 13 5,x 14 2 12 13,L 15 2 14,k 16 (.ca (t 11) [(t 15)])] (.cond (t 16) (sq [m 17 5,
 m 4 17]
 .ret)
 .skip)))) (.ops [q 18 .add 8 1,m 8 18]))))))) (sq [w 4 (-1)]
 .ret)))⟩
theorem e254 : qD Tryz.prog Tryz.f254 [] = some c254 := by kernel_rfl
def c255 : SF := ⟨6,[.t 2],(sq [k 1 (.bx 91 (t 0)),B 2 false] (sq [L 3 5 1,k 4 (.ca (.func 256) [(t 3)]),u 5 4,m 2 5]
 .ret))⟩
theorem e255 : qD Tryz.prog Tryz.f255 [] = some c255 := by kernel_rfl
def c256 : SF := ⟨47,[.t 2],(sq [k 1 (.bx 91 (t 0)),B 2 false] (.seq (sq [f 3 0 1,l 4 3] (.block 0 (sq [q 6 .eql 4 0,m 5 6] (.cond (t 5) (sq [L 7 5 1,o 8 (.bd [.int .i64 0,
 .int .i64 0,.int .i64 0,.int .i64 0,.int .i64 0] []),o 9 (.eqs (.st [(false,0,1,.i),(false,1,1,.i),(false,2,1,.i),(false,3,1,.i),(false,4,1,.i)]) false (t 7) (t 8)),
 m 2 9]
 .ret) (sq [q 11 .eql 4 1,m 10 11] (.cond (t 10) (sq [f 12 1 1,l 13 12,k 14 (.ca (.func 287) [(t 13),(i 255)]),m 15 14,gL 16 15 true 5 1,gf 17 15 true 1 1,
 gl 18 15 true 17,og 19 15 true (.bd [.int .i64 0,.int .i64 0,.int .i64 0,.int .i64 0,.int .i64 0] [(0,1,(i 1)),(1,1,(t 18))]),og 20 15 true (.eqs (.st [(false,
 0,1,.i),(false,1,1,.i),(false,2,1,.i),(false,3,1,.i),(false,4,1,.i)]) false (t 16) (t 19)),P 21 15 20,m 2 21]
 .ret) (sq [q 23 .eql 4 2,m 22 23] (.cond (t 22) (sq [f 24 1 1,l 25 24,q 26 .eql 25 0,m 27 26,gf 28 27 true 2 1,gl 29 27 true 28,og 30 27 true (.bin .geq (t 29) (i 1)),
 P 31 27 30,m 32 31,gf 33 32 true 2 1,gl 34 32 true 33,og 35 32 true (.bin .leq (t 34) (i 32)),P 36 32 35,m 37 36,gf 38 37 true 3 1,gl 39 37 true 38,⟨some 40,
  some (37, true),.ca (.func 287) [(t 39),(i 32)]⟩,P 41 37 40,m 42 41,gf 43 42 true 4 1,gl 44 42 true 43,⟨some 45, some (42, true),.ca (.func 287) [(t 44),
 (i 3)]⟩,P 46 42 45,m 2 46]
 .ret)
 .skip)))))))) (sq [B 2 false]
 .ret)))⟩
theorem e256 : qD Tryz.prog Tryz.f256 [] = some c256 := by kernel_rfl
def c257 : SF := ⟨19,[.t 4],(sq [w 4 0] (.seq (sq [m 6 0,z 7 6,w 8 0] (.block 0 (.loop (sq [p 9 .lss 8 7] (.seq (.cond (t 9)
 .skip (.exit 0)) (.seq (.block 1 (sq [m 10 8,m 5 10] (sq [m 11 1,m 12 0,m 13 5,x 14 5 12 13,L 15 5 14,k 16 (.ca (t 11) [(t 15)])] (.cond (t 16) (sq [m 17 5,
 m 4 17]
 .ret)
 .skip)))) (.ops [q 18 .add 8 1,m 8 18]))))))) (sq [w 4 (-1)]
 .ret)))⟩
theorem e257 : qD Tryz.prog Tryz.f257 [] = some c257 := by kernel_rfl
def c258 : SF := ⟨8,[.t 3],(sq [k 2 (.bx 91 (t 0)),B 3 false] (sq [f 4 0 2,l 5 4,l 6 1,p 7 .eql 5 6,m 3 7]
 .ret))⟩
theorem e258 : qD Tryz.prog Tryz.f258 [] = some c258 := by kernel_rfl
def c278 : SF := ⟨12,[.t 4],(sq [w 4 0] (.seq (sq [m 5 0,k 6 (.ca (.func 283) [(t 5)])] (.cond (t 6) (sq [m 7 1,m 8 0,k 9 (.ca (.func 74) [(t 8)]),k 10 (.ca (.func 285) [(t 7),
 (t 9)]),m 4 10]
 .ret)
 .skip)) (sq [m 11 1,m 4 11]
 .ret)))⟩
theorem e278 : qD Tryz.prog Tryz.f278 [] = some c278 := by kernel_rfl
def c281 : SF := ⟨36,[.t 10,.t 11],(sq [w 10 0,w 11 0] (sq [m 13 1,k 14 (.ca (.func 74) [(t 13)]),m 12 14] (.seq (.block 0 (sq [m 16 4,q 17 .lss 16 0,m 18 17,
 gm 19 18 false 4,gm 20 18 false 12,og 21 18 false (.bin .geq (t 19) (t 20)),R 22 18 21,m 15 22] (.cond (t 15) (sq [w 10 0,w 11 5]
 .ret) (sq [m 24 0,q 25 .eql 24 16,m 23 25] (.cond (t 23) (sq [m 26 2,m 27 4,p 28 .shl 26 27,m 29 12,k 30 (.ca (.func 246) [(t 28),(t 29)]),m 10 30,w 11 0]
 .ret)
 .skip))))) (sq [m 31 3,m 32 4,p 33 .shr 31 32,m 34 12,k 35 (.ca (.func 246) [(t 33),(t 34)]),m 10 35,w 11 0]
 .ret))))⟩
theorem e281 : qD Tryz.prog Tryz.f281 [] = some c281 := by kernel_rfl
def c283 : SF := ⟨13,[.t 2],(sq [B 2 false] (sq [m 3 0,q 4 .eql 3 2,m 5 4,gm 6 5 false 0,og 7 5 false (.bin .eql (t 6) (i 4)),R 8 5 7,m 9 8,gm 10 9 false 0,
 og 11 9 false (.bin .eql (t 10) (i 6)),R 12 9 11,m 2 12]
 .ret))⟩
theorem e283 : qD Tryz.prog Tryz.f283 [] = some c283 := by kernel_rfl
def c285 : SF := ⟨15,[.t 4],(sq [w 4 0] (.seq (sq [m 5 0,m 6 1,q 7 .sub 6 1,o 8 (.bin .shl (i 1) (t 7)),p 9 .geq 5 8] (.cond (t 9) (sq [m 10 0,m 11 1,o 12 (.bin .shl (i 1) (t 11)),
 p 13 .sub 10 12,m 4 13]
 .ret)
 .skip)) (sq [m 14 0,m 4 14]
 .ret)))⟩
theorem e285 : qD Tryz.prog Tryz.f285 [] = some c285 := by kernel_rfl
def c286 : SF := ⟨35,[.c true 4 4,.t 5],(sq [k 3 (.bx 62 (t 1)),k 4 (.al 50 [.bool false,.int .i64 0,.int .i64 0,.int .i64 0]),B 5 false] (.seq (sq [m 7 0,
 q 8 .neq 7 7] (.cond (t 8) (sq [f 10 0 3,L 11 6 10,k 12 (.ca (.func 171) [(t 11)]),m 9 12,e 13 9 0,e 14 9 1,f 15 1 4,kn (.st [] 1 (t 15) (t 13)),m 5 14] (sq [L 16 4 4,
 m 17 5,kn (.st [] 4 (t 4) (t 16)),m 5 17]
 .ret))
 .skip)) (sq [f 19 6 3,l 20 19,k 21 (.ca (.func 131) [(t 20),(i 1)]),m 18 21,e 22 18 0,e 23 18 1,m 6 22,m 5 23] (.seq (sq [m 24 5,u 25 24,m 26 25,gm 27 26 false 6,
 og 28 26 false (.ln (t 27)),og 29 26 false (.bin .eql (t 28) (i 0)),R 30 26 29] (.cond (t 30) (sq [L 31 4 4,kn (.st [] 4 (t 4) (t 31)),B 5 false]
 .ret)
 .skip)) (sq [m 32 6,o 33 (.ia 4 (t 32) (i 0)),L 34 4 33,kn (.st [] 4 (t 4) (t 34)),B 5 true]
 .ret)))))⟩
theorem e286 : qD Tryz.prog Tryz.f286 [] = some c286 := by kernel_rfl
def c287 : SF := ⟨12,[.t 4],(sq [B 4 false] (sq [m 5 0,q 6 .geq 5 0,m 7 6,gm 8 7 true 0,gm 9 7 true 1,og 10 7 true (.bin .leq (t 8) (t 9)),P 11 7 10,m 4 11]
 .ret))⟩
theorem e287 : qD Tryz.prog Tryz.f287 [] = some c287 := by kernel_rfl
end Go.Proofs.Tryz.S
