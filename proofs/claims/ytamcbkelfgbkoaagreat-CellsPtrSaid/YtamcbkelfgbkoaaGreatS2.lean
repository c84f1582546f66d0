/- The small codes of functions, by program (gen.py, by this workplace's session), each with the proof that it is the function's own. -/
import Derived.Test.YtamcbkelfgbkoaaGreatProg
import Derived.Test.YtamcbkelfgbkoaaGreatS1
namespace Go.Proofs.Tryz.S
open Go Go.Ax Go.Ax.W
open Go.Ax.N (t i b o og k kn)
set_option maxRecDepth 100000

def c69 : SF := ⟨9,[.t 4],(sq [B 4 false] (sq [m 5 0,m 6 1,k 7 (.ca (.func 116) [(t 5),(t 6)]),q 8 .geq 7 0,m 4 8]
 .ret))⟩
theorem e69 : qD Tryz.prog Tryz.f69 [] = some c69 := by kernel_rfl
def c70 : SF := ⟨8,[.t 3],(sq [k 2 (.bx 46 (t 0)),B 3 false] (sq [L 4 7 1,L 5 3 2,k 6 (.ca (.func 71) [(t 4),(t 5)]),u 7 6,m 3 7]
 .ret))⟩
theorem e70 : qD Tryz.prog Tryz.f70 [] = some c70 := by kernel_rfl
def c71 : SF := ⟨65,[.t 4],(sq [k 2 (.bx 28 (t 0)),k 3 (.bx 46 (t 1)),B 4 false] (.seq (sq [f 8 0 3,l 9 8] (.cond (t 9) (sq [f 10 1 3,l 11 10,z 12 11,f 13 2 3,
 l 14 13,z 15 14,p 16 .add 12 15,q 17 .eql 16 0,m 4 17]
 .ret)
 .skip)) (.seq (sq [f 18 1 3,l 19 18,z 20 19,q 21 .gtr 20 200,m 22 21,gf 23 22 false 2 3,gl 24 22 false 23,og 25 22 false (.ln (t 24)),gf 26 22 false 3 2,
 gl 27 22 false 26,og 28 22 false (.ln (t 27)),og 29 22 false (.bin .neq (t 25) (t 28)),R 30 22 29] (.cond (t 30) (sq [B 4 false]
 .ret)
 .skip)) (.seq (sq [f 31 2 3,l 32 31,k 33 (.ca (.func 98) [(t 32),(.func 117)])] (.cond (t 33) (sq [B 4 false]
 .ret)
 .skip)) (sq [L 34 7 2,k 35 (.ca (.func 118) [(t 34)]),m 5 35] (.seq (sq [f 36 1 3,l 37 36,z 38 37,w 39 0] (.block 0 (.loop (sq [p 40 .lss 39 38] (.seq (.cond (t 40)
 .skip (.exit 0)) (.seq (.block 1 (sq [m 41 39,x 42 10 37 39,L 43 10 42,k 7 (.al 84 [.int .i64 0,.int .i64 0,.int .i64 0,.int .i64 0,.bool false,.int .i64 0,
 .int .i64 0,.int .i64 0,.int .i64 0,.slice none 0 0]),m 6 41,kn (.st [] 10 (t 7) (t 43))] (.seq (.opq [L 44 7 2,m 45 5,L 46 10 7,k 47 (.ca (.func 119) [(t 44),
 (t 45),(t 46)]),u 48 47,m 49 48,gm 50 49 false 6,og 51 49 false (.bin .gtr (t 50) (i 0)),gm 52 49 false 51,gf 53 52 true 1 3,gl 54 52 true 53,gm 55 52 true 6,
 og 56 52 true (.bin .sub (t 55) (i 1)),og 57 52 true (.ia 10 (t 54) (t 56)),gL 58 52 true 10 57,gL 59 52 true 10 7,⟨some 60, some (52, true),.ca (.func 120) [(t 58),
 (t 59)]⟩,og 61 52 true (.bin .geq (t 60) (i 0)),og 62 49 false (.pick (t 52) (t 61) (b false)),R 63 49 62]) (.cond (t 63) (sq [B 4 false]
 .ret)
 .skip)))) (.ops [q 64 .add 39 1,m 39 64]))))))) (sq [B 4 true]
 .ret)))))))⟩
theorem e71 : qD Tryz.prog Tryz.f71 [(ps [0,1,2,3,4,5,6,7,8,9,10,11,12,13,14,15,16,17,18,19])] = some c71 := by kernel_rfl
def c72 : SF := ⟨9,[.t 2],(sq [B 2 false] (sq [m 3 0,q 4 .geq 3 1,m 5 4,gm 6 5 true 0,og 7 5 true (.bin .leq (t 6) (i 6)),P 8 5 7,m 2 8]
 .ret))⟩
theorem e72 : qD Tryz.prog Tryz.f72 [] = some c72 := by kernel_rfl
def c73 : SF := ⟨42,[.t 2],(sq [k 1 (.bx 59 (t 0)),B 2 false] (.seq (sq [f 5 0 1,l 6 5,k 7 (.ca (.func 121) [(t 6)]),u 8 7] (.cond (t 8) (sq [B 2 false]
 .ret)
 .skip)) (.seq (sq [f 9 1 1,l 10 9] (.cond (t 10) (.seq (.opd [L 11 6 1,f 12 0 1,l 13 12,k 14 (.ca (.func 122) [(t 13)]),o 15 (.eqs (.st [(false,0,1,.i),
 (false,1,1,.b),(false,2,1,.i),(false,3,1,.i),(false,4,1,.i),(false,5,1,.i)]) false (t 11) (t 14)),m 2 15])
 .ret)
 .skip)) (.seq (sq [f 16 2 1,l 17 16,f 18 3 1,l 19 18,f 20 4 1,l 21 20,f 22 5 1,l 23 22,k 24 (.bs 3 4 [.int .i64 0,.int .i64 0,.int .i64 0,.int .i64 0] [(0,
 1,(t 17)),(1,1,(t 19)),(2,1,(t 21)),(3,1,(t 23))]),z 25 24,w 26 0] (.block 0 (.loop (sq [p 27 .lss 26 25] (.seq (.cond (t 27)
 .skip (.exit 0)) (.seq (.block 1 (sq [x 28 1 24 26,l 29 28,m 4 29] (sq [m 30 4,f 31 0 1,l 32 31,k 33 (.ca (.func 123) [(t 30),(t 32)]),u 34 33] (.cond (t 34) (sq [B 2 false]
 .ret)
 .skip)))) (.ops [q 35 .add 26 1,m 26 35]))))))) (sq [f 36 5 1,l 37 36,f 38 4 1,l 39 38,p 40 .and 37 39,q 41 .eql 40 0,m 2 41]
 .ret)))))⟩
theorem e73 : qD Tryz.prog Tryz.f73 [(ps [0,1,2,3,4,5])] = some c73 := by kernel_rfl
def c74 : SF := ⟨7,[.t 2],(sq [w 2 0] (sq [m 3 0,q 4 .sub 3 1,q 5 .quo 4 2,o 6 (.bin .shl (i 8) (t 5)),m 2 6]
 .ret))⟩
theorem e74 : qD Tryz.prog Tryz.f74 [] = some c74 := by kernel_rfl
def c75 : SF := ⟨31,[.t 2],(sq [B 2 false] (.seq (sq [m 5 0,z 6 5,w 7 0] (.block 0 (.loop (sq [p 8 .lss 7 6] (.seq (.cond (t 8)
 .skip (.exit 0)) (.seq (.block 1 (sq [m 9 7,x 10 7 5 7,L 11 7 10,k 4 (.al 102 [.int .i64 0,.int .i64 0,.bool false,.int .i64 0,.int .i64 0,.int .i64 0,
 .int .i64 0]),m 3 9,kn (.st [] 7 (t 4) (t 11))] (.seq (.opq [L 12 7 4,k 13 (.ca (.func 124) [(t 12)]),u 14 13,m 15 14,gm 16 15 false 3,og 17 15 false (.bin .gtr (t 16) (i 0)),
 gm 18 15 false 17,gf 19 18 true 0 4,gl 20 18 true 19,gm 21 18 true 0,gm 22 18 true 3,og 23 18 true (.bin .sub (t 22) (i 1)),og 24 18 true (.ia 7 (t 21) (t 23)),
 gf 25 18 true 0 24,gl 26 18 true 25,og 27 18 true (.bin .leq (t 20) (t 26)),og 28 15 false (.pick (t 18) (t 27) (b false)),R 29 15 28]) (.cond (t 29) (sq [B 2 false]
 .ret)
 .skip)))) (.ops [q 30 .add 7 1,m 7 30]))))))) (sq [B 2 true]
 .ret)))⟩
theorem e75 : qD Tryz.prog Tryz.f75 [(ps [0,1,2,3,4,5,6,7,8,9,10,11,12,13,14,15,16,17])] = some c75 := by kernel_rfl
def c76 : SF := ⟨9,[.t 4],(sq [B 4 false] (sq [m 5 0,m 6 1,k 7 (.ca (.func 125) [(t 5),(t 6)]),q 8 .geq 7 0,m 4 8]
 .ret))⟩
theorem e76 : qD Tryz.prog Tryz.f76 [] = some c76 := by kernel_rfl
def c77 : SF := ⟨8,[.t 3],(sq [k 2 (.bx 102 (t 0)),B 3 false] (sq [f 4 0 2,l 5 4,l 6 1,p 7 .gtr 5 6,m 3 7]
 .ret))⟩
theorem e77 : qD Tryz.prog Tryz.f77 [] = some c77 := by kernel_rfl
def c78 : SF := ⟨14,[.t 4],(sq [k 3 (.bx 62 (t 1)),B 4 false] (.seq (sq [m 5 0,q 6 .eql 5 7] (.cond (t 6) (sq [f 7 6 3,l 8 7,k 9 (.ca (.func 76) [(t 8),
 (.func 126)]),u 10 9,m 4 10]
 .ret)
 .skip)) (sq [f 11 0 3,L 12 6 11,k 13 (.ca (.func 128) [(t 12)]),m 4 13]
 .ret)))⟩
theorem e78 : qD Tryz.prog Tryz.f78 [] = some c78 := by kernel_rfl
def c79 : SF := ⟨85,[.t 8],(sq [k 4 (.bx 132 (t 0)),k 5 (.bx 62 (t 1)),o 8 (.mv (.const (.slice none 0 0)))] (sq [f 15 0 4,f 16 0 15,L 17 2 16,m 18 2,k 19 (.ca (.func 129) [(t 17),
 (t 18)]),m 9 19] (sq [k 20 (.bs 3 1 [.int .i64 0] [(0,1,(i 0))]),f 21 0 4,f 22 2 21,l 23 22,f 24 0 4,f 25 3 24,l 26 25,k 27 (.bs 24 3 [.slice none 0 0,
 .slice none 0 0,.slice none 0 0] [(0,1,(t 20)),(1,1,(t 23)),(2,1,(t 26))]),k 28 (.ca (.func 130) [(t 27)]),m 10 28] (sq [f 30 6 5,l 31 30,k 32 (.ca (.func 131) [(t 31),
 (i 231)]),m 29 32,e 33 29 0,e 34 29 1,m 11 33,m 12 34] (.seq (sq [m 35 11,z 36 35,w 37 0] (.block 0 (.loop (sq [p 38 .lss 37 36] (.seq (.cond (t 38)
 .skip (.exit 0)) (.seq (.block 1 (sq [x 39 4 35 37,L 40 4 39,k 14 (.al 50 [.bool false,.int .i64 0,.int .i64 0,.int .i64 0]),kn (.st [] 4 (t 14) (t 40))] (.seq (sq [L 41 10 4,
 f 42 2 14,l 43 42,k 44 (.ca (.func 132) [(t 41),(t 43)]),q 45 .neq 44 2] (.cond (t 45) (.ops [m 46 3,k 47 (.ca (.func 89) [(t 46),(i 2)])])
 .skip)) (.block 2 (sq [L 57 10 4,f 58 2 14,l 59 58,k 60 (.ca (.func 133) [(t 57),(t 59)]),u 61 60,m 56 61] (.cond (t 56)
 .skip (.seq (.opq [f 63 3 14,l 64 63,m 65 9,p 66 .add 64 65,m 67 10,f 68 2 14,l 69 68,x 70 1 67 69,l 71 70,p 72 .gtr 66 71,m 62 72]) (.cond (t 62) (.ops [m 73 3,
 k 74 (.ca (.func 89) [(t 73),(i 1)])]) (sq [f 76 3 14,l 77 76,m 78 9,p 79 .rem 77 78,q 80 .neq 79 0,m 75 80] (.cond (t 75) (.ops [m 81 3,k 82 (.ca (.func 89) [(t 81),
 (i 3)])]) (.ops [m 48 8,f 49 2 14,l 50 49,f 51 3 14,l 52 51,o 53 (.bd [.int .i64 0,.int .i64 0] [(0,1,(t 50)),(1,1,(t 52))]),k 54 (.bs 138 1 [.int .i64 0,
 .int .i64 0] [(0,2,(t 53))]),k 55 (.ap 138 2 16 (t 48) (t 54)),m 8 55]))))))))))) (.ops [q 83 .add 37 1,m 37 83]))))))) (sq [m 84 8,m 8 84]
 .ret))))))⟩
theorem e79 : qD Tryz.prog Tryz.f79 [(ps [0,1,2,3,4,5,6,7,8,9,10])] = some c79 := by kernel_rfl
def c80 : SF := ⟨17,[.c true 7 2,.t 3],(sq [k 2 (.al 62 [.int .i64 0,.bool false,.int .i64 0,.int .i64 0,.int .i64 0,.int .i64 0,.slice none 0 0]),o 3 (.mv (.const (.slice none 0 0)))] (sq [m 4 0,
 o 5 (.nc (t 4)),f 6 7 5,l 7 6,k 8 (.ca (.func 134) [(t 7)])] (.seq (.opq [m 9 0,o 10 (.nc (t 9)),f 11 0 10,L 12 7 11,m 13 0,o 14 (.nc (t 13)),f 15 7 14,
 l 16 15,kn (.st [15] 7 (t 2) (t 12)),m 3 16])
 .ret)))⟩
theorem e80 : qD Tryz.prog Tryz.f80 [[(0,[]),(1,[]),(2,[]),(3,[]),(4,[]),(5,[]),(6,[]),(7,[]),(8,[15]),(9,[])]] = some c80 := by kernel_rfl
def c81 : SF := ⟨41,[.t 8],(sq [k 4 (.bx 132 (t 0)),k 5 (.bx 138 (t 1)),k 7 (.bx 62 (t 3)),o 8 (.mv (.const (.slice none 0 0)))] (sq [L 10 10 4,k 11 (.ca (.func 135) [(t 10)]),
 m 9 11] (.seq (.opd [m 12 9,f 13 0 5,l 14 13,f 15 1 5,l 16 15,f 17 0 4,f 18 0 17,L 19 2 18,m 20 2,k 21 (.ca (.func 129) [(t 19),(t 20)]),k 22 (.cq (.func 136) [(t 12),
 (t 14),(t 16),(t 21)])]) (.seq (.opq [m 23 9,m 24 9,o 25 (.nc (t 24)),f 26 2 25,l 27 26,f 28 0 5,l 29 28,f 30 1 5,l 31 30,m 32 2,L 33 7 7,o 34 (.bd [.int .i64 0,
 .int .i64 0,.int .i64 0,.int .i64 0,.bool false,.int .i64 0,.int .i64 0,.int .i64 0,.int .i64 0,.slice none 0 0] [(0,1,(t 29)),(1,1,(t 31)),(2,1,(t 32)),
 (3,7,(t 33))]),k 35 (.bs 84 1 [.int .i64 0,.int .i64 0,.int .i64 0,.int .i64 0,.bool false,.int .i64 0,.int .i64 0,.int .i64 0,.int .i64 0,.slice none 0 0] [(0,
 10,(t 34))]),k 36 (.ap 84 10 96 (t 27) (t 35)),o 37 (.nc (t 23)),f 38 2 37,kn (.st [] 1 (t 38) (t 36))]) (sq [m 39 9,k 40 (.ca (.func 137) [(t 39)]),m 8 40]
 .ret)))))⟩
theorem e81 : qD Tryz.prog Tryz.f81 [[(0,[]),(1,[]),(2,[]),(3,[]),(4,[]),(5,[]),(6,[]),(7,[]),(8,[]),(9,[]),(10,[0])],(ps [0,1,2,3,4,5,6,7,8,9,10,11,12,13,14,15,16])] = some c81 := by kernel_rfl
def c82 : SF := ⟨24,[.t 4],(sq [k 2 (.bx 132 (t 0)),o 4 (.mv (.const (.slice none 0 0)))] (sq [f 7 7 2,f 8 2 7,l 9 8,k 10 (.ca (.func 84) [(t 9)]),m 5 10] (.seq (sq [m 11 1,
 q 12 .sub 11 1,f 13 0 2,f 14 2 13,l 15 14,z 16 15,p 17 .sub 12 16,m 6 17] (sq [m 18 6,q 19 .geq 18 0] (.cond (t 19) (.ops [m 20 5,m 21 6,x 22 1 20 21,kn (.st [] 1 (t 22) (i 2))])
 .skip))) (sq [m 23 5,m 4 23]
 .ret))))⟩
theorem e82 : qD Tryz.prog Tryz.f82 [] = some c82 := by kernel_rfl
def c84 : SF := ⟨8,[.t 2],(sq [o 2 (.mv (.const (.slice none 0 0)))] (.seq (sq [m 3 0,o 4 (.sn false (t 3))] (.cond (t 4) (sq [o 2 (.mv (.const (.slice none 0 0)))]
 .ret)
 .skip)) (sq [k 5 (.bs 3 0 [] []),m 6 0,k 7 (.ap 3 1 8 (t 5) (t 6)),m 2 7]
 .ret)))⟩
theorem e84 : qD Tryz.prog Tryz.f84 [] = some c84 := by kernel_rfl
def c85 : SF := ⟨8,[.t 2],(sq [o 2 (.mv (.const (.slice none 0 0)))] (.seq (sq [m 3 0,o 4 (.sn false (t 3))] (.cond (t 4) (sq [o 2 (.mv (.const (.slice none 0 0)))]
 .ret)
 .skip)) (sq [k 5 (.bs 84 0 [] []),m 6 0,k 7 (.ap 84 10 96 (t 5) (t 6)),m 2 7]
 .ret)))⟩
theorem e85 : qD Tryz.prog Tryz.f85 [] = some c85 := by kernel_rfl
def c86 : SF := ⟨26,[.t 4],(sq [B 4 false] (.seq (sq [m 6 0,z 7 6,m 8 1,z 9 8,p 10 .neq 7 9] (.cond (t 10) (sq [B 4 false]
 .ret)
 .skip)) (.seq (sq [w 5 0] (.block 0 (.loop (.seq (sq [m 11 5,m 12 0,z 13 12,p 14 .lss 11 13] (.cond (t 14)
 .skip (.exit 0))) (.seq (.block 1 (.seq (.opq [m 17 0,m 18 5,x 19 5 17 18,L 20 5 19,m 21 1,m 22 5,x 23 5 21 22,L 24 5 23,o 25 (.eqs (.st [(false,0,1,.i),
 (false,1,1,.i),(false,2,1,.i),(false,3,1,.i),(false,4,1,.i)]) true (t 20) (t 24))]) (.cond (t 25) (sq [B 4 false]
 .ret)
 .skip))) (.ops [m 15 5,q 16 .add 15 1,m 5 16])))))) (sq [B 4 true]
 .ret))))⟩
theorem e86 : qD Tryz.prog Tryz.f86 [(ps [0,1,2,3,4,5,6,7,8])] = some c86 := by kernel_rfl
def c87 : SF := ⟨10,[.c true 7 2],(sq [k 2 (.al 62 [.int .i64 0,.bool false,.int .i64 0,.int .i64 0,.int .i64 0,.int .i64 0,.slice none 0 0])] (.seq (sq [m 3 0,
 q 4 .eql 3 7] (.cond (t 4) (sq [o 5 (.bd [.int .i64 0,.bool false,.int .i64 0,.int .i64 0,.int .i64 0,.int .i64 0,.slice none 0 0] []),kn (.st [] 7 (t 2) (t 5))]
 .ret)
 .skip)) (sq [m 6 0,k 7 (.ca (.func 74) [(t 6)]),k 8 (.ca (.func 122) [(t 7)]),k 9 (.ca (.func 143) [(t 8)]),kn (.st [] 7 (t 2) (t 9))]
 .ret)))⟩
theorem e87 : qD Tryz.prog Tryz.f87 [] = some c87 := by kernel_rfl
def c88 : SF := ⟨51,[.c true 8 8],(sq [k 4 (.bx 132 (t 0)),k 8 (.al 130 [.int .i64 0,.bool false,.int .i64 0,.int .i64 0,.int .i64 0,.int .i64 0,.slice none 0 0,
 .slice none 0 0])] (.seq (sq [L 12 10 4,m 13 1,m 14 2,m 15 3,k 16 (.ca (.func 138) [(t 12),(t 13),(t 14),(t 15)]),m 9 16] (sq [m 17 9,q 18 .geq 17 0] (.cond (t 18) (sq [f 19 7 4,
 f 20 1 19,l 21 20,m 22 9,x 23 10 21 22,f 24 3 23,L 25 7 24,o 26 (.bd [.int .i64 0,.bool false,.int .i64 0,.int .i64 0,.int .i64 0,.int .i64 0,.slice none 0 0,
 .slice none 0 0] [(0,7,(t 25))]),kn (.st [] 8 (t 8) (t 26))]
 .ret)
 .skip))) (sq [o 10 (.mv (.const (.slice none 0 0)))] (.seq (sq [f 27 0 4,f 28 0 27,L 29 2 28,m 30 3,k 31 (.ca (.func 129) [(t 29),(t 30)]),w 32 0] (.block 0 (.loop (sq [p 33 .lss 32 31] (.seq (.cond (t 33)
 .skip (.exit 0)) (.seq (.block 1 (sq [m 34 32,m 11 34] (.ops [m 35 10,L 36 10 4,m 37 1,m 38 2,m 39 11,p 40 .add 38 39,k 41 (.ca (.func 139) [(t 36),(t 37),
 (t 40)]),k 42 (.bs 185 1 [.bool false,.int .i64 0,.bool false,.int .i64 0,.int .i64 0,.int .i64 0,.int .i64 0,.int .i64 0,.bool false,.int .i64 0,.int .i64 0,
 .int .i64 0,.int .i64 0,.slice none 0 0] [(0,14,(t 41))]),k 43 (.ap 185 14 128 (t 35) (t 42)),m 10 43]))) (.ops [q 44 .add 32 1,m 32 44]))))))) (sq [f 45 0 4,
 f 46 0 45,L 47 2 46,m 48 3,m 49 10,k 50 (.ca (.func 144) [(t 47),(t 48),(t 49)]),kn (.st [] 8 (t 8) (t 50))]
 .ret)))))⟩
theorem e88 : qD Tryz.prog Tryz.f88 [] = some c88 := by kernel_rfl
def c89 : SF := ⟨21,[],(sq [m 4 0,o 5 (.nc (t 4)),f 6 7 5,l 7 6,m 8 1,k 9 (.ca (.func 145) [(t 7),(t 8)]),u 10 9] (.cond (t 10) (.ops [m 11 0,m 12 0,o 13 (.nc (t 12)),
 f 14 7 13,l 15 14,m 16 1,k 17 (.bs 3 1 [.int .i64 0] [(0,1,(t 16))]),k 18 (.ap 3 1 8 (t 15) (t 17)),o 19 (.nc (t 11)),f 20 7 19,kn (.st [] 1 (t 20) (t 18))])
 .skip))⟩
theorem e89 : qD Tryz.prog Tryz.f89 [] = some c89 := by kernel_rfl
def c90 : SF := ⟨21,[.c true 7 6],(sq [k 4 (.bx 62 (t 1)),k 5 (.bx 62 (t 2)),k 6 (.al 62 [.int .i64 0,.bool false,.int .i64 0,.int .i64 0,.int .i64 0,.int .i64 0,
 .slice none 0 0])] (.seq (sq [m 7 0,q 8 .neq 7 7] (.cond (t 8) (sq [f 9 0 4,L 10 6 9,f 11 0 5,L 12 6 11,k 13 (.ca (.func 146) [(t 10),(t 12)]),k 14 (.ca (.func 143) [(t 13)]),
 kn (.st [] 7 (t 6) (t 14))]
 .ret)
 .skip)) (sq [f 15 6 4,l 16 15,f 17 6 5,l 18 17,k 19 (.ca (.func 147) [(t 16),(t 18),(.func 148)]),o 20 (.bd [.int .i64 0,.bool false,.int .i64 0,.int .i64 0,
 .int .i64 0,.int .i64 0,.slice none 0 0] [(6,1,(t 19))]),kn (.st [] 7 (t 6) (t 20))]
 .ret)))⟩
theorem e90 : qD Tryz.prog Tryz.f90 [] = some c90 := by kernel_rfl
def c91 : SF := ⟨8,[.t 2],(sq [o 2 (.mv (.const (.slice none 0 0)))] (.seq (sq [m 3 0,o 4 (.sn false (t 3))] (.cond (t 4) (sq [o 2 (.mv (.const (.slice none 0 0)))]
 .ret)
 .skip)) (sq [k 5 (.bs 102 0 [] []),m 6 0,k 7 (.ap 102 7 56 (t 5) (t 6)),m 2 7]
 .ret)))⟩
theorem e91 : qD Tryz.prog Tryz.f91 [] = some c91 := by kernel_rfl
def c92 : SF := ⟨73,[.t 4],(sq [k 2 (.bx 59 (t 0)),w 4 0] (.seq (sq [f 9 1 2,l 10 9,m 11 10,gm 12 11 false 1,gf 13 11 false 0 2,gl 14 11 false 13,og 15 11 false (.bin .shl (i 1) (t 14)),
 og 16 11 false (.bin .geq (t 12) (t 15)),R 17 11 16] (.cond (t 17) (sq [w 4 (-1)]
 .ret)
 .skip)) (sq [f 18 2 2,l 19 18,k 20 (.bs 3 2 [.int .i64 0,.int .i64 0] [(0,1,(t 19)),(1,1,(i 0))]),m 5 20] (sq [f 21 3 2,l 22 21,k 23 (.bs 3 2 [.int .i64 0,
 .int .i64 0] [(0,1,(t 22)),(1,1,(i (-1)))]),m 6 23] (.seq (sq [f 24 2 2,l 25 24,f 26 3 2,l 27 26,p 28 .gtr 25 27] (.cond (t 28) (.opq [f 29 2 2,l 30 29,
 f 32 3 2,l 33 32,f 34 0 2,l 35 34,o 36 (.bin .shl (i 1) (t 35)),q 37 .sub 36 1,k 31 (.bs 3 2 [.int .i64 0,.int .i64 0] [(0,1,(i 0)),(1,1,(t 30))]),m 5 31,
 k 38 (.bs 3 2 [.int .i64 0,.int .i64 0] [(0,1,(t 33)),(1,1,(t 37))]),m 6 38])
 .skip)) (.seq (sq [w 7 0] (.block 0 (.loop (.seq (sq [m 39 7,q 40 .lss 39 2] (.cond (t 40)
 .skip (.exit 0))) (.seq (.block 1 (.seq (.seq (.opq [m 43 1,m 44 5,m 45 7,x 46 1 44 45,l 47 46,o 48 (.mx [(t 43),(t 47)]),m 49 6,m 50 7,x 51 1 49 50,l 52 51,
 p 53 .gtr 48 52]) (.cond (t 53) (.exit 1)
 .skip)) (.seq (.opq [L 54 6 2,m 55 1,m 56 5,m 57 7,x 58 1 56 57,l 59 58,o 60 (.mx [(t 55),(t 59)]),k 61 (.ca (.func 150) [(t 54),(t 60)]),m 8 61]) (sq [m 62 8,
 q 63 .geq 62 0,m 64 63,gm 65 64 true 8,gm 66 64 true 6,gm 67 64 true 7,og 68 64 true (.ia 1 (t 66) (t 67)),gl 69 64 true 68,og 70 64 true (.bin .leq (t 65) (t 69)),
 P 71 64 70] (.cond (t 71) (sq [m 72 8,m 4 72]
 .ret)
 .skip))))) (.ops [m 41 7,q 42 .add 41 1,m 7 42])))))) (sq [w 4 (-1)]
 .ret)))))))⟩
theorem e92 : qD Tryz.prog Tryz.f92 [(ps [0,1,3,4,5,6,7,8,2,10,9,11]),(ps [0,1,2,3,4,5,6,7,8,9,10]),(ps [0,1,2,3,4,5,6,7,8])] = some c92 := by kernel_rfl
def c93 : SF := ⟨17,[.t 2,.t 3],(sq [k 1 (.bx 59 (t 0)),w 2 0,B 3 false] (sq [L 5 6 1,k 6 (.ca (.func 92) [(t 5),(i 0)]),m 4 6] (sq [m 7 4,m 8 4,q 9 .geq 8 0,
 m 10 9,gL 11 10 true 6 1,gm 12 10 true 4,og 13 10 true (.bin .add (t 12) (i 1)),⟨some 14, some (10, true),.ca (.func 92) [(t 11),(t 13)]⟩,og 15 10 true (.bin .lss (t 14) (i 0)),
 P 16 10 15,m 2 7,m 3 16]
 .ret)))⟩
theorem e93 : qD Tryz.prog Tryz.f93 [] = some c93 := by kernel_rfl
def c94 : SF := ⟨75,[.t 6],(sq [k 3 (.bx 28 (t 0)),k 4 (.bx 46 (t 1)),k 5 (.bx 42 (t 2)),B 6 false] (.seq (sq [f 12 0 4,l 13 12] (.cond (t 13) (sq [B 6 false]
 .ret)
 .skip)) (.seq (sq [f 14 1 4,l 15 14,z 16 15,w 17 0] (.block 0 (.loop (sq [p 18 .lss 17 16] (.seq (.cond (t 18)
 .skip (.exit 0)) (.seq (.block 1 (sq [x 19 10 15 17,L 20 10 19,k 8 (.al 84 [.int .i64 0,.int .i64 0,.int .i64 0,.int .i64 0,.bool false,.int .i64 0,.int .i64 0,
 .int .i64 0,.int .i64 0,.slice none 0 0]),kn (.st [] 10 (t 8) (t 20))] (sq [f 21 0 5,l 22 21,f 23 0 8,l 24 23,x 25 2 22 24,L 26 2 25,k 9 (.al 76 [.int .i64 0,
 .slice none 0 0]),kn (.st [] 2 (t 9) (t 26))] (.seq (.opd [f 27 0 9,l 28 27,q 29 .eql 28 1,m 30 29,gf 31 30 true 0 3,gL 32 30 true 2 31,gL 33 30 true 10 8,
 gf 34 30 true 1 9,gl 35 30 true 34,gf 36 30 true 1 8,gl 37 30 true 36,gf 38 30 true 1 8,gl 39 30 true 38,gf 40 30 true 0 3,gL 41 30 true 2 40,gf 42 30 true 2 8,
 gl 43 30 true 42,⟨some 44, some (30, true),.ca (.func 129) [(t 41),(t 43)]⟩,og 45 30 true (.bin .add (t 39) (t 44)),og 46 30 true (.sl 5 (t 35) (some (t 37)) (some (t 45))),
 ⟨some 47, some (30, true),.ca (.func 151) [(t 32),(t 33),(t 46)]⟩,og 48 30 true (.un .not (t 47)),P 49 30 48]) (.cond (t 49) (sq [B 6 false]
 .ret)
 .skip))))) (.ops [q 50 .add 17 1,m 17 50]))))))) (.seq (sq [f 51 2 4,l 52 51,z 53 52,w 54 0] (.block 2 (.loop (sq [p 55 .lss 54 53] (.seq (.cond (t 55)
 .skip (.exit 2)) (.seq (.block 3 (sq [m 56 54,x 57 1 52 54,l 58 57,m 10 56,m 11 58] (sq [m 59 11,f 60 0 5,l 61 60,f 62 2 3,l 63 62,z 64 63,o 65 (.bin .add (i 1) (t 64)),
 m 66 10,p 67 .add 65 66,x 68 2 61 67,f 69 0 68,l 70 69,p 71 .shr 59 70,q 72 .and 71 1,q 73 .eql 72 0] (.cond (t 73) (sq [B 6 false]
 .ret)
 .skip)))) (.ops [q 74 .add 54 1,m 54 74]))))))) (sq [B 6 true]
 .ret)))))⟩
theorem e94 : qD Tryz.prog Tryz.f94 [(ps [0,1,2,3,4,5,6,7,8,9,10,11,12,13,14,15,16,17,18,19,20,21,22])] = some c94 := by kernel_rfl
def c95 : SF := ⟨43,[.t 2],(sq [k 1 (.bx 84 (t 0)),B 2 false] (.seq (sq [f 9 2 1,l 10 9] (.block 0 (sq [q 12 .eql 10 0,m 11 12] (.cond (t 11) (sq [B 2 true]
 .ret) (sq [q 14 .eql 10 11,m 13 14] (.cond (t 13) (sq [f 16 3 1,f 17 0 16,L 18 6 17,k 19 (.ca (.func 93) [(t 18)]),m 15 19,e 20 15 0,e 21 15 1,m 3 20,
 m 4 21] (sq [f 23 3 1,f 24 6 23,l 25 24,o 26 (.bd [.int .i64 0,.bool false,.int .i64 0,.int .i64 0,.int .i64 0,.int .i64 0,.slice none 0 0] [(6,1,(t 25))]),
 k 27 (.ca (.func 52) [(i 7),(t 26)]),m 22 27,e 28 22 0,e 29 22 1,k 5 (.al 50 [.bool false,.int .i64 0,.int .i64 0,.int .i64 0]),kn (.st [] 4 (t 5) (t 28)),
 m 6 29] (sq [m 30 4,m 31 30,gm 32 31 true 6,P 33 31 32,m 2 33]
 .ret)))
 .skip)))))) (sq [f 35 2 1,l 36 35,f 37 3 1,L 38 7 37,k 39 (.ca (.func 52) [(t 36),(t 38)]),m 34 39,e 40 34 0,e 41 34 1,k 7 (.al 50 [.bool false,.int .i64 0,
 .int .i64 0,.int .i64 0]),kn (.st [] 4 (t 7) (t 40)),m 8 41] (sq [m 42 8,m 2 42]
 .ret))))⟩
theorem e95 : qD Tryz.prog Tryz.f95 [] = some c95 := by kernel_rfl
def c96 : SF := ⟨9,[.t 2],(sq [B 2 false] (sq [m 3 0,q 4 .lss 3 1,m 5 4,gm 6 5 false 0,og 7 5 false (.bin .gtr (t 6) (i 32)),R 8 5 7,m 2 8]
 .ret))⟩
theorem e96 : qD Tryz.prog Tryz.f96 [] = some c96 := by kernel_rfl
def c97 : SF := ⟨11,[.t 2],(sq [k 1 (.bx 23 (t 0)),B 2 false] (sq [f 3 1 1,l 4 3,q 5 .eql 4 2,m 6 5,gf 7 6 false 1 1,gl 8 6 false 7,og 9 6 false (.bin .eql (t 8) (i 4)),
 R 10 6 9,m 2 10]
 .ret))⟩
theorem e97 : qD Tryz.prog Tryz.f97 [] = some c97 := by kernel_rfl
def c98 : SF := ⟨9,[.t 4],(sq [B 4 false] (sq [m 5 0,m 6 1,k 7 (.ca (.func 152) [(t 5),(t 6)]),q 8 .geq 7 0,m 4 8]
 .ret))⟩
theorem e98 : qD Tryz.prog Tryz.f98 [] = some c98 := by kernel_rfl
def c99 : SF := ⟨42,[.t 4],(sq [k 2 (.bx 153 (t 0)),B 4 false] (sq [f 6 0 2,f 7 4 6,l 8 7,m 9 1,x 10 5 8 9,L 11 5 10,k 5 (.al 200 [.int .i64 0,.int .i64 0,
 .int .i64 0,.int .i64 0,.int .i64 0]),kn (.st [] 5 (t 5) (t 11))] (.seq (sq [L 12 7 2,m 13 1,k 14 (.ca (.func 153) [(t 12),(t 13)]),u 15 14] (.cond (t 15) (sq [B 4 false]
 .ret)
 .skip)) (.seq (sq [f 16 0 5,l 17 16,k 18 (.ca (.func 154) [(t 17)])] (.block 0 (sq [q 20 .eql 18 0,m 19 20] (.cond (t 19) (sq [L 21 7 2,L 22 5 5,k 23 (.ca (.func 155) [(t 21),
 (t 22)]),m 4 23]
 .ret) (sq [q 25 .eql 18 1,m 24 25] (.cond (t 24) (sq [f 26 2 5,l 27 26,q 28 .eql 27 0,m 29 28,gL 30 29 true 7 2,gL 31 29 true 5 5,⟨some 32, some (29, true),
 .ca (.func 156) [(t 30),(t 31)]⟩,P 33 29 32,m 4 33]
 .ret)
 .skip)))))) (sq [f 34 2 5,l 35 34,q 36 .eql 35 0,m 37 36,gL 38 37 true 7 2,gL 39 37 true 5 5,⟨some 40, some (37, true),.ca (.func 157) [(t 38),(t 39)]⟩,
 P 41 37 40,m 4 41]
 .ret)))))⟩
theorem e99 : qD Tryz.prog Tryz.f99 [] = some c99 := by kernel_rfl
def c100 : SF := ⟨9,[.t 4],(sq [B 4 false] (sq [m 5 0,m 6 1,k 7 (.ca (.func 158) [(t 5),(t 6)]),q 8 .geq 7 0,m 4 8]
 .ret))⟩
theorem e100 : qD Tryz.prog Tryz.f100 [] = some c100 := by kernel_rfl
def c101 : SF := ⟨8,[.t 3],(sq [k 2 (.bx 37 (t 0)),B 3 false] (sq [L 4 7 1,L 5 7 2,k 6 (.ca (.func 102) [(t 4),(t 5)]),u 7 6,m 3 7]
 .ret))⟩
theorem e101 : qD Tryz.prog Tryz.f101 [] = some c101 := by kernel_rfl
def c102 : SF := ⟨85,[.t 4],(sq [k 2 (.bx 153 (t 0)),k 3 (.bx 37 (t 1)),B 4 false] (.seq (sq [L 5 7 3,k 6 (.ca (.func 159) [(t 5)]),u 7 6] (.cond (t 7) (sq [B 4 false]
 .ret)
 .skip)) (.seq (sq [f 8 0 3,l 9 8] (.block 0 (sq [q 11 .eql 9 1,m 10 11] (.cond (t 10) (sq [L 12 7 2,f 13 1 3,l 14 13,k 15 (.ca (.func 160) [(t 12),(t 14),
 (i 7)]),m 16 15,gf 17 16 true 2 3,gl 18 16 true 17,⟨some 19, some (16, true),.ca (.func 39) [(t 18)]⟩,P 20 16 19,m 21 20,gL 22 21 true 7 2,gf 23 21 true 3 3,
 gl 24 21 true 23,gf 25 21 true 2 3,gl 26 21 true 25,⟨some 27, some (21, true),.ca (.func 160) [(t 22),(t 24),(t 26)]⟩,P 28 21 27,m 4 28]
 .ret) (sq [q 30 .eql 9 2,m 29 30] (.cond (t 29) (sq [L 31 7 2,f 32 1 3,l 33 32,k 34 (.ca (.func 160) [(t 31),(t 33),(i 7)]),m 35 34,gf 36 35 true 2 3,
 gl 37 35 true 36,⟨some 38, some (35, true),.ca (.func 72) [(t 37)]⟩,P 39 35 38,m 4 39]
 .ret) (sq [q 41 .eql 9 3,m 40 41] (.cond (t 40) (sq [L 42 7 2,f 43 1 3,l 44 43,k 45 (.ca (.func 160) [(t 42),(t 44),(i 7)]),m 46 45,gf 47 46 true 4 3,
 gl 48 46 true 47,gf 49 46 true 0 2,gf 50 46 true 2 49,gl 51 46 true 50,og 52 46 true (.ln (t 51)),og 53 46 true (.bin .gtr (t 48) (t 52)),P 54 46 53,m 55 54,
 gf 56 55 true 4 3,gl 57 55 true 56,gf 58 55 true 0 2,gf 59 55 true 2 58,gl 60 55 true 59,og 61 55 true (.ln (t 60)),gf 62 55 true 0 2,gf 63 55 true 3 62,
 gl 64 55 true 63,og 65 55 true (.ln (t 64)),og 66 55 true (.bin .add (t 61) (t 65)),og 67 55 true (.bin .leq (t 57) (t 66)),P 68 55 67,m 4 68]
 .ret) (sq [q 70 .eql 9 4,m 69 70] (.cond (t 69) (sq [L 71 7 2,f 72 3 3,l 73 72,k 74 (.ca (.func 160) [(t 71),(t 73),(i 7)]),m 4 74]
 .ret) (.seq (sq [q 76 .eql 9 5,m 75 76] (.cond (t 75)
 .skip (.ops [q 77 .eql 9 6,m 75 77]))) (.cond (t 75) (sq [L 78 7 2,f 79 3 3,l 80 79,k 81 (.ca (.func 160) [(t 78),(t 80),(i 6)]),m 4 81]
 .ret)
 .skip)))))))))))) (sq [f 82 0 3,l 83 82,q 84 .eql 83 7,m 4 84]
 .ret))))⟩
theorem e102 : qD Tryz.prog Tryz.f102 [] = some c102 := by kernel_rfl
def c103 : SF := ⟨25,[.t 2,.t 3],(sq [k 1 (.bx 153 (t 0)),o 2 (.mv (.const (.slice none 0 0))),B 3 false] (sq [L 7 7 1,f 8 0 1,f 9 6 8,l 10 9,k 11 (.ca (.func 161) [(t 7),
 (t 10),(.const (.slice none 0 0)),(i 0)]),m 6 11,e 12 6 0,e 13 6 1,m 4 12,m 5 13] (.seq (.opq [m 14 4,m 15 5,m 16 15,gm 17 16 true 4,og 18 16 true (.ln (t 17)),
 gf 19 16 true 0 1,gf 20 16 true 5 19,gl 21 16 true 20,og 22 16 true (.ln (t 21)),og 23 16 true (.bin .eql (t 18) (t 22)),P 24 16 23,m 2 14,m 3 24])
 .ret)))⟩
theorem e103 : qD Tryz.prog Tryz.f103 [(ps [0,1,2,3,4,5,6,7,8,9,10,11,12])] = some c103 := by kernel_rfl
def c104 : SF := ⟨65,[.t 2],(sq [k 1 (.bx 153 (t 0)),B 2 false] (sq [f 9 0 1,f 10 5 9,l 11 10,z 12 11,k 13 (.ms 4 1 1 [.bool false] (t 12) (t 12)),m 3 13] (sq [k 14 (.mm),
 m 4 14] (.seq (sq [f 15 0 1,f 16 5 15,l 17 16,z 18 17,w 19 0] (.block 0 (.loop (sq [p 20 .lss 19 18] (.seq (.cond (t 20)
 .skip (.exit 0)) (.seq (.block 1 (sq [m 21 19,x 22 7 17 19,L 23 7 22,k 6 (.al 37 [.int .i64 0,.int .i64 0,.int .i64 0,.int .i64 0,.int .i64 0,.slice none 0 0,
 .slice none 0 0]),m 5 21,kn (.st [] 7 (t 6) (t 23))] (.seq (sq [f 24 5 6,l 25 24,f 26 6 6,l 27 26,k 28 (.bs 24 2 [.slice none 0 0,.slice none 0 0] [(0,
 1,(t 25)),(1,1,(t 27))]),k 29 (.ca (.func 130) [(t 28)]),z 30 29,w 31 0] (.block 2 (.loop (sq [p 32 .lss 31 30] (.seq (.cond (t 32)
 .skip (.exit 2)) (.seq (.block 3 (sq [x 33 1 29 31,l 34 33,m 8 34] (.ops [m 35 3,m 36 8,m 37 3,m 38 5,x 39 1 37 38,l 40 39,m 41 40,gf 42 41 false 0 6,
 gl 43 41 false 42,og 44 41 false (.bin .eql (t 43) (i 6)),R 45 41 44,x 46 1 35 36,kn (.st [] 1 (t 46) (t 45))]))) (.ops [q 47 .add 31 1,m 31 47]))))))) (sq [f 48 0 6,
 l 49 48,q 50 .eql 49 3] (.cond (t 50) (.seq (sq [m 51 3,m 52 5,x 53 1 51 52,l 54 53,m 55 54,gm 56 55 false 4,gf 57 55 false 4 6,gl 58 55 false 57,⟨some 59,
  some (55, false),.ml (.bool false) (t 56) (t 58)⟩,R 60 55 59] (.cond (t 60) (sq [B 2 false]
 .ret)
 .skip)) (.ops [m 61 4,f 62 4 6,l 63 62,kn (.mu (t 61) (t 63) (b true))]))
 .skip))))) (.ops [q 64 .add 19 1,m 19 64]))))))) (sq [B 2 true]
 .ret)))))⟩
theorem e104 : qD Tryz.prog Tryz.f104 [] = some c104 := by kernel_rfl
def c105 : SF := ⟨13,[.t 3],(sq [B 3 false] (sq [m 4 0,q 5 .geq 4 0,m 6 5,gm 7 6 true 0,gf 8 6 true 5 1,gl 9 6 true 8,og 10 6 true (.ln (t 9)),og 11 6 true (.bin .lss (t 7) (t 10)),
 P 12 6 11,m 3 12]
 .ret))⟩
theorem e105 : qD Tryz.prog Tryz.f105 [] = some c105 := by kernel_rfl
def c106 : SF := ⟨8,[.t 3],(sq [B 3 false] (sq [l 4 1,m 5 0,k 6 (.ca (t 4) [(t 5)]),u 7 6,m 3 7]
 .ret))⟩
theorem e106 : qD Tryz.prog Tryz.f106 [] = some c106 := by kernel_rfl
def c107 : SF := ⟨63,[.t 4],(sq [k 2 (.bx 28 (t 0)),B 4 false] (sq [L 8 7 2,k 9 (.ca (.func 118) [(t 8)]),m 5 9] (.seq (sq [m 10 1,k 11 (.ca (.func 162) [(t 10)]),
 u 12 11,m 13 12,gm 14 13 false 1,og 15 13 false (.ln (t 14)),gm 16 13 false 5,og 17 13 false (.ln (t 16)),og 18 13 false (.bin .neq (t 15) (t 17)),R 19 13 18] (.cond (t 19) (sq [B 4 false]
 .ret)
 .skip)) (.seq (sq [m 20 1,z 21 20,w 22 0] (.block 0 (.loop (sq [p 23 .lss 22 21] (.seq (.cond (t 23)
 .skip (.exit 0)) (.seq (.block 1 (sq [m 24 22,x 25 2 20 22,L 26 2 25,k 7 (.al 76 [.int .i64 0,.slice none 0 0]),m 6 24,kn (.st [] 2 (t 7) (t 26))] (.seq (.opq [f 27 0 7,
 l 28 27,q 29 .eql 28 1,m 30 29,gf 31 30 true 1 7,gl 32 30 true 31,og 33 30 true (.ln (t 32)),gm 34 30 true 5,gm 35 30 true 6,og 36 30 true (.ia 1 (t 34) (t 35)),
 gl 37 30 true 36,og 38 30 true (.bin .neq (t 33) (t 37)),P 39 30 38,m 40 39,gm 41 40 false 6,og 42 40 false (.bin .geq (t 41) (i 1)),gm 43 40 false 42,
 gm 44 43 true 6,gf 45 43 true 2 2,gl 46 43 true 45,og 47 43 true (.ln (t 46)),og 48 43 true (.bin .leq (t 44) (t 47)),og 49 40 false (.pick (t 43) (t 48) (b false)),
 gm 50 40 false 49,gf 51 50 true 0 7,gl 52 50 true 51,og 53 50 true (.bin .neq (t 52) (i 1)),og 54 40 false (.pick (t 50) (t 53) (b false)),R 55 40 54,m 56 55,
 gL 57 56 false 2 7,gm 58 56 false 5,⟨some 59, some (56, false),.ca (.func 163) [(t 57),(t 58)]⟩,og 60 56 false (.un .not (t 59)),R 61 56 60]) (.cond (t 61) (sq [B 4 false]
 .ret)
 .skip)))) (.ops [q 62 .add 22 1,m 22 62]))))))) (sq [B 4 true]
 .ret)))))⟩
theorem e107 : qD Tryz.prog Tryz.f107 [(ps [0,1,2,3,4,5,6,7,8,9,10,11,12,13,14,15,16,17,18,19,20,21,22,23,24,25,26,27,28,29,30,31,32,33,34])] = some c107 := by kernel_rfl
def c108 : SF := ⟨45,[.c true 4 6,.t 7],(sq [k 3 (.bx 23 (t 0)),k 6 (.al 50 [.bool false,.int .i64 0,.int .i64 0,.int .i64 0]),B 7 false] (.seq (sq [m 10 2,
 f 11 1 3,l 12 11,p 13 .rem 10 12,q 14 .neq 13 0,m 15 14,gm 16 15 false 2,gf 17 15 false 1 3,gl 18 15 false 17,og 19 15 false (.bin .add (t 16) (t 18)),
 gm 20 15 false 1,og 21 15 false (.ln (t 20)),og 22 15 false (.bin .gtr (t 19) (t 21)),R 23 15 22] (.cond (t 23) (sq [o 24 (.bd [.bool false,.int .i64 0,
 .int .i64 0,.int .i64 0] []),kn (.st [] 4 (t 6) (t 24)),B 7 false]
 .ret)
 .skip)) (.seq (.opd [L 26 2 3,m 27 1,m 28 2,m 29 2,f 30 1 3,l 31 30,p 32 .add 29 31,o 33 (.sl 5 (t 27) (some (t 28)) (some (t 32))),k 34 (.ca (.func 164) [(t 26),
 (i 7),(t 33)]),m 25 34,e 35 25 0,e 36 25 1,k 8 (.al 50 [.bool false,.int .i64 0,.int .i64 0,.int .i64 0]),kn (.st [] 4 (t 8) (t 35)),m 9 36]) (.seq (.opq [L 37 4 8,
 m 38 9,q 39 .eql 38 0,m 40 39,gf 41 40 true 2 8,gl 42 40 true 41,og 43 40 true (.bin .gtr (t 42) (i 0)),P 44 40 43,kn (.st [41] 4 (t 6) (t 37)),m 7 44])
 .ret))))⟩
theorem e108 : qD Tryz.prog Tryz.f108 [(ps [0,1,2,3,4,5,6,7,8,9,10,11,12,13,14]),[(0,[]),(1,[]),(2,[]),(3,[]),(4,[]),(5,[]),(6,[]),(7,[]),(8,[41]),(9,[])]] = some c108 := by kernel_rfl
def c109 : SF := ⟨18,[.c true 7 4],(sq [k 3 (.bx 50 (t 1)),k 4 (.al 62 [.int .i64 0,.bool false,.int .i64 0,.int .i64 0,.int .i64 0,.int .i64 0,.slice none 0 0])] (.seq (sq [m 5 0,
 q 6 .eql 5 7] (.cond (t 6) (sq [f 7 2 3,l 8 7,f 9 3 3,l 10 9,k 11 (.ca (.func 165) [(t 8),(t 10)]),kn (.st [] 7 (t 4) (t 11))]
 .ret)
 .skip)) (.seq (.opd [m 12 0,f 14 1 3,l 15 14,k 13 (.ca (.func 74) [(t 12)]),k 16 (.ca (.func 166) [(t 13),(t 15)]),k 17 (.ca (.func 143) [(t 16)]),kn (.st [] 7 (t 4) (t 17))])
 .ret)))⟩
theorem e109 : qD Tryz.prog Tryz.f109 [(ps [0,2,3,1,4,5,6])] = some c109 := by kernel_rfl
def c110 : SF := ⟨36,[.c true 10 6],(sq [k 5 (.bx 91 (t 2)),k 6 (.al 84 [.int .i64 0,.int .i64 0,.int .i64 0,.int .i64 0,.bool false,.int .i64 0,.int .i64 0,
 .int .i64 0,.int .i64 0,.slice none 0 0])] (sq [m 8 0,m 9 1,o 10 (.bd [.int .i64 0,.int .i64 0,.int .i64 0,.int .i64 0,.bool false,.int .i64 0,.int .i64 0,
 .int .i64 0,.int .i64 0,.slice none 0 0] [(0,1,(t 8)),(1,1,(t 9))]),k 7 (.al 84 [.int .i64 0,.int .i64 0,.int .i64 0,.int .i64 0,.bool false,.int .i64 0,
 .int .i64 0,.int .i64 0,.int .i64 0,.slice none 0 0]),kn (.st [] 10 (t 7) (t 10))] (.seq (sq [f 11 0 5,l 12 11] (.block 0 (sq [q 14 .eql 12 1,m 13 14] (.cond (t 13) (.ops [f 15 1 5,
 l 16 15,k 17 (.ca (.func 166) [(i 8),(t 16)]),k 18 (.ca (.func 143) [(t 17)]),f 19 2 7,kn (.st [] 1 (t 19) (i 1)),f 20 3 7,kn (.st [] 7 (t 20) (t 18))]) (sq [q 22 .eql 12 2,
 m 21 22] (.cond (t 21) (sq [f 23 2 5,l 24 23,f 25 3 5,l 26 25,k 27 (.ca (.func 165) [(t 24),(t 26)]),f 28 2 7,kn (.st [] 1 (t 28) (i 11)),f 29 3 7,kn (.st [] 7 (t 29) (t 27))] (.ops [f 30 4 5,
 l 31 30,k 32 (.ca (.func 166) [(i 8),(t 31)]),f 33 3 7,f 34 0 33,kn (.st [] 6 (t 34) (t 32))]))
 .skip)))))) (sq [L 35 10 7,kn (.st [] 10 (t 6) (t 35))]
 .ret))))⟩
theorem e110 : qD Tryz.prog Tryz.f110 [] = some c110 := by kernel_rfl
def c111 : SF := ⟨26,[.t 4],(sq [B 4 false] (.seq (sq [m 6 0,z 7 6,m 8 1,z 9 8,p 10 .neq 7 9] (.cond (t 10) (sq [B 4 false]
 .ret)
 .skip)) (.seq (sq [w 5 0] (.block 0 (.loop (.seq (sq [m 11 5,m 12 0,z 13 12,p 14 .lss 11 13] (.cond (t 14)
 .skip (.exit 0))) (.seq (.block 1 (.seq (.opq [m 17 0,m 18 5,x 19 7 17 18,L 20 7 19,m 21 1,m 22 5,x 23 7 21 22,L 24 7 23,o 25 (.eqs (.st [(false,0,1,.i),
 (true,1,6,(.st [(false,0,1,.i),(false,1,1,.b),(false,2,1,.i),(false,3,1,.i),(false,4,1,.i),(false,5,1,.i)]))]) true (t 20) (t 24))]) (.cond (t 25) (sq [B 4 false]
 .ret)
 .skip))) (.ops [m 15 5,q 16 .add 15 1,m 5 16])))))) (sq [B 4 true]
 .ret))))⟩
theorem e111 : qD Tryz.prog Tryz.f111 [(ps [0,1,2,3,4,5,6,7,8])] = some c111 := by kernel_rfl
def c112 : SF := ⟨13,[.t 2],(sq [B 2 false] (sq [m 3 0,q 4 .eql 3 8,m 5 4,gm 6 5 false 0,og 7 5 false (.bin .eql (t 6) (i 16)),R 8 5 7,m 9 8,gm 10 9 false 0,
 og 11 9 false (.bin .eql (t 10) (i 32)),R 12 9 11,m 2 12]
 .ret))⟩
theorem e112 : qD Tryz.prog Tryz.f112 [] = some c112 := by kernel_rfl
def c113 : SF := ⟨10,[.t 4],(sq [B 4 false] (sq [m 5 0,m 6 1,o 7 (.bin .shl (i 1) (t 6)),q 8 .sub 7 1,k 9 (.ca (.func 114) [(t 5),(t 8)]),m 4 9]
 .ret))⟩
theorem e113 : qD Tryz.prog Tryz.f113 [] = some c113 := by kernel_rfl
def c114 : SF := ⟨12,[.t 4],(sq [B 4 false] (sq [m 5 0,q 6 .geq 5 0,m 7 6,gm 8 7 true 0,gm 9 7 true 1,og 10 7 true (.bin .leq (t 8) (t 9)),P 11 7 10,m 4 11]
 .ret))⟩
theorem e114 : qD Tryz.prog Tryz.f114 [] = some c114 := by kernel_rfl
def c115 : SF := ⟨19,[.t 2],(sq [o 2 (.mv (.const (.slice none 0 0)))] (sq [o 3 (.mv (.const (.slice none 0 0)))] (.seq (sq [w 4 0] (.block 0 (.loop (.seq (sq [m 5 4,
 m 6 0,z 7 6,p 8 .lss 5 7] (.cond (t 8)
 .skip (.exit 0))) (.seq (.block 1 (.ops [m 11 3,m 12 0,m 13 4,x 14 5 12 13,L 15 5 14,k 16 (.bs 91 1 [.int .i64 0,.int .i64 0,.int .i64 0,.int .i64 0,.int .i64 0] [(0,
 5,(t 15))]),k 17 (.ap 91 5 40 (t 11) (t 16)),m 3 17])) (.ops [m 9 4,q 10 .add 9 1,m 4 10])))))) (sq [m 18 3,m 2 18]
 .ret))))⟩
theorem e115 : qD Tryz.prog Tryz.f115 [] = some c115 := by kernel_rfl
def c116 : SF := ⟨19,[.t 4],(sq [w 4 0] (.seq (sq [m 6 0,z 7 6,w 8 0] (.block 0 (.loop (sq [p 9 .lss 8 7] (.seq (.cond (t 9)
 .skip (.exit 0)) (.seq (.block 1 (sq [m 10 8,m 5 10] (sq [m 11 1,m 12 0,m 13 5,x 14 3 12 13,L 15 3 14,k 16 (.ca (t 11) [(t 15)])] (.cond (t 16) (sq [m 17 5,
 m 4 17]
 .ret)
 .skip)))) (.ops [q 18 .add 8 1,m 8 18]))))))) (sq [w 4 (-1)]
 .ret)))⟩
theorem e116 : qD Tryz.prog Tryz.f116 [] = some c116 := by kernel_rfl
def c117 : SF := ⟨9,[.t 2],(sq [B 2 false] (sq [m 3 0,q 4 .lss 3 1,m 5 4,gm 6 5 false 0,og 7 5 false (.bin .gtr (t 6) (i 15)),R 8 5 7,m 2 8]
 .ret))⟩
theorem e117 : qD Tryz.prog Tryz.f117 [] = some c117 := by kernel_rfl
def c118 : SF := ⟨10,[.t 2],(sq [k 1 (.bx 28 (t 0)),o 2 (.mv (.const (.slice none 0 0)))] (sq [k 3 (.bs 3 1 [.int .i64 0] [(0,1,(i 0))]),f 4 2 1,l 5 4,
 f 6 3 1,l 7 6,k 8 (.bs 24 3 [.slice none 0 0,.slice none 0 0,.slice none 0 0] [(0,1,(t 3)),(1,1,(t 5)),(2,1,(t 7))]),k 9 (.ca (.func 130) [(t 8)]),m 2 9]
 .ret))⟩
theorem e118 : qD Tryz.prog Tryz.f118 [] = some c118 := by kernel_rfl
def c119 : SF := ⟨60,[.t 6],(sq [k 3 (.bx 28 (t 0)),k 5 (.bx 84 (t 2)),B 6 false] (.seq (sq [L 8 10 5,k 9 (.ca (.func 167) [(t 8)]),u 10 9,m 11 10,gf 12 11 false 0 5,
 gl 13 11 false 12,og 14 11 false (.bin .lss (t 13) (i 1)),R 15 11 14,m 16 15,gf 17 16 false 0 5,gl 18 16 false 17,gm 19 16 false 1,og 20 16 false (.ln (t 19)),
 og 21 16 false (.bin .geq (t 18) (t 20)),R 22 16 21,m 23 22,gf 24 23 false 1 5,gl 25 23 false 24,og 26 23 false (.bin .lss (t 25) (i 0)),R 27 23 26,m 28 27,
 gf 29 28 false 3 5,gf 30 28 false 6 29,gl 31 28 false 30,gm 32 28 false 1,og 33 28 false (.ln (t 32)),og 34 28 false (.bin .sub (t 33) (i 1)),⟨some 35,
  some (28, false),.ca (.func 41) [(t 31),(t 34)]⟩,og 36 28 false (.un .not (t 35)),R 37 28 36] (.cond (t 37) (sq [B 6 false]
 .ret)
 .skip)) (sq [f 38 0 3,L 39 2 38,f 40 2 5,l 41 40,k 42 (.ca (.func 129) [(t 39),(t 41)]),m 7 42] (.seq (.opq [f 43 1 5,l 44 43,m 45 7,p 46 .rem 44 45,q 47 .eql 46 0,
 m 48 47,gf 49 48 true 1 5,gl 50 48 true 49,gm 51 48 true 1,gf 52 48 true 0 5,gl 53 48 true 52,og 54 48 true (.ia 1 (t 51) (t 53)),gl 55 48 true 54,gm 56 48 true 7,
 og 57 48 true (.bin .sub (t 55) (t 56)),og 58 48 true (.bin .leq (t 50) (t 57)),P 59 48 58,m 6 59])
 .ret))))⟩
theorem e119 : qD Tryz.prog Tryz.f119 [(ps [0,1,2,3,4,5,6,7,8,9,10,11,12,13,14,15,16,17])] = some c119 := by kernel_rfl
def c120 : SF := ⟨22,[.t 4],(sq [k 2 (.bx 84 (t 0)),k 3 (.bx 84 (t 1)),w 4 0] (.seq (.opd [f 5 0 2,l 6 5,f 7 0 3,l 8 7,f 10 1 2,l 11 10,f 12 1 3,l 13 12,
 f 15 2 2,l 16 15,f 17 2 3,l 18 17,k 9 (.ca (.func 169) [(t 6),(t 8)]),k 14 (.ca (.func 169) [(t 11),(t 13)]),k 19 (.ca (.func 169) [(t 16),(t 18)]),k 20 (.bs 3 3 [.int .i64 0,
 .int .i64 0,.int .i64 0] [(0,1,(t 9)),(1,1,(t 14)),(2,1,(t 19))]),k 21 (.ca (.func 168) [(t 20)]),m 4 21])
 .ret))⟩
theorem e120 : qD Tryz.prog Tryz.f120 [(ps [0,1,2,3,5,6,7,8,10,11,12,13,4,9,14,15,16,17])] = some c120 := by kernel_rfl
def c121 : SF := ⟨13,[.t 2],(sq [B 2 false] (sq [m 3 0,q 4 .eql 3 8,m 5 4,gm 6 5 false 0,og 7 5 false (.bin .eql (t 6) (i 16)),R 8 5 7,m 9 8,gm 10 9 false 0,
 og 11 9 false (.bin .eql (t 10) (i 32)),R 12 9 11,m 2 12]
 .ret))⟩
theorem e121 : qD Tryz.prog Tryz.f121 [] = some c121 := by kernel_rfl
def c122 : SF := ⟨5,[.c true 6 2],(sq [k 2 (.al 59 [.int .i64 0,.bool false,.int .i64 0,.int .i64 0,.int .i64 0,.int .i64 0])] (sq [m 3 0,o 4 (.bd [.int .i64 0,
 .bool false,.int .i64 0,.int .i64 0,.int .i64 0,.int .i64 0] [(0,1,(t 3)),(1,1,(b true))]),kn (.st [] 6 (t 2) (t 4))]
 .ret))⟩
theorem e122 : qD Tryz.prog Tryz.f122 [] = some c122 := by kernel_rfl
def c123 : SF := ⟨13,[.t 4],(sq [B 4 false] (sq [m 5 0,q 6 .geq 5 0,m 7 6,gm 8 7 true 0,gm 9 7 true 1,⟨some 10, some (7, true),.ca (.func 170) [(t 9)]⟩,
 og 11 7 true (.bin .leq (t 8) (t 10)),P 12 7 11,m 4 12]
 .ret))⟩
theorem e123 : qD Tryz.prog Tryz.f123 [] = some c123 := by kernel_rfl
def c124 : SF := ⟨41,[.t 2],(sq [k 1 (.bx 102 (t 0)),B 2 false] (.seq (sq [f 5 0 1,l 6 5,q 7 .lss 6 0,m 8 7,gf 9 8 false 0 1,gl 10 8 false 9,og 11 8 false (.bin .gtr (t 10) (i 6)),
 R 12 8 11,m 13 12,gf 14 13 false 1 1,gf 15 13 false 0 14,gl 16 13 false 15,og 17 13 false (.bin .neq (t 16) (i 8)),R 18 13 17,m 19 18,gf 20 19 false 1 1,
 gL 21 19 false 6 20,⟨some 22, some (19, false),.ca (.func 73) [(t 21)]⟩,og 23 19 false (.un .not (t 22)),R 24 19 23] (.cond (t 24) (sq [B 2 false]
 .ret)
 .skip)) (sq [f 26 1 1,L 27 6 26,k 28 (.ca (.func 171) [(t 27)]),m 25 28,e 29 25 0,e 30 25 1,m 3 29,m 4 30] (sq [f 31 0 1,l 32 31,q 33 .gtr 32 0,m 34 33,
 gm 35 34 false 4,gm 36 34 false 35,gm 37 36 true 3,og 38 36 true (.bin .eql (t 37) (i 0)),og 39 34 false (.pick (t 36) (t 38) (b false)),R 40 34 39,m 2 40]
 .ret))))⟩
theorem e124 : qD Tryz.prog Tryz.f124 [] = some c124 := by kernel_rfl
def c125 : SF := ⟨19,[.t 4],(sq [w 4 0] (.seq (sq [m 6 0,z 7 6,w 8 0] (.block 0 (.loop (sq [p 9 .lss 8 7] (.seq (.cond (t 9)
 .skip (.exit 0)) (.seq (.block 1 (sq [m 10 8,m 5 10] (sq [m 11 1,m 12 0,m 13 5,x 14 7 12 13,L 15 7 14,k 16 (.ca (t 11) [(t 15)])] (.cond (t 16) (sq [m 17 5,
 m 4 17]
 .ret)
 .skip)))) (.ops [q 18 .add 8 1,m 8 18]))))))) (sq [w 4 (-1)]
 .ret)))⟩
theorem e125 : qD Tryz.prog Tryz.f125 [] = some c125 := by kernel_rfl
def c126 : SF := ⟨7,[.t 2],(sq [k 1 (.bx 102 (t 0)),B 2 false] (sq [L 3 7 1,k 4 (.ca (.func 127) [(t 3)]),z 5 4,q 6 .gtr 5 0,m 2 6]
 .ret))⟩
theorem e126 : qD Tryz.prog Tryz.f126 [] = some c126 := by kernel_rfl
def c127 : SF := ⟨23,[.t 2],(sq [k 1 (.bx 102 (t 0)),o 2 (.mv (.const (.slice none 0 0)))] (.seq (sq [f 4 1 1,L 5 6 4,k 6 (.ca (.func 172) [(t 5),(i 0)]),
 m 3 6] (.block 0 (.loop (.seq (sq [m 7 3,q 8 .geq 7 0,m 9 8,gm 10 9 true 3,og 11 9 true (.bin .leq (t 10) (i 32)),P 12 9 11] (.cond (t 12)
 .skip (.exit 0))) (.seq (.block 1 (.ops [m 18 2,m 19 3,k 20 (.bs 3 1 [.int .i64 0] [(0,1,(t 19))]),k 21 (.ap 3 1 8 (t 18) (t 20)),m 2 21])) (.ops [f 13 1 1,
 L 14 6 13,m 15 3,q 16 .add 15 1,k 17 (.ca (.func 172) [(t 14),(t 16)]),m 3 17])))))) (sq [m 22 2,m 2 22]
 .ret)))⟩
theorem e127 : qD Tryz.prog Tryz.f127 [] = some c127 := by kernel_rfl
def c128 : SF := ⟨6,[.t 2],(sq [k 1 (.bx 59 (t 0)),B 2 false] (sq [L 3 6 1,k 4 (.ca (.func 172) [(t 3),(i 0)]),q 5 .lss 4 0,m 2 5]
 .ret))⟩
theorem e128 : qD Tryz.prog Tryz.f128 [] = some c128 := by kernel_rfl
def c129 : SF := ⟨14,[.t 4],(sq [k 2 (.bx 23 (t 0)),w 4 0] (.seq (sq [m 5 1,q 6 .eql 5 0,m 7 6,gm 8 7 false 1,og 9 7 false (.bin .eql (t 8) (i 11)),R 10 7 9] (.cond (t 10) (sq [w 4 1]
 .ret)
 .skip)) (sq [L 11 2 2,m 12 1,k 13 (.ca (.func 173) [(t 11),(t 12)]),m 4 13]
 .ret)))⟩
theorem e129 : qD Tryz.prog Tryz.f129 [] = some c129 := by kernel_rfl
end Go.Proofs.Tryz.S
