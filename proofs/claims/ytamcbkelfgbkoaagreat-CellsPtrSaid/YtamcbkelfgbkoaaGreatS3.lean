/- The small codes of functions, by program (gen.py, by this workplace's session), each with the proof that it is the function's own. -/
import Derived.Test.YtamcbkelfgbkoaaGreatProg
import Derived.Test.YtamcbkelfgbkoaaGreatS2
namespace Go.Proofs.Tryz.S
open Go Go.Ax Go.Ax.W
open Go.Ax.N (t i b o og k kn)
set_option maxRecDepth 100000

def c130 : SF := ⟨36,[.t 2],(sq [o 2 (.mv (.const (.slice none 0 0)))] (sq [w 3 0] (.seq (sq [m 9 0,z 10 9,w 11 0] (.block 0 (.loop (sq [p 12 .lss 11 10] (.seq (.cond (t 12)
 .skip (.exit 0)) (.seq (.block 1 (sq [x 13 1 9 11,l 14 13,m 5 14] (sq [m 15 3,m 16 5,z 17 16,p 18 .add 15 17,m 3 18] (sq [m 19 3,q 20 .lss 19 0] (.cond (t 20)
 .bad
 .skip))))) (.ops [q 22 .add 11 1,m 11 22]))))))) (sq [m 23 3,k 24 (.ca (.func 174) [(.const (.slice none 0 0)),(t 23)]),m 6 24] (.seq (sq [m 25 0,z 26 25,
 w 27 0] (.block 2 (.loop (sq [p 28 .lss 27 26] (.seq (.cond (t 28)
 .skip (.exit 2)) (.seq (.block 3 (sq [x 29 1 25 27,l 30 29,m 8 30] (.ops [m 31 6,m 32 8,k 33 (.ap 3 1 8 (t 31) (t 32)),m 6 33]))) (.ops [q 34 .add 27 1,
 m 27 34]))))))) (sq [m 35 6,m 2 35]
 .ret))))))⟩
theorem e130 : qD Tryz.prog Tryz.f130 [] = some c130 := by kernel_rfl
def c131 : SF := ⟨37,[.t 4,.t 5],(sq [o 4 (.mv (.const (.slice none 0 0))),B 5 false] (.seq (sq [m 10 0,z 11 10,w 12 0] (.block 0 (.loop (sq [p 13 .lss 12 11] (.seq (.cond (t 13)
 .skip (.exit 0)) (.seq (.block 1 (sq [x 14 7 10 12,L 15 7 14,k 7 (.al 102 [.int .i64 0,.int .i64 0,.bool false,.int .i64 0,.int .i64 0,.int .i64 0,.int .i64 0]),
 kn (.st [] 7 (t 7) (t 15))] (sq [L 16 7 7,k 17 (.ca (.func 127) [(t 16)]),z 18 17,w 19 0] (.block 2 (.loop (sq [p 20 .lss 19 18] (.seq (.cond (t 20)
 .skip (.exit 2)) (.seq (.block 3 (sq [x 21 1 17 19,l 22 21,m 9 22] (.seq (sq [m 23 4,z 24 23,m 25 1,p 26 .eql 24 25] (.cond (t 26) (sq [o 4 (.mv (.const (.slice none 0 0))),
 B 5 false]
 .ret)
 .skip)) (.ops [m 27 4,f 28 0 7,l 29 28,m 30 9,o 31 (.bd [.bool false,.int .i64 0,.int .i64 0,.int .i64 0] [(0,1,(b true)),(2,1,(t 29)),(3,1,(t 30))]),
 k 32 (.bs 50 1 [.bool false,.int .i64 0,.int .i64 0,.int .i64 0] [(0,4,(t 31))]),k 33 (.ap 50 4 32 (t 27) (t 32)),m 4 33])))) (.ops [q 34 .add 19 1,m 19 34]))))))))) (.ops [q 35 .add 12 1,
 m 12 35]))))))) (sq [m 36 4,m 4 36,B 5 true]
 .ret)))⟩
theorem e131 : qD Tryz.prog Tryz.f131 [] = some c131 := by kernel_rfl
def c132 : SF := ⟨23,[.t 4],(sq [k 2 (.bx 132 (t 0)),w 4 0] (.seq (sq [m 6 1,q 7 .eql 6 0] (.cond (t 7) (sq [w 4 1]
 .ret)
 .skip)) (.seq (sq [m 8 1,q 9 .sub 8 1,f 10 0 2,f 11 2 10,l 12 11,z 13 12,p 14 .sub 9 13,m 5 14] (sq [m 15 5,q 16 .geq 15 0] (.cond (t 16) (sq [f 17 7 2,
 f 18 2 17,l 19 18,m 20 5,x 21 1 19 20,l 22 21,m 4 22]
 .ret)
 .skip))) (sq [w 4 2]
 .ret))))⟩
theorem e132 : qD Tryz.prog Tryz.f132 [] = some c132 := by kernel_rfl
def c133 : SF := ⟨11,[.t 4],(sq [k 2 (.bx 132 (t 0)),B 4 false] (sq [L 5 10 2,m 6 1,k 7 (.ca (.func 132) [(t 5),(t 6)]),o 8 (.bin .shr (t 7) (.const (.int .u64 1))),
 q 9 .and 8 1,q 10 .eql 9 1,m 4 10]
 .ret))⟩
theorem e133 : qD Tryz.prog Tryz.f133 [] = some c133 := by kernel_rfl
def c134 : SF := ⟨11,[],(sq [m 3 0,z 4 3,m 2 4] (.ops [m 5 0,m 6 2,m 7 2,o 8 (.cv .u64 (t 7)),k 9 (.ca (.func 176) [(t 8)]),k 10 (.ca (.func 175) [(t 5),
 (i 0),(t 6),(t 9)])]))⟩
theorem e134 : qD Tryz.prog Tryz.f134 [] = some c134 := by kernel_rfl
def c135 : SF := ⟨12,[.t 2],(sq [k 1 (.bx 132 (t 0)),o 2 (.mv (.const (.pointer none)))] (.seq (.opd [f 3 0 1,f 4 0 3,L 5 2 4,f 6 7 1,f 7 1 6,l 8 7,k 9 (.ca (.func 85) [(t 8)]),
 o 10 (.bd [.bool false,.int .i64 0,.slice none 0 0] [(0,2,(t 5)),(2,1,(t 9))]),k 11 (.bx 180 (t 10)),m 2 11])
 .ret))⟩
theorem e135 : qD Tryz.prog Tryz.f135 [(ps [0,1,2,3,4,5,6,7,8,9])] = some c135 := by kernel_rfl
def c136 : SF := ⟨86,[],(sq [k 4 (.bx 176 (t 0)),k 5 (.bx 3 (t 1)),k 6 (.bx 3 (t 2)),k 7 (.bx 3 (t 3))] (sq [k 8 (.al 44 [.slice none 0 0])] (.seq (.opq [l 15 4,
 l 16 4,o 17 (.nc (t 16)),f 18 2 17,l 19 18,o 20 (.mf (.func 178) [] [(t 4),(t 5),(t 6),(t 7),(t 8)]),k 21 (.cf [4] (.func 177) [(t 19),(t 20)]),o 22 (.nc (t 15)),
 f 23 2 22,kn (.st [] 1 (t 23) (t 21))]) (sq [l 24 8,z 25 24,w 26 0] (.block 0 (.loop (sq [p 27 .lss 26 25] (.seq (.cond (t 27)
 .skip (.exit 0)) (.seq (.block 1 (sq [x 28 10 24 26,L 29 10 28,k 10 (.al 84 [.int .i64 0,.int .i64 0,.int .i64 0,.int .i64 0,.bool false,.int .i64 0,.int .i64 0,
 .int .i64 0,.int .i64 0,.slice none 0 0]),kn (.st [] 10 (t 10) (t 29))] (.seq (.opq [l 30 4,o 31 (.nc (t 30)),f 32 0 31,L 33 2 32,f 34 2 10,l 35 34,w 37 0,
 k 36 (.ca (.func 129) [(t 33),(t 35)])]) (.block 2 (.loop (sq [p 38 .lss 37 36] (.seq (.cond (t 38)
 .skip (.exit 2)) (.seq (.block 3 (sq [m 39 37,m 11 39] (sq [f 40 1 10,l 41 40,m 42 11,p 43 .add 41 42,m 12 43] (.seq (sq [m 44 12,l 45 6,p 46 .geq 44 45,
 m 47 46,gm 48 47 true 12,gl 49 47 true 6,gl 50 47 true 7,og 51 47 true (.bin .add (t 49) (t 50)),og 52 47 true (.bin .lss (t 48) (t 51)),P 53 47 52,m 54 53,
 gl 55 54 false 4,gl 56 54 false 5,gm 57 54 false 12,⟨some 58, some (54, false),.ca (.func 180) [(t 55),(t 56),(t 57)]⟩,R 59 54 58] (.cond (t 59) (.exit 3)
 .skip)) (.seq (.opd [l 61 5,m 62 12,l 63 4,o 64 (.nc (t 63)),f 65 0 64,L 66 2 65,L 67 10 10,m 68 12,k 69 (.ca (.func 181) [(t 66),(t 67),(t 68)]),k 70 (.ca (.func 142) [(t 61),
 (t 62),(t 69)]),m 60 70,e 71 60 0,e 72 60 1,k 13 (.al 84 [.int .i64 0,.int .i64 0,.int .i64 0,.int .i64 0,.bool false,.int .i64 0,.int .i64 0,.int .i64 0,
 .int .i64 0,.slice none 0 0]),kn (.st [] 10 (t 13) (t 71)),m 14 72]) (sq [m 73 14] (.cond (t 73) (.opq [l 74 4,l 75 4,o 76 (.nc (t 75)),f 77 2 76,l 78 77,
 L 79 10 13,k 80 (.bs 84 1 [.int .i64 0,.int .i64 0,.int .i64 0,.int .i64 0,.bool false,.int .i64 0,.int .i64 0,.int .i64 0,.int .i64 0,.slice none 0 0] [(0,
 10,(t 79))]),k 81 (.ap 84 10 96 (t 78) (t 80)),o 82 (.nc (t 74)),f 83 2 82,kn (.st [] 1 (t 83) (t 81))])
 .skip))))))) (.ops [q 84 .add 37 1,m 37 84]))))))))) (.ops [q 85 .add 26 1,m 26 85]))))))))))⟩
theorem e136 : qD Tryz.prog Tryz.f136 [[(0,[]),(1,[]),(2,[]),(3,[]),(4,[]),(5,[]),(6,[1,4]),(7,[]),(8,[]),(9,[])],(ps [0,1,2,3,4,5,7,6]),(ps [0,1,2,3,4,5,6,7,8,9,10,11,12,13,14,15]),(ps [0,1,2,3,4,5,6,7,8,9,10])] = some c136 := by kernel_rfl
def c137 : SF := ⟨19,[.t 2],(sq [o 2 (.mv (.const (.slice none 0 0)))] (sq [m 3 0,o 4 (.nc (t 3)),f 5 2 4,l 6 5,k 7 (.ca (.func 182) [(t 6),(.func 120)])] (.seq (.opq [m 8 0,
 o 9 (.nc (t 8)),f 10 2 9,l 11 10,m 12 0,o 13 (.nc (t 12)),f 14 2 13,l 15 14,z 16 15,o 17 (.mn [(t 16),(i 200)]),o 18 (.sl 10 (t 11) none (some (t 17))),
 m 2 18])
 .ret)))⟩
theorem e137 : qD Tryz.prog Tryz.f137 [(ps [0,1,2,3,4,5,6,7,8,9,10,11])] = some c137 := by kernel_rfl
def c138 : SF := ⟨14,[.t 8],(sq [k 4 (.bx 132 (t 0)),k 5 (.bx 3 (t 1)),k 6 (.bx 3 (t 2)),k 7 (.bx 3 (t 3)),w 8 0] (sq [f 9 7 4,f 10 1 9,l 11 10,o 12 (.mf (.func 184) [] [(t 5),
 (t 6),(t 7),(t 4)]),k 13 (.ca (.func 183) [(t 11),(t 12)]),m 8 13]
 .ret))⟩
theorem e138 : qD Tryz.prog Tryz.f138 [] = some c138 := by kernel_rfl
def c139 : SF := ⟨34,[.c true 14 6],(sq [k 3 (.bx 132 (t 0)),k 6 (.al 185 [.bool false,.int .i64 0,.bool false,.int .i64 0,.int .i64 0,.int .i64 0,.int .i64 0,
 .int .i64 0,.bool false,.int .i64 0,.int .i64 0,.int .i64 0,.int .i64 0,.slice none 0 0])] (.seq (sq [f 9 7 3,f 10 1 9,l 11 10,z 12 11,w 13 0] (.block 0 (.loop (sq [p 14 .lss 13 12] (.seq (.cond (t 14)
 .skip (.exit 0)) (.seq (.block 1 (sq [x 15 10 11 13,L 16 10 15,k 8 (.al 84 [.int .i64 0,.int .i64 0,.int .i64 0,.int .i64 0,.bool false,.int .i64 0,.int .i64 0,
 .int .i64 0,.int .i64 0,.slice none 0 0]),kn (.st [] 10 (t 8) (t 16))] (sq [f 17 0 3,f 18 0 17,L 19 2 18,L 20 10 8,m 21 1,m 22 2,k 23 (.ca (.func 179) [(t 19),
 (t 20),(t 21),(t 22),(i 1)])] (.cond (t 23) (sq [f 24 0 3,f 25 0 24,L 26 2 25,L 27 10 8,m 28 2,k 29 (.ca (.func 181) [(t 26),(t 27),(t 28)]),kn (.st [] 14 (t 6) (t 29))]
 .ret)
 .skip)))) (.ops [q 30 .add 13 1,m 13 30]))))))) (sq [L 31 10 3,k 32 (.ca (.func 186) [(t 31)]),k 33 (.ca (.func 185) [(t 32)]),kn (.st [] 14 (t 6) (t 33))]
 .ret)))⟩
theorem e139 : qD Tryz.prog Tryz.f139 [] = some c139 := by kernel_rfl
def c141 : SF := ⟨58,[.c true 14 8],(sq [k 4 (.bx 23 (t 0)),k 6 (.bx 62 (t 2)),k 8 (.al 185 [.bool false,.int .i64 0,.bool false,.int .i64 0,.int .i64 0,
 .int .i64 0,.int .i64 0,.int .i64 0,.bool false,.int .i64 0,.int .i64 0,.int .i64 0,.int .i64 0,.slice none 0 0])] (sq [k 13 (.ca (.func 187) []),k 9 (.al 185 [.bool false,
 .int .i64 0,.bool false,.int .i64 0,.int .i64 0,.int .i64 0,.int .i64 0,.int .i64 0,.bool false,.int .i64 0,.int .i64 0,.int .i64 0,.int .i64 0,.slice none 0 0]),
 kn (.st [] 14 (t 9) (t 13))] (.seq (sq [m 14 1,q 15 .eql 14 7] (.cond (t 15) (.seq (sq [f 16 6 6,l 17 16,k 18 (.ca (.func 188) [(t 17),(i 0),(i 0)])] (.cond (t 18) (.ops [k 19 (.ca (.func 166) [(i 8),
 (i 0)]),f 20 1 9,kn (.st [] 6 (t 20) (t 19))])
 .skip)) (sq [m 21 3,k 22 (.ca (.func 166) [(i 8),(t 21)]),f 23 7 9,kn (.st [] 6 (t 23) (t 22))] (sq [f 24 6 6,l 25 24,k 26 (.ca (.func 91) [(t 25)]),k 27 (.ca (.func 189) [(t 26),
 (.func 190)]),f 28 13 9,kn (.st [] 1 (t 28) (t 27))] (sq [L 29 14 9,kn (.st [] 14 (t 8) (t 29))]
 .ret))))
 .skip)) (.seq (sq [f 30 0 4,l 31 30] (.cond (t 31) (.ops [L 32 2 4,m 33 1,k 34 (.ca (.func 173) [(t 32),(t 33)]),q 35 .sub 34 1,m 36 3,p 37 .sub 35 36,
 m 3 37])
 .skip)) (sq [m 38 1,k 39 (.ca (.func 74) [(t 38)]),m 10 39] (.seq (.opd [m 41 1,f 43 0 6,L 44 6 43,m 45 10,m 46 3,o 47 (.bin .mul (i 8) (t 46)),k 42 (.ca (.func 192) [(t 41)]),
 k 48 (.ca (.func 166) [(t 45),(t 47)]),k 49 (.ca (.func 191) [(i 17),(t 42),(t 44),(t 48)]),m 40 49,e 50 40 0,e 51 40 1,k 11 (.al 59 [.int .i64 0,.bool false,
 .int .i64 0,.int .i64 0,.int .i64 0,.int .i64 0]),kn (.st [] 6 (t 11) (t 50)),m 12 51]) (.seq (.opd [m 52 1,L 54 6 11,k 53 (.ca (.func 192) [(t 52)]),k 55 (.ca (.func 193) [(t 53),
 (i 1),(t 54)]),f 56 1 9,kn (.st [] 6 (t 56) (t 55))]) (sq [L 57 14 9,kn (.st [] 14 (t 8) (t 57))]
 .ret))))))))⟩
theorem e141 : qD Tryz.prog Tryz.f141 [(ps [0,2,3,4,5,6,1,7,8,9,10,11,12,13,14]),(ps [0,2,1,3,4,5])] = some c141 := by kernel_rfl
def c142 : SF := ⟨37,[.c true 10 6,.t 7],(sq [k 5 (.bx 185 (t 2)),k 6 (.al 84 [.int .i64 0,.int .i64 0,.int .i64 0,.int .i64 0,.bool false,.int .i64 0,
 .int .i64 0,.int .i64 0,.int .i64 0,.slice none 0 0]),B 7 false] (sq [m 9 0,m 10 1,o 11 (.bd [.int .i64 0,.int .i64 0,.int .i64 0,.int .i64 0,.bool false,
 .int .i64 0,.int .i64 0,.int .i64 0,.int .i64 0,.slice none 0 0] [(0,1,(t 9)),(1,1,(t 10))]),k 8 (.al 84 [.int .i64 0,.int .i64 0,.int .i64 0,.int .i64 0,
 .bool false,.int .i64 0,.int .i64 0,.int .i64 0,.int .i64 0,.slice none 0 0]),kn (.st [] 10 (t 8) (t 11))] (.seq (.block 0 (sq [L 13 14 5,k 14 (.ca (.func 194) [(t 13),
 (b true),(b false),(b false)]),m 12 14] (.cond (t 12) (sq [L 15 10 8,kn (.st [] 10 (t 6) (t 15)),B 7 true]
 .ret) (sq [L 17 14 5,k 18 (.ca (.func 194) [(t 17),(b false),(b true),(b false)]),m 16 18] (.cond (t 16) (sq [f 19 1 5,L 20 6 19,k 21 (.ca (.func 143) [(t 20)]),
 f 22 2 8,kn (.st [] 1 (t 22) (i 1)),f 23 3 8,kn (.st [] 7 (t 23) (t 21))] (sq [L 24 10 8,kn (.st [] 10 (t 6) (t 24)),B 7 true]
 .ret)) (sq [L 26 14 5,k 27 (.ca (.func 194) [(t 26),(b false),(b false),(b true)]),m 25 27] (.cond (t 25) (.seq (.opq [f 28 7 5,L 29 6 28,f 30 13 5,l 31 30,
 o 32 (.bd [.int .i64 0,.bool false,.int .i64 0,.int .i64 0,.int .i64 0,.int .i64 0,.slice none 0 0] [(0,6,(t 29)),(6,1,(t 31))]),f 33 2 8,kn (.st [28,30] 1 (t 33) (i 11)),
 f 34 3 8,kn (.st [] 7 (t 34) (t 32))]) (sq [L 35 10 8,kn (.st [] 10 (t 6) (t 35)),B 7 true]
 .ret))
 .skip))))))) (sq [L 36 10 8,kn (.st [] 10 (t 6) (t 36)),B 7 false]
 .ret))))⟩
theorem e142 : qD Tryz.prog Tryz.f142 [[(0,[]),(1,[]),(2,[]),(3,[]),(4,[]),(5,[]),(6,[28,30]),(7,[]),(8,[])]] = some c142 := by kernel_rfl
def c143 : SF := ⟨5,[.c true 7 2],(sq [k 1 (.bx 59 (t 0)),k 2 (.al 62 [.int .i64 0,.bool false,.int .i64 0,.int .i64 0,.int .i64 0,.int .i64 0,.slice none 0 0])] (sq [L 3 6 1,
 o 4 (.bd [.int .i64 0,.bool false,.int .i64 0,.int .i64 0,.int .i64 0,.int .i64 0,.slice none 0 0] [(0,6,(t 3))]),kn (.st [] 7 (t 2) (t 4))]
 .ret))⟩
theorem e143 : qD Tryz.prog Tryz.f143 [] = some c143 := by kernel_rfl
def c144 : SF := ⟨44,[.c true 8 6],(sq [k 3 (.bx 23 (t 0)),k 6 (.al 130 [.int .i64 0,.bool false,.int .i64 0,.int .i64 0,.int .i64 0,.int .i64 0,.slice none 0 0,
 .slice none 0 0])] (.seq (sq [L 11 2 3,m 12 1,m 13 2,k 14 (.ca (.func 195) [(t 11),(t 12),(t 13)]),m 10 14,e 15 10 0,e 16 10 1,k 7 (.al 130 [.int .i64 0,
 .bool false,.int .i64 0,.int .i64 0,.int .i64 0,.int .i64 0,.slice none 0 0,.slice none 0 0]),kn (.st [] 8 (t 7) (t 15)),m 8 16] (sq [m 17 8] (.cond (t 17) (sq [L 18 8 7,
 kn (.st [] 8 (t 6) (t 18))]
 .ret)
 .skip))) (sq [m 19 1,k 20 (.ca (.func 87) [(t 19)]),o 21 (.bd [.int .i64 0,.bool false,.int .i64 0,.int .i64 0,.int .i64 0,.int .i64 0,.slice none 0 0,
 .slice none 0 0] [(0,7,(t 20))]),k 9 (.al 130 [.int .i64 0,.bool false,.int .i64 0,.int .i64 0,.int .i64 0,.int .i64 0,.slice none 0 0,.slice none 0 0]),
 kn (.st [] 8 (t 9) (t 21))] (.seq (sq [m 22 2,k 23 (.ca (.func 196) [(t 22),(.func 197)])] (.cond (t 23) (.ops [k 24 (.ca (.func 89) [(t 9),(i 7)])])
 .skip)) (.seq (sq [m 25 2,k 26 (.ca (.func 196) [(t 25),(.func 198)])] (.cond (t 26) (sq [L 27 8 9,kn (.st [] 8 (t 6) (t 27))]
 .ret)
 .skip)) (.seq (sq [m 28 1,q 29 .eql 28 7] (.cond (t 29) (sq [k 30 (.ca (.func 89) [(t 9),(i 8)])] (sq [m 31 2,k 32 (.ca (.func 199) [(t 31)]),f 33 0 9,
 kn (.st [] 7 (t 33) (t 32))] (sq [L 34 8 9,kn (.st [] 8 (t 6) (t 34))]
 .ret)))
 .skip)) (.seq (sq [m 35 2,k 36 (.ca (.func 196) [(t 35),(.func 200)])] (.cond (t 36) (.ops [k 37 (.ca (.func 89) [(t 9),(i 8)])])
 .skip)) (sq [L 38 2 3,m 39 1,m 40 2,k 41 (.ca (.func 201) [(t 38),(t 39),(t 40)]),f 42 0 9,kn (.st [] 7 (t 42) (t 41))] (sq [L 43 8 9,kn (.st [] 8 (t 6) (t 43))]
 .ret)))))))))⟩
theorem e144 : qD Tryz.prog Tryz.f144 [] = some c144 := by kernel_rfl
def c145 : SF := ⟨9,[.t 4],(sq [B 4 false] (sq [m 5 0,m 6 1,k 7 (.ca (.func 202) [(t 5),(t 6)]),q 8 .geq 7 0,m 4 8]
 .ret))⟩
theorem e145 : qD Tryz.prog Tryz.f145 [] = some c145 := by kernel_rfl
def c146 : SF := ⟨55,[.c true 6 4],(sq [k 2 (.bx 59 (t 0)),k 3 (.bx 59 (t 1)),k 4 (.al 59 [.int .i64 0,.bool false,.int .i64 0,.int .i64 0,.int .i64 0,
 .int .i64 0])] (.seq (.block 0 (sq [L 9 6 2,k 10 (.ca (.func 128) [(t 9)]),m 8 10] (.cond (t 8) (sq [L 11 6 3,k 12 (.ca (.func 203) [(t 11)]),kn (.st [] 6 (t 4) (t 12))]
 .ret) (sq [L 14 6 3,k 15 (.ca (.func 128) [(t 14)]),m 13 15] (.cond (t 13) (sq [L 16 6 2,k 17 (.ca (.func 203) [(t 16)]),kn (.st [] 6 (t 4) (t 17))]
 .ret) (sq [L 19 6 2,L 20 6 3,o 21 (.eqs (.st [(false,0,1,.i),(false,1,1,.b),(false,2,1,.i),(false,3,1,.i),(false,4,1,.i),(false,5,1,.i)]) false (t 19) (t 20)),
 m 18 21] (.cond (t 18) (sq [L 22 6 2,kn (.st [] 6 (t 4) (t 22))]
 .ret)
 .skip))))))) (.seq (.opd [L 23 6 2,L 25 6 3,k 24 (.ca (.func 203) [(t 23)]),k 26 (.ca (.func 203) [(t 25)]),kn (.st [] 6 (t 2) (t 24)),kn (.st [] 6 (t 3) (t 26))]) (sq [L 28 6 2,
 L 29 6 3,k 30 (.ca (.func 204) [(t 28),(t 29)]),m 27 30,e 31 27 0,e 32 27 1,m 5 31,m 6 32] (sq [f 33 4 2,l 34 33,f 35 4 3,l 36 35,p 37 .or 34 36,f 38 5 2,
 l 39 38,f 40 5 3,l 41 40,p 42 .xor 39 41,p 43 .or 37 42,m 7 43] (sq [f 44 0 2,l 45 44,m 46 5,m 47 6,m 48 7,f 49 5 2,l 50 49,m 51 7,p 52 .andNot 50 51,o 53 (.bd [.int .i64 0,
 .bool false,.int .i64 0,.int .i64 0,.int .i64 0,.int .i64 0] [(0,1,(t 45)),(2,1,(t 46)),(3,1,(t 47)),(4,1,(t 48)),(5,1,(t 52))]),k 54 (.ca (.func 203) [(t 53)]),
 kn (.st [] 6 (t 4) (t 54))]
 .ret))))))⟩
theorem e146 : qD Tryz.prog Tryz.f146 [(ps [0,2,1,3,4,5])] = some c146 := by kernel_rfl
def c147 : SF := ⟨30,[.t 6],(sq [o 6 (.mv (.const (.slice none 0 0)))] (.seq (sq [w 9 0] (.block 0 (.loop (sq [q 10 .lss 9 7] (.seq (.cond (t 10)
 .skip (.exit 0)) (.seq (.block 1 (sq [m 11 9,m 7 11] (sq [m 12 2,m 13 0,m 14 7,k 15 (.ca (.func 205) [(t 13),(t 14)]),m 16 1,m 17 7,k 18 (.ca (.func 205) [(t 16),
 (t 17)]),k 19 (.ca (t 12) [(t 15),(t 18)]),k 8 (.al 102 [.int .i64 0,.int .i64 0,.bool false,.int .i64 0,.int .i64 0,.int .i64 0,.int .i64 0]),kn (.st [] 7 (t 8) (t 19))] (sq [L 20 7 8,
 k 21 (.ca (.func 127) [(t 20)]),z 22 21,q 23 .gtr 22 0] (.cond (t 23) (.ops [m 24 6,L 25 7 8,k 26 (.bs 102 1 [.int .i64 0,.int .i64 0,.bool false,.int .i64 0,
 .int .i64 0,.int .i64 0,.int .i64 0] [(0,7,(t 25))]),k 27 (.ap 102 7 56 (t 24) (t 26)),m 6 27])
 .skip))))) (.ops [q 28 .add 9 1,m 9 28]))))))) (sq [m 29 6,m 6 29]
 .ret)))⟩
theorem e147 : qD Tryz.prog Tryz.f147 [] = some c147 := by kernel_rfl
def c148 : SF := ⟨15,[.c true 7 4],(sq [k 2 (.bx 102 (t 0)),k 3 (.bx 102 (t 1)),k 4 (.al 102 [.int .i64 0,.int .i64 0,.bool false,.int .i64 0,.int .i64 0,
 .int .i64 0,.int .i64 0])] (.seq (.opd [L 6 7 2,L 8 7 3,k 7 (.ca (.func 127) [(t 6)]),k 9 (.ca (.func 127) [(t 8)]),k 10 (.ap 3 1 8 (t 7) (t 9)),m 5 10]) (sq [f 11 0 2,
 l 12 11,m 13 5,k 14 (.ca (.func 149) [(t 12),(t 13)]),kn (.st [] 7 (t 4) (t 14))]
 .ret)))⟩
theorem e148 : qD Tryz.prog Tryz.f148 [(ps [0,2,1,3,4,5])] = some c148 := by kernel_rfl
def c149 : SF := ⟨23,[.c true 7 4],(sq [k 4 (.al 102 [.int .i64 0,.int .i64 0,.bool false,.int .i64 0,.int .i64 0,.int .i64 0,.int .i64 0])] (sq [k 8 (.ca (.func 122) [(i 8)]),
 k 5 (.al 59 [.int .i64 0,.bool false,.int .i64 0,.int .i64 0,.int .i64 0,.int .i64 0]),kn (.st [] 6 (t 5) (t 8))] (.seq (sq [m 9 1,z 10 9,w 11 0] (.block 0 (.loop (sq [p 12 .lss 11 10] (.seq (.cond (t 12)
 .skip (.exit 0)) (.seq (.block 1 (sq [x 13 1 9 11,l 14 13,m 7 14] (.opd [L 15 6 5,m 16 7,k 17 (.ca (.func 166) [(i 8),(t 16)]),k 18 (.ca (.func 146) [(t 15),
 (t 17)]),kn (.st [] 6 (t 5) (t 18))]))) (.ops [q 19 .add 11 1,m 11 19]))))))) (sq [m 20 0,L 21 6 5,o 22 (.bd [.int .i64 0,.int .i64 0,.bool false,.int .i64 0,
 .int .i64 0,.int .i64 0,.int .i64 0] [(0,1,(t 20)),(1,6,(t 21))]),kn (.st [] 7 (t 4) (t 22))]
 .ret))))⟩
theorem e149 : qD Tryz.prog Tryz.f149 [(ps [0,1,2,3,4])] = some c149 := by kernel_rfl
def c150 : SF := ⟨73,[.t 4],(sq [k 2 (.bx 59 (t 0)),w 4 0] (.seq (sq [m 7 1,f 8 4 2,l 9 8,p 10 .andNot 7 9,f 11 5 2,l 12 11,p 13 .eql 10 12] (.cond (t 13) (sq [m 14 1,
 m 4 14]
 .ret)
 .skip)) (.seq (sq [w 5 0] (.block 0 (.loop (.seq (sq [m 15 5,f 16 0 2,l 17 16,p 18 .lss 15 17] (.cond (t 18)
 .skip (.exit 0))) (.seq (.block 1 (sq [m 21 1,f 22 4 2,l 23 22,p 24 .andNot 21 23,f 25 5 2,l 26 25,p 27 .xor 24 26,m 28 5,q 29 .add 28 1,p 30 .shr 27 29,
 m 6 30] (sq [m 31 6,q 32 .eql 31 0,m 33 32,gm 34 33 true 1,gm 35 33 true 5,og 36 33 true (.bin .shr (t 34) (t 35)),og 37 33 true (.bin .and (t 36) (i 1)),
 og 38 33 true (.bin .eql (t 37) (i 0)),P 39 33 38,m 40 39,gf 41 40 true 4 2,gl 42 40 true 41,gm 43 40 true 5,og 44 40 true (.bin .shr (t 42) (t 43)),og 45 40 true (.bin .and (t 44) (i 1)),
 og 46 40 true (.bin .eql (t 45) (i 1)),gm 47 40 true 46,gf 48 47 false 5 2,gl 49 47 false 48,gm 50 47 false 5,og 51 47 false (.bin .shr (t 49) (t 50)),
 og 52 47 false (.bin .and (t 51) (i 1)),og 53 47 false (.bin .eql (t 52) (i 1)),og 54 40 true (.pick (t 47) (b true) (t 53)),P 55 40 54] (.cond (t 55) (.seq (.opq [m 56 1,
 m 57 5,q 58 .add 57 1,p 59 .shr 56 58,m 60 5,q 61 .add 60 1,p 62 .shl 59 61,m 63 5,o 64 (.bin .shl (i 1) (t 63)),p 65 .or 62 64,f 66 5 2,l 67 66,m 68 5,
 o 69 (.bin .shl (i 1) (t 68)),q 70 .sub 69 1,p 71 .and 67 70,p 72 .or 65 71,m 4 72])
 .ret)
 .skip)))) (.ops [m 19 5,q 20 .add 19 1,m 5 20])))))) (sq [w 4 (-1)]
 .ret))))⟩
theorem e150 : qD Tryz.prog Tryz.f150 [(ps [0,1,2,3,4,5,6,7,8,9,10,11,12,13,14,15,16,17])] = some c150 := by kernel_rfl
def c151 : SF := ⟨67,[.t 6],(sq [k 3 (.bx 23 (t 0)),k 4 (.bx 84 (t 1)),B 6 false] (.seq (sq [f 9 2 4,l 10 9] (.block 0 (sq [q 12 .eql 10 0,m 11 12] (.cond (t 11) (sq [m 13 2,
 o 14 (.ia 5 (t 13) (i 0)),f 15 0 14,l 16 15,q 17 .eql 16 0,m 6 17]
 .ret) (sq [q 19 .eql 10 11,m 18 19] (.cond (t 18) (.seq (.opq [m 20 2,o 21 (.ia 5 (t 20) (i 0)),f 22 0 21,l 23 22,q 24 .eql 23 2,m 25 24,gf 26 25 true 3 4,
 gf 27 25 true 0 26,gL 28 25 true 6 27,gm 29 25 true 2,og 30 25 true (.ia 5 (t 29) (i 0)),gf 31 25 true 4 30,gl 32 25 true 31,⟨some 33, some (25, true),
 .ca (.func 206) [(t 28),(t 32)]⟩,P 34 25 33,m 35 34,gf 36 35 true 3 4,gf 37 35 true 6 36,gl 38 35 true 37,gm 39 35 true 2,og 40 35 true (.ia 5 (t 39) (i 0)),
 gf 41 35 true 2 40,gl 42 35 true 41,gm 43 35 true 2,og 44 35 true (.ia 5 (t 43) (i 0)),gf 45 35 true 3 44,gl 46 35 true 45,⟨some 47, some (35, true),.ca (.func 188) [(t 38),
 (t 42),(t 46)]⟩,P 48 35 47,m 6 48])
 .ret)
 .skip)))))) (sq [L 50 2 3,f 51 2 4,l 52 51,m 53 2,k 54 (.ca (.func 164) [(t 50),(t 52),(t 53)]),m 49 54,e 55 49 0,e 56 49 1,k 7 (.al 50 [.bool false,.int .i64 0,
 .int .i64 0,.int .i64 0]),kn (.st [] 4 (t 7) (t 55)),m 8 56] (sq [m 57 8,q 58 .eql 57 0,m 59 58,gf 60 59 true 2 4,gl 61 59 true 60,gf 62 59 true 3 4,gL 63 59 true 7 62,
 gL 64 59 true 4 7,⟨some 65, some (59, true),.ca (.func 207) [(t 61),(t 63),(t 64)]⟩,P 66 59 65,m 6 66]
 .ret))))⟩
theorem e151 : qD Tryz.prog Tryz.f151 [(ps [0,1,2,3,4,5,6,7,8,9,10,11,12,13,14,15,16,17,18,19,20,21,22,23,24,25,26,27,28,29])] = some c151 := by kernel_rfl
def c152 : SF := ⟨19,[.t 4],(sq [w 4 0] (.seq (sq [m 6 0,z 7 6,w 8 0] (.block 0 (.loop (sq [p 9 .lss 8 7] (.seq (.cond (t 9)
 .skip (.exit 0)) (.seq (.block 1 (sq [m 10 8,m 5 10] (sq [m 11 1,m 12 0,m 13 5,x 14 1 12 13,l 15 14,k 16 (.ca (t 11) [(t 15)])] (.cond (t 16) (sq [m 17 5,
 m 4 17]
 .ret)
 .skip)))) (.ops [q 18 .add 8 1,m 8 18]))))))) (sq [w 4 (-1)]
 .ret)))⟩
theorem e152 : qD Tryz.prog Tryz.f152 [] = some c152 := by kernel_rfl
def c153 : SF := ⟨50,[.t 4],(sq [k 2 (.bx 153 (t 0)),k 3 (.bx 3 (t 1)),B 4 false] (sq [f 7 0 2,f 8 4 7,l 9 8,l 10 3,x 11 5 9 10,L 12 5 11,k 5 (.al 200 [.int .i64 0,
 .int .i64 0,.int .i64 0,.int .i64 0,.int .i64 0]),kn (.st [] 5 (t 5) (t 12))] (sq [o 13 (.mf (.func 208) [] [(t 3)]),m 6 13] (.seq (sq [f 14 0 5,l 15 14,
 k 16 (.ca (.func 154) [(t 15)])] (.block 0 (sq [q 18 .eql 16 0,m 17 18] (.cond (t 17) (sq [f 19 3 5,l 20 19,q 21 .eql 20 0,m 22 21,gf 23 22 true 4 5,gl 24 22 true 23,
 og 25 22 true (.bin .eql (t 24) (i 0)),P 26 22 25,m 4 26]
 .ret) (sq [q 28 .eql 16 1,m 27 28] (.cond (t 27) (sq [m 29 6,f 30 3 5,l 31 30,k 32 (.ca (t 29) [(t 31)]),m 33 32,gf 34 33 true 4 5,gl 35 33 true 34,og 36 33 true (.bin .eql (t 35) (i 0)),
 P 37 33 36,m 4 37]
 .ret) (sq [q 39 .eql 16 2,m 38 39] (.cond (t 38) (sq [m 40 6,f 41 3 5,l 42 41,k 43 (.ca (t 40) [(t 42)]),m 44 43,gm 45 44 true 6,gf 46 44 true 4 5,gl 47 44 true 46,
 ⟨some 48, some (44, true),.ca (t 45) [(t 47)]⟩,P 49 44 48,m 4 49]
 .ret)
 .skip)))))))) (sq [B 4 false]
 .ret)))))⟩
theorem e153 : qD Tryz.prog Tryz.f153 [] = some c153 := by kernel_rfl
def c154 : SF := ⟨24,[.t 2],(sq [w 2 0] (.seq (.block 0 (sq [m 4 0,q 5 .eql 4 1,m 6 5,gm 7 6 false 0,og 8 6 false (.bin .eql (t 7) (i 2)),R 9 6 8,m 3 9] (.cond (t 3) (sq [w 2 0]
 .ret) (sq [m 11 0,q 12 .geq 11 3,m 13 12,gm 14 13 true 0,og 15 13 true (.bin .leq (t 14) (i 7)),P 16 13 15,m 10 16] (.cond (t 10) (sq [w 2 1]
 .ret) (sq [m 18 0,q 19 .geq 18 8,m 20 19,gm 21 20 true 0,og 22 20 true (.bin .leq (t 21) (i 22)),P 23 20 22,m 17 23] (.cond (t 17) (sq [w 2 2]
 .ret)
 .skip))))))) (sq [w 2 (-1)]
 .ret)))⟩
theorem e154 : qD Tryz.prog Tryz.f154 [] = some c154 := by kernel_rfl
def c155 : SF := ⟨46,[.t 4],(sq [k 2 (.bx 153 (t 0)),k 3 (.bx 200 (t 1)),B 4 false] (.seq (sq [f 5 0 3,l 6 5,q 7 .eql 6 2] (.cond (t 7) (sq [f 8 1 3,l 9 8,
 q 10 .eql 9 7,m 11 10,gf 12 11 true 2 3,gl 13 11 true 12,og 14 11 true (.bin .geq (t 13) (i 1)),P 15 11 14,m 16 15,gf 17 16 true 2 3,gl 18 16 true 17,gf 19 16 true 0 2,
 gf 20 16 true 2 19,gl 21 16 true 20,og 22 16 true (.ln (t 21)),og 23 16 true (.bin .leq (t 18) (t 22)),P 24 16 23,m 4 24]
 .ret)
 .skip)) (.seq (.opd [f 25 1 3,l 26 25,q 27 .eql 26 7,m 28 27,gf 29 28 true 2 3,gl 30 28 true 29,og 31 28 true (.bin .eql (t 30) (i 0)),P 32 28 31,m 33 32,
 gf 34 33 false 1 3,gl 35 33 false 34,⟨some 36, some (33, false),.ca (.func 72) [(t 35)]⟩,gm 37 33 false 36,gf 38 37 true 2 3,gl 39 37 true 38,gf 40 37 true 1 3,
 gl 41 37 true 40,⟨some 42, some (37, true),.ca (.func 74) [(t 41)]⟩,⟨some 43, some (37, true),.ca (.func 123) [(t 39),(t 42)]⟩,og 44 33 false (.pick (t 37) (t 43) (b false)),
 R 45 33 44,m 4 45])
 .ret)))⟩
theorem e155 : qD Tryz.prog Tryz.f155 [(ps [0,1,2,3,4,5,6,7,8,9,10,11,12,13,14,15,16,17,18,19,20,21])] = some c155 := by kernel_rfl
def c156 : SF := ⟨44,[.t 4],(sq [k 2 (.bx 153 (t 0)),k 3 (.bx 200 (t 1)),B 4 false] (sq [L 6 7 2,f 7 3 3,l 8 7,k 9 (.ca (.func 209) [(t 6),(t 8)]),m 5 9] (.seq (sq [f 10 0 3,
 l 11 10] (.block 0 (sq [q 13 .eql 11 3,m 12 13] (.cond (t 12) (sq [f 14 1 3,l 15 14,k 16 (.ca (.func 39) [(t 15)]),m 17 16,gm 18 17 true 5,og 19 17 true (.bin .eql (t 18) (i 7)),
 P 20 17 19,m 4 20]
 .ret) (sq [q 22 .eql 11 4,m 21 22] (.cond (t 21) (sq [f 23 1 3,l 24 23,k 25 (.ca (.func 72) [(t 24)]),m 26 25,gm 27 26 true 5,⟨some 28, some (26, true),
 .ca (.func 72) [(t 27)]⟩,P 29 26 28,m 4 29]
 .ret) (sq [q 31 .eql 11 7,m 30 31] (.cond (t 30) (sq [f 32 1 3,l 33 32,q 34 .eql 33 6,m 4 34]
 .ret)
 .skip)))))))) (sq [f 35 1 3,l 36 35,k 37 (.ca (.func 72) [(t 36)]),m 38 37,gm 39 38 true 5,gf 40 38 true 1 3,gl 41 38 true 40,og 42 38 true (.bin .eql (t 39) (t 41)),
 P 43 38 42,m 4 43]
 .ret))))⟩
theorem e156 : qD Tryz.prog Tryz.f156 [] = some c156 := by kernel_rfl
def c157 : SF := ⟨74,[.t 4],(sq [k 2 (.bx 153 (t 0)),k 3 (.bx 200 (t 1)),B 4 false] (.seq (.opd [L 7 7 2,f 8 3 3,l 9 8,L 11 7 2,f 12 4 3,l 13 12,k 10 (.ca (.func 209) [(t 7),
 (t 9)]),k 14 (.ca (.func 209) [(t 11),(t 13)]),m 5 10,m 6 14]) (.seq (sq [f 15 0 3,l 16 15] (.block 0 (.seq (sq [q 18 .eql 16 18,m 17 18] (.cond (t 17)
 .skip (.ops [q 19 .eql 16 19,m 17 19]))) (.cond (t 17) (sq [f 20 1 3,l 21 20,q 22 .eql 21 6,m 23 22,gm 24 23 true 5,⟨some 25, some (23, true),.ca (.func 72) [(t 24)]⟩,
 P 26 23 25,m 27 26,gm 28 27 true 5,gm 29 27 true 6,og 30 27 true (.bin .eql (t 28) (t 29)),P 31 27 30,m 4 31]
 .ret) (sq [q 33 .eql 16 20,m 32 33] (.cond (t 32) (sq [f 34 1 3,l 35 34,q 36 .eql 35 7,m 37 36,gm 38 37 true 5,og 39 37 true (.bin .eql (t 38) (i 7)),
 P 40 37 39,m 41 40,gm 42 41 true 6,og 43 41 true (.bin .eql (t 42) (i 6)),P 44 41 43,m 4 44]
 .ret) (.seq (sq [q 46 .eql 16 21,m 45 46] (.cond (t 45)
 .skip (.ops [q 47 .eql 16 22,m 45 47]))) (.cond (t 45) (sq [f 48 1 3,l 49 48,q 50 .eql 49 6,m 51 50,gm 52 51 true 5,og 53 51 true (.bin .eql (t 52) (i 7)),
 P 54 51 53,m 55 54,gm 56 55 true 6,og 57 55 true (.bin .eql (t 56) (i 7)),P 58 55 57,m 4 58]
 .ret)
 .skip)))))))) (sq [f 59 1 3,l 60 59,k 61 (.ca (.func 72) [(t 60)]),m 62 61,gm 63 62 true 5,gf 64 62 true 1 3,gl 65 62 true 64,og 66 62 true (.bin .eql (t 63) (t 65)),
 P 67 62 66,m 68 67,gm 69 68 true 6,gf 70 68 true 1 3,gl 71 68 true 70,og 72 68 true (.bin .eql (t 69) (t 71)),P 73 68 72,m 4 73]
 .ret))))⟩
theorem e157 : qD Tryz.prog Tryz.f157 [(ps [0,1,2,4,5,6,3,7,8,9])] = some c157 := by kernel_rfl
def c158 : SF := ⟨19,[.t 4],(sq [w 4 0] (.seq (sq [m 6 0,z 7 6,w 8 0] (.block 0 (.loop (sq [p 9 .lss 8 7] (.seq (.cond (t 9)
 .skip (.exit 0)) (.seq (.block 1 (sq [m 10 8,m 5 10] (sq [m 11 1,m 12 0,m 13 5,x 14 7 12 13,L 15 7 14,k 16 (.ca (t 11) [(t 15)])] (.cond (t 16) (sq [m 17 5,
 m 4 17]
 .ret)
 .skip)))) (.ops [q 18 .add 8 1,m 8 18]))))))) (sq [w 4 (-1)]
 .ret)))⟩
theorem e158 : qD Tryz.prog Tryz.f158 [] = some c158 := by kernel_rfl
def c159 : SF := ⟨94,[.t 2],(sq [k 1 (.bx 37 (t 0)),B 2 false] (sq [f 4 0 1,l 5 4,o 6 (.bd [.int .i64 0,.int .i64 0,.int .i64 0,.int .i64 0,.int .i64 0,
 .slice none 0 0,.slice none 0 0] [(0,1,(t 5))]),k 3 (.al 37 [.int .i64 0,.int .i64 0,.int .i64 0,.int .i64 0,.int .i64 0,.slice none 0 0,.slice none 0 0]),
 kn (.st [] 7 (t 3) (t 6))] (.seq (sq [f 7 0 1,l 8 7] (.block 0 (sq [q 10 .eql 8 1,m 9 10] (.cond (t 9) (.opq [f 11 1 1,l 12 11,f 13 2 1,l 14 13,f 15 3 1,
 l 16 15,f 17 1 3,kn (.st [13,15] 1 (t 17) (t 12)),f 18 2 3,kn (.st [15] 1 (t 18) (t 14)),f 19 3 3,kn (.st [] 1 (t 19) (t 16))]) (sq [q 21 .eql 8 2,m 20 21] (.cond (t 20) (.opq [f 22 1 1,
 l 23 22,f 24 2 1,l 25 24,f 26 1 3,kn (.st [24] 1 (t 26) (t 23)),f 27 2 3,kn (.st [] 1 (t 27) (t 25))]) (sq [q 29 .eql 8 3,m 28 29] (.cond (t 28) (.opq [f 30 1 1,
 l 31 30,f 32 4 1,l 33 32,f 34 1 3,kn (.st [32] 1 (t 34) (t 31)),f 35 4 3,kn (.st [] 1 (t 35) (t 33))]) (.seq (sq [q 37 .eql 8 4,m 36 37] (.cond (t 36)
 .skip (sq [q 38 .eql 8 5,m 36 38] (.cond (t 36)
 .skip (.ops [q 39 .eql 8 6,m 36 39]))))) (.cond (t 36) (.ops [f 40 3 1,l 41 40,f 42 3 3,kn (.st [] 1 (t 42) (t 41))])
 .skip)))))))))) (.seq (sq [f 43 6 1,l 44 43,z 45 44,q 46 .gtr 45 0,m 47 46,gf 48 47 true 0 1,gl 49 47 true 48,og 50 47 true (.bin .neq (t 49) (i 5)),P 51 47 50,
 m 52 51,gf 53 52 false 5 1,gl 54 52 false 53,og 55 52 false (.ln (t 54)),og 56 52 false (.bin .gtr (t 55) (i 0)),gm 57 52 false 56,gf 58 57 true 0 1,gl 59 57 true 58,
 og 60 57 true (.bin .neq (t 59) (i 5)),og 61 52 false (.pick (t 57) (t 60) (b false)),gm 62 52 false 61,gf 63 62 true 0 1,gl 64 62 true 63,og 65 62 true (.bin .neq (t 64) (i 6)),
 og 66 52 false (.pick (t 62) (t 65) (b false)),R 67 52 66] (.cond (t 67) (sq [B 2 false]
 .ret)
 .skip)) (sq [f 68 1 1,l 69 68,f 70 1 3,l 71 70,p 72 .eql 69 71,m 73 72,gf 74 73 true 2 1,gl 75 73 true 74,gf 76 73 true 2 3,gl 77 73 true 76,og 78 73 true (.bin .eql (t 75) (t 77)),
 P 79 73 78,m 80 79,gf 81 80 true 3 1,gl 82 80 true 81,gf 83 80 true 3 3,gl 84 80 true 83,og 85 80 true (.bin .eql (t 82) (t 84)),P 86 80 85,m 87 86,gf 88 87 true 4 1,
 gl 89 87 true 88,gf 90 87 true 4 3,gl 91 87 true 90,og 92 87 true (.bin .eql (t 89) (t 91)),P 93 87 92,m 2 93]
 .ret)))))⟩
theorem e159 : qD Tryz.prog Tryz.f159 [[(0,[]),(1,[]),(2,[]),(3,[]),(4,[]),(5,[]),(6,[]),(7,[13,15]),(8,[]),(9,[15]),(10,[]),(11,[])],[(0,[]),(1,[]),(2,[]),(3,[]),(4,[]),(5,[24]),(6,[]),(7,[])],[(0,[]),(1,[]),(2,[]),(3,[]),(4,[]),(5,[32]),(6,[]),(7,[])]] = some c159 := by kernel_rfl
def c160 : SF := ⟨24,[.t 6],(sq [k 3 (.bx 153 (t 0)),B 6 false] (sq [m 7 1,q 8 .geq 7 0,m 9 8,gm 10 9 true 1,gf 11 9 true 0 3,gf 12 9 true 4 11,gl 13 9 true 12,
 og 14 9 true (.ln (t 13)),og 15 9 true (.bin .lss (t 10) (t 14)),P 16 9 15,m 17 16,gL 18 17 true 7 3,gm 19 17 true 1,⟨some 20, some (17, true),.ca (.func 209) [(t 18),
 (t 19)]⟩,gm 21 17 true 2,og 22 17 true (.bin .eql (t 20) (t 21)),P 23 17 22,m 6 23]
 .ret))⟩
theorem e160 : qD Tryz.prog Tryz.f160 [] = some c160 := by kernel_rfl
def c161 : SF := ⟨78,[.t 8,.t 9],(sq [k 4 (.bx 153 (t 0)),o 8 (.mv (.const (.slice none 0 0))),B 9 false] (.seq (sq [m 15 1,z 16 15,q 17 .gtr 16 0,m 18 17,
 gm 19 18 true 3,og 20 18 true (.bin .gtr (t 19) (i 5)),P 21 18 20] (.cond (t 21) (sq [o 8 (.mv (.const (.slice none 0 0))),B 9 false]
 .ret)
 .skip)) (.seq (sq [m 22 1,z 23 22,w 24 0] (.block 0 (.loop (sq [p 25 .lss 24 23] (.seq (.cond (t 25)
 .skip (.exit 0)) (.seq (.block 1 (sq [x 26 1 22 24,l 27 26,m 11 27] (.seq (sq [m 28 11,m 29 2,z 30 29,p 31 .neq 28 30,m 32 31,gm 33 32 false 11,gf 34 32 false 0 4,
 gf 35 32 false 5 34,gl 36 32 false 35,og 37 32 false (.ln (t 36)),og 38 32 false (.bin .geq (t 33) (t 37)),R 39 32 38] (.cond (t 39) (sq [o 8 (.mv (.const (.slice none 0 0))),
 B 9 false]
 .ret)
 .skip)) (sq [B 12 true] (sq [m 40 2,m 41 3,k 42 (.bs 3 1 [.int .i64 0] [(0,1,(t 41))]),k 43 (.ap 3 1 8 (t 40) (t 42)),m 2 43] (.seq (.opq [f 44 0 4,f 45 5 44,
 l 46 45,m 47 11,x 48 7 46 47,f 49 5 48,l 50 49,f 51 0 4,f 52 5 51,l 53 52,m 54 11,x 55 7 53 54,f 56 6 55,l 57 56,w 60 0,k 58 (.bs 24 2 [.slice none 0 0,
 .slice none 0 0] [(0,1,(t 50)),(1,1,(t 57))]),z 59 58]) (.block 2 (.loop (sq [p 61 .lss 60 59] (.seq (.cond (t 61)
 .skip (.exit 2)) (.seq (.block 3 (sq [x 62 1 58 60,l 63 62,m 14 63] (sq [L 65 7 4,m 66 14,m 67 2,m 68 3,q 69 .add 68 1,k 70 (.ca (.func 161) [(t 65),(t 66),
 (t 67),(t 69)]),m 64 70,e 71 64 0,e 72 64 1,m 2 71,m 12 72] (sq [m 73 12,u 74 73] (.cond (t 74) (sq [o 8 (.mv (.const (.slice none 0 0))),B 9 false]
 .ret)
 .skip))))) (.ops [q 75 .add 60 1,m 60 75])))))))))))) (.ops [q 76 .add 24 1,m 24 76]))))))) (sq [m 77 2,m 8 77,B 9 true]
 .ret))))⟩
theorem e161 : qD Tryz.prog Tryz.f161 [(ps [0,1,2,3,4,5,6,7,8,9,10,11,12,13,16,14,15])] = some c161 := by kernel_rfl
def c162 : SF := ⟨21,[.t 2],(sq [B 2 false] (.seq (sq [m 3 0,z 4 3,q 5 .lss 4 1,m 6 5,gm 7 6 false 0,og 8 6 false (.ln (t 7)),og 9 6 false (.bin .gtr (t 8) (i 33)),
 R 10 6 9,m 11 10,gm 12 11 false 0,og 13 11 false (.ia 2 (t 12) (i 0)),gf 14 11 false 0 13,gl 15 11 false 14,og 16 11 false (.bin .neq (t 15) (i 0)),R 17 11 16] (.cond (t 17) (sq [B 2 false]
 .ret)
 .skip)) (sq [m 18 0,k 19 (.ca (.func 210) [(t 18),(.func 211)]),u 20 19,m 2 20]
 .ret)))⟩
theorem e162 : qD Tryz.prog Tryz.f162 [] = some c162 := by kernel_rfl
def c163 : SF := ⟨10,[.t 4],(sq [k 2 (.bx 76 (t 0)),k 3 (.bx 24 (t 1)),B 4 false] (sq [f 5 1 2,l 6 5,o 7 (.mf (.func 214) [] [(t 3)]),k 8 (.ca (.func 213) [(t 6),
 (t 7)]),u 9 8,m 4 9]
 .ret))⟩
theorem e163 : qD Tryz.prog Tryz.f163 [] = some c163 := by kernel_rfl
def c164 : SF := ⟨53,[.c true 4 6,.t 7],(sq [k 3 (.bx 23 (t 0)),k 6 (.al 50 [.bool false,.int .i64 0,.int .i64 0,.int .i64 0]),w 7 0] (.seq (.block 0 (sq [m 12 2,
 k 13 (.ca (.func 215) [(t 12),(i 0)]),m 11 13] (.cond (t 11) (sq [o 14 (.bd [.bool false,.int .i64 0,.int .i64 0,.int .i64 0] []),kn (.st [] 4 (t 6) (t 14)),
 w 7 7]
 .ret) (sq [m 16 1,q 17 .eql 16 7,m 15 17] (.cond (t 15) (sq [m 18 2,k 19 (.ca (.func 216) [(t 18)]),e 20 19 0,e 21 19 1,kn (.st [] 4 (t 6) (t 20)),m 7 21]
 .ret) (sq [m 23 2,k 24 (.ca (.func 215) [(t 23),(i 2)]),m 22 24] (.cond (t 22) (sq [o 25 (.bd [.bool false,.int .i64 0,.int .i64 0,.int .i64 0] []),kn (.st [] 4 (t 6) (t 25)),
 w 7 8]
 .ret)
 .skip))))))) (sq [w 8 0] (.seq (sq [m 26 2,z 27 26,w 28 0] (.block 1 (.loop (sq [p 29 .lss 28 27] (.seq (.cond (t 29)
 .skip (.exit 1)) (.seq (.block 2 (sq [m 30 28,m 9 30] (sq [m 31 2,m 32 2,z 33 32,q 34 .sub 33 1,m 35 9,p 36 .sub 34 35,x 37 5 31 36,L 38 5 37,k 10 (.al 91 [.int .i64 0,
 .int .i64 0,.int .i64 0,.int .i64 0,.int .i64 0]),kn (.st [] 5 (t 10) (t 38))] (.seq (sq [f 39 0 3,l 40 39] (.cond (t 40) (.ops [m 41 2,m 42 9,x 43 5 41 42,
 L 44 5 43,kn (.st [] 5 (t 10) (t 44))])
 .skip)) (.ops [m 45 8,o 46 (.bin .shl (t 45) (.const (.int .u64 8))),f 47 1 10,l 48 47,p 49 .or 46 48,m 8 49]))))) (.ops [q 50 .add 28 1,m 28 50]))))))) (sq [m 51 8,
 o 52 (.bd [.bool false,.int .i64 0,.int .i64 0,.int .i64 0] [(1,1,(t 51))]),kn (.st [] 4 (t 6) (t 52)),w 7 0]
 .ret)))))⟩
theorem e164 : qD Tryz.prog Tryz.f164 [] = some c164 := by kernel_rfl
def c165 : SF := ⟨11,[.c true 7 4],(sq [k 4 (.al 62 [.int .i64 0,.bool false,.int .i64 0,.int .i64 0,.int .i64 0,.int .i64 0,.slice none 0 0])] (sq [m 5 0,
 m 6 1,k 7 (.ca (.func 166) [(i 8),(t 6)]),o 8 (.bd [.int .i64 0,.int .i64 0,.bool false,.int .i64 0,.int .i64 0,.int .i64 0,.int .i64 0] [(0,1,(t 5)),(1,
 6,(t 7))]),k 9 (.bs 102 1 [.int .i64 0,.int .i64 0,.bool false,.int .i64 0,.int .i64 0,.int .i64 0,.int .i64 0] [(0,7,(t 8))]),o 10 (.bd [.int .i64 0,.bool false,
 .int .i64 0,.int .i64 0,.int .i64 0,.int .i64 0,.slice none 0 0] [(6,1,(t 9))]),kn (.st [] 7 (t 4) (t 10))]
 .ret))⟩
theorem e165 : qD Tryz.prog Tryz.f165 [] = some c165 := by kernel_rfl
def c166 : SF := ⟨10,[.c true 6 4],(sq [k 4 (.al 59 [.int .i64 0,.bool false,.int .i64 0,.int .i64 0,.int .i64 0,.int .i64 0])] (sq [m 5 0,m 6 1,m 7 1,
 m 8 1,o 9 (.bd [.int .i64 0,.bool false,.int .i64 0,.int .i64 0,.int .i64 0,.int .i64 0] [(0,1,(t 5)),(2,1,(t 6)),(3,1,(t 7)),(5,1,(t 8))]),kn (.st [] 6 (t 4) (t 9))]
 .ret))⟩
theorem e166 : qD Tryz.prog Tryz.f166 [] = some c166 := by kernel_rfl
def c167 : SF := ⟨48,[.t 2],(sq [k 1 (.bx 84 (t 0)),B 2 false] (.seq (sq [f 3 2 1,l 4 3] (.block 0 (sq [q 6 .eql 4 0,m 5 6] (.cond (t 5) (sq [f 7 3 1,f 8 0 7,
 L 9 6 8,o 10 (.bd [.int .i64 0,.bool false,.int .i64 0,.int .i64 0,.int .i64 0,.int .i64 0] []),o 11 (.eqs (.st [(false,0,1,.i),(false,1,1,.b),(false,2,
 1,.i),(false,3,1,.i),(false,4,1,.i),(false,5,1,.i)]) false (t 9) (t 10)),m 12 11,gf 13 12 true 3 1,gf 14 12 true 6 13,gl 15 12 true 14,og 16 12 true (.ln (t 15)),
 og 17 12 true (.bin .eql (t 16) (i 0)),P 18 12 17,m 2 18]
 .ret) (sq [q 20 .eql 4 11,m 19 20] (.cond (t 19) (sq [f 21 3 1,f 22 0 21,f 23 0 22,l 24 23,q 25 .eql 24 8,m 26 25,gf 27 26 true 3 1,gf 28 26 true 0 27,
 gL 29 26 true 6 28,⟨some 30, some (26, true),.ca (.func 73) [(t 29)]⟩,P 31 26 30,m 32 31,gf 33 32 true 3 1,gf 34 32 true 6 33,gl 35 32 true 34,⟨some 36,
  some (32, true),.ca (.func 75) [(t 35)]⟩,P 37 32 36,m 2 37]
 .ret)
 .skip)))))) (sq [f 38 2 1,l 39 38,k 40 (.ca (.func 39) [(t 39)]),m 41 40,gf 42 41 true 2 1,gl 43 41 true 42,gf 44 41 true 3 1,gL 45 41 true 7 44,⟨some 46,
  some (41, true),.ca (.func 40) [(t 43),(t 45)]⟩,P 47 41 46,m 2 47]
 .ret)))⟩
theorem e167 : qD Tryz.prog Tryz.f167 [] = some c167 := by kernel_rfl
def c168 : SF := ⟨18,[.t 2],(sq [w 2 0] (sq [w 3 0] (.seq (sq [m 6 0,z 7 6,w 8 0] (.block 0 (.loop (sq [p 9 .lss 8 7] (.seq (.cond (t 9)
 .skip (.exit 0)) (.seq (.block 1 (sq [x 10 1 6 8,l 11 10,m 5 11] (sq [m 12 5,m 13 3,p 14 .neq 12 13] (.cond (t 14) (sq [m 15 5,m 2 15]
 .ret)
 .skip)))) (.ops [q 16 .add 8 1,m 8 16]))))))) (sq [m 17 3,m 2 17]
 .ret))))⟩
theorem e168 : qD Tryz.prog Tryz.f168 [] = some c168 := by kernel_rfl
def c169 : SF := ⟨20,[.t 4],(sq [w 4 0] (sq [m 7 0,k 8 (.ca (.func 217) [(t 7)]),m 5 8] (sq [m 9 1,k 10 (.ca (.func 217) [(t 9)]),m 6 10] (.seq (sq [m 11 5] (.cond (t 11) (.seq (sq [m 12 6] (.cond (t 12) (sq [w 4 0]
 .ret)
 .skip)) (sq [w 4 (-1)]
 .ret))
 .skip)) (.seq (sq [m 13 6] (.cond (t 13) (sq [w 4 1]
 .ret)
 .skip)) (.seq (sq [m 14 0,m 15 1,p 16 .lss 14 15] (.cond (t 16) (sq [w 4 (-1)]
 .ret)
 .skip)) (.seq (sq [m 17 0,m 18 1,p 19 .gtr 17 18] (.cond (t 19) (sq [w 4 1]
 .ret)
 .skip)) (sq [w 4 0]
 .ret))))))))⟩
theorem e169 : qD Tryz.prog Tryz.f169 [] = some c169 := by kernel_rfl
def c170 : SF := ⟨6,[.t 2],(sq [w 2 0] (sq [m 3 0,o 4 (.bin .shl (i 1) (t 3)),q 5 .sub 4 1,m 2 5]
 .ret))⟩
theorem e170 : qD Tryz.prog Tryz.f170 [] = some c170 := by kernel_rfl
def c171 : SF := ⟨21,[.t 2,.t 3],(sq [k 1 (.bx 59 (t 0)),w 2 0,B 3 false] (sq [L 7 6 1,k 8 (.ca (.func 218) [(t 7),(i 1)]),m 6 8,e 9 6 0,e 10 6 1,m 4 9,
 m 5 10] (.seq (sq [m 11 5,u 12 11,m 13 12,gm 14 13 false 4,og 15 13 false (.ln (t 14)),og 16 13 false (.bin .eql (t 15) (i 0)),R 17 13 16] (.cond (t 17) (sq [w 2 0,
 B 3 false]
 .ret)
 .skip)) (sq [m 18 4,o 19 (.ia 1 (t 18) (i 0)),l 20 19,m 2 20,B 3 true]
 .ret))))⟩
theorem e171 : qD Tryz.prog Tryz.f171 [] = some c171 := by kernel_rfl
def c172 : SF := ⟨44,[.t 4],(sq [k 2 (.bx 59 (t 0)),w 4 0] (.seq (sq [f 8 1 2,l 9 8,m 10 9,gm 11 10 false 1,gf 12 10 false 0 2,gl 13 10 false 12,⟨some 14,
  some (10, false),.ca (.func 170) [(t 13)]⟩,og 15 10 false (.bin .gtr (t 11) (t 14)),R 16 10 15] (.cond (t 16) (sq [w 4 (-1)]
 .ret)
 .skip)) (.seq (sq [L 17 6 2,k 18 (.ca (.func 219) [(t 17)]),z 19 18,w 20 0] (.block 0 (.loop (sq [p 21 .lss 20 19] (.seq (.cond (t 21)
 .skip (.exit 0)) (.seq (.block 1 (sq [x 22 2 18 20,L 23 2 22,k 6 (.al 246 [.int .i64 0,.int .i64 0]),kn (.st [] 2 (t 6) (t 23))] (.seq (sq [m 24 1,o 25 (.iaa 2 1 (t 6) (i 1)),
 l 26 25,p 27 .gtr 24 26] (.cond (t 27) (.exit 1)
 .skip)) (sq [L 28 6 2,m 29 1,o 30 (.iaa 2 1 (t 6) (i 0)),l 31 30,o 32 (.mx [(t 29),(t 31)]),k 33 (.ca (.func 220) [(t 28),(t 32)]),m 7 33] (sq [m 34 7,
 q 35 .geq 34 0,m 36 35,gm 37 36 true 7,og 38 36 true (.iaa 2 1 (t 6) (i 1)),gl 39 36 true 38,og 40 36 true (.bin .leq (t 37) (t 39)),P 41 36 40] (.cond (t 41) (sq [m 42 7,
 m 4 42]
 .ret)
 .skip)))))) (.ops [q 43 .add 20 1,m 20 43]))))))) (sq [w 4 (-1)]
 .ret))))⟩
theorem e172 : qD Tryz.prog Tryz.f172 [] = some c172 := by kernel_rfl
def c173 : SF := ⟨12,[.t 4],(sq [k 2 (.bx 23 (t 0)),w 4 0] (.seq (sq [m 5 1,q 6 .eql 5 7] (.cond (t 6) (sq [f 7 1 2,l 8 7,m 4 8]
 .ret)
 .skip)) (sq [m 9 1,k 10 (.ca (.func 74) [(t 9)]),q 11 .quo 10 8,m 4 11]
 .ret)))⟩
theorem e173 : qD Tryz.prog Tryz.f173 [] = some c173 := by kernel_rfl
def c174 : SF := ⟨27,[.t 4],(sq [o 4 (.mv (.const (.slice none 0 0)))] (.seq (sq [m 5 1,q 6 .lss 5 0] (.cond (t 6)
 .bad
 .skip)) (.seq (sq [m 8 1,m 9 0,o 10 (.cc (t 9)),m 11 0,z 12 11,p 13 .sub 10 12,p 14 .sub 8 13,m 1 14] (sq [m 15 1,q 16 .gtr 15 0] (.cond (t 16) (.ops [m 17 0,
 m 18 0,o 19 (.cc (t 18)),o 20 (.sl 1 (t 17) none (some (t 19))),m 21 1,k 22 (.gz 3 1 8 [.int .i64 0] (t 20) (t 21)),m 23 0,z 24 23,o 25 (.sl 1 (t 22) none (some (t 24))),
 m 0 25])
 .skip))) (sq [m 26 0,m 4 26]
 .ret))))⟩
theorem e174 : qD Tryz.prog Tryz.f174 [] = some c174 := by kernel_rfl
def c175 : SF := ⟨134,[],(sq [B 8 true] (sq [B 9 true] (.block 0 (.loop (.block 1 (sq [m 19 2,m 20 1,p 21 .sub 19 20,m 10 21] (.seq (sq [m 22 10,q 23 .leq 22 12] (.cond (t 23) (sq [m 24 0,
 m 25 1,m 26 2,k 27 (.ca (.func 221) [(t 24),(t 25),(t 26)])]
 .ret)
 .skip)) (.seq (sq [m 28 3,q 29 .eql 28 0] (.cond (t 29) (sq [m 30 0,m 31 1,m 32 2,k 33 (.ca (.func 222) [(t 30),(t 31),(t 32)])]
 .ret)
 .skip)) (.seq (sq [m 34 8,u 35 34] (.cond (t 35) (sq [m 36 0,m 37 1,m 38 2,k 39 (.ca (.func 223) [(t 36),(t 37),(t 38)])] (.ops [m 40 3,q 41 .sub 40 1,
 m 3 41]))
 .skip)) (sq [m 43 0,m 44 1,m 45 2,k 46 (.ca (.func 224) [(t 43),(t 44),(t 45)]),m 42 46,e 47 42 0,e 48 42 1,m 11 47,m 12 48] (.seq (sq [m 49 12,q 50 .eql 49 2] (.cond (t 50) (sq [m 51 0,
 m 52 1,m 53 2,k 54 (.ca (.func 225) [(t 51),(t 52),(t 53)])] (sq [m 55 2,q 56 .sub 55 1,m 57 11,m 58 1,p 59 .sub 57 58,p 60 .sub 56 59,m 11 60] (.ops [w 12 1])))
 .skip)) (.seq (sq [m 61 8,m 62 61,gm 63 62 true 9,P 64 62 63,m 65 64,gm 66 65 true 12,og 67 65 true (.bin .eql (t 66) (i 1)),P 68 65 67] (.cond (t 68) (sq [m 69 0,
 m 70 1,m 71 2,k 72 (.ca (.func 226) [(t 69),(t 70),(t 71)])] (.cond (t 72)
 .ret
 .skip))
 .skip)) (.seq (.seq (.opq [m 73 1,q 74 .gtr 73 0,m 75 74,gm 76 75 true 0,gm 77 75 true 1,og 78 75 true (.bin .sub (t 77) (i 1)),og 79 75 true (.ia 1 (t 76) (t 78)),
 gl 80 75 true 79,gm 81 75 true 0,gm 82 75 true 11,og 83 75 true (.ia 1 (t 81) (t 82)),gl 84 75 true 83,⟨some 85, some (75, true),.ca (.func 227) [(t 80),
 (t 84)]⟩,og 86 75 true (.un .not (t 85)),P 87 75 86]) (.cond (t 87) (sq [m 88 0,m 89 1,m 90 2,m 91 11,k 92 (.ca (.func 228) [(t 88),(t 89),(t 90),(t 91)]),
 m 13 92] (sq [m 93 13,m 1 93] (.exit 1)))
 .skip)) (sq [m 95 0,m 96 1,m 97 2,m 98 11,k 99 (.ca (.func 229) [(t 95),(t 96),(t 97),(t 98)]),m 94 99,e 100 94 0,e 101 94 1,m 14 100,m 15 101] (sq [m 102 15,
 m 9 102] (sq [m 103 14,m 104 1,p 105 .sub 103 104,m 106 2,m 107 14,p 108 .sub 106 107,m 16 105,m 17 108] (sq [m 109 10,q 110 .quo 109 8,m 18 110] (sq [m 111 16,
 m 112 17,p 113 .lss 111 112] (.cond (t 113) (sq [m 114 16,m 115 18,p 116 .geq 114 115,m 8 116] (sq [m 117 0,m 118 1,m 119 14,m 120 3,k 121 (.ca (.func 175) [(t 117),
 (t 118),(t 119),(t 120)])] (.ops [m 122 14,q 123 .add 122 1,m 1 123]))) (sq [m 124 17,m 125 18,p 126 .geq 124 125,m 8 126] (sq [m 127 0,m 128 14,q 129 .add 128 1,
 m 130 2,m 131 3,k 132 (.ca (.func 175) [(t 127),(t 129),(t 130),(t 131)])] (.ops [m 133 14,m 2 133]))))))))))))))))))))))⟩
theorem e175 : qD Tryz.prog Tryz.f175 [(ps [0,1,2,3,4,5,6,7,8,9,10,11,12,13,14])] = some c175 := by kernel_rfl
def c176 : SF := ⟨8,[.t 2],(sq [w 2 0] (.seq (.cond (b false) (sq [m 3 0,o 4 (.cv .u32 (t 3)),k 5 (.ca (.func 230) [(t 4)]),m 2 5]
 .ret)
 .skip) (sq [m 6 0,k 7 (.ca (.func 231) [(t 6)]),m 2 7]
 .ret)))⟩
theorem e176 : qD Tryz.prog Tryz.f176 [] = some c176 := by kernel_rfl
def c177 : SF := ⟨42,[.t 4],(sq [o 4 (.mv (.const (.slice none 0 0)))] (sq [m 8 0,m 9 1,k 10 (.ca (.func 183) [(t 8),(t 9)]),m 5 10] (.seq (sq [m 11 5,
 q 12 .eql 11 (-1)] (.cond (t 12) (sq [m 13 0,m 4 13]
 .ret)
 .skip)) (.seq (sq [m 14 5,q 15 .add 14 1,m 6 15] (.block 0 (.loop (.seq (sq [m 16 6,m 17 0,z 18 17,p 19 .lss 16 18] (.cond (t 19)
 .skip (.exit 0))) (.seq (.block 1 (sq [m 22 0,m 23 6,x 24 10 22 23,L 25 10 24,k 7 (.al 84 [.int .i64 0,.int .i64 0,.int .i64 0,.int .i64 0,.bool false,
 .int .i64 0,.int .i64 0,.int .i64 0,.int .i64 0,.slice none 0 0]),kn (.st [] 10 (t 7) (t 25))] (sq [m 26 1,L 27 10 7,k 28 (.ca (t 26) [(t 27)]),u 29 28] (.cond (t 29) (sq [m 30 0,
 m 31 5,L 32 10 7,x 33 10 30 31,kn (.st [] 10 (t 33) (t 32))] (.ops [m 34 5,q 35 .add 34 1,m 5 35]))
 .skip)))) (.ops [m 20 6,q 21 .add 20 1,m 6 21])))))) (sq [m 36 0,m 37 5,o 38 (.sl 10 (t 36) (some (t 37)) none),kn (.cl 10 [.int .i64 0,.int .i64 0,.int .i64 0,
 .int .i64 0,.bool false,.int .i64 0,.int .i64 0,.int .i64 0,.int .i64 0,.slice none 0 0] (t 38))] (sq [m 39 0,m 40 5,o 41 (.sl 10 (t 39) none (some (t 40))),
 m 4 41]
 .ret))))))⟩
theorem e177 : qD Tryz.prog Tryz.f177 [] = some c177 := by kernel_rfl
def c178 : SF := ⟨24,[.t 7],(sq [k 6 (.bx 84 (t 0)),B 7 false] (.seq (.opq [l 9 1,o 10 (.nc (t 9)),f 11 0 10,L 12 2 11,L 13 10 6,l 14 2,l 15 3,l 16 4,k 17 (.ca (.func 179) [(t 12),
 (t 13),(t 14),(t 15),(t 16)]),m 8 17]) (.seq (sq [m 18 8] (.cond (t 18) (.ops [l 19 5,L 20 10 6,k 21 (.bs 84 1 [.int .i64 0,.int .i64 0,.int .i64 0,.int .i64 0,
 .bool false,.int .i64 0,.int .i64 0,.int .i64 0,.int .i64 0,.slice none 0 0] [(0,10,(t 20))]),k 22 (.ap 84 10 96 (t 19) (t 21)),kn (.st [] 1 (t 5) (t 22))])
 .skip)) (sq [m 23 8,m 7 23]
 .ret))))⟩
theorem e178 : qD Tryz.prog Tryz.f178 [(ps [0,1,2,3,4,5,6,7,8,9])] = some c178 := by kernel_rfl
def c179 : SF := ⟨34,[.t 10],(sq [k 5 (.bx 23 (t 0)),k 6 (.bx 84 (t 1)),B 10 false] (.seq (.opd [f 11 0 6,l 12 11,m 13 2,p 14 .eql 12 13,m 15 14,gf 16 15 true 1 6,
 gl 17 15 true 16,gm 18 15 true 3,gm 19 15 true 4,og 20 15 true (.bin .add (t 18) (t 19)),og 21 15 true (.bin .lss (t 17) (t 20)),P 22 15 21,m 23 22,gm 24 23 true 3,
 gf 25 23 true 1 6,gl 26 23 true 25,gL 27 23 true 2 5,gf 28 23 true 2 6,gl 29 23 true 28,⟨some 30, some (23, true),.ca (.func 129) [(t 27),(t 29)]⟩,og 31 23 true (.bin .add (t 26) (t 30)),
 og 32 23 true (.bin .lss (t 24) (t 31)),P 33 23 32,m 10 33])
 .ret))⟩
theorem e179 : qD Tryz.prog Tryz.f179 [(ps [0,1,2,3,4,5,6,7,8,9,10,11,12,13,14,15,16,17,18,19,20,21,22,23])] = some c179 := by kernel_rfl
def c180 : SF := ⟨13,[.t 6],(sq [k 3 (.bx 176 (t 0)),k 4 (.bx 3 (t 1)),k 5 (.bx 3 (t 2)),B 6 false] (sq [l 7 3,o 8 (.nc (t 7)),f 9 2 8,l 10 9,o 11 (.mf (.func 233) [] [(t 3),
 (t 4),(t 5)]),k 12 (.ca (.func 232) [(t 10),(t 11)]),m 6 12]
 .ret))⟩
theorem e180 : qD Tryz.prog Tryz.f180 [] = some c180 := by kernel_rfl
def c181 : SF := ⟨35,[.c true 14 6],(sq [k 3 (.bx 23 (t 0)),k 4 (.bx 84 (t 1)),k 6 (.al 185 [.bool false,.int .i64 0,.bool false,.int .i64 0,.int .i64 0,
 .int .i64 0,.int .i64 0,.int .i64 0,.bool false,.int .i64 0,.int .i64 0,.int .i64 0,.int .i64 0,.slice none 0 0])] (sq [k 8 (.ca (.func 187) []),k 7 (.al 185 [.bool false,
 .int .i64 0,.bool false,.int .i64 0,.int .i64 0,.int .i64 0,.int .i64 0,.int .i64 0,.bool false,.int .i64 0,.int .i64 0,.int .i64 0,.int .i64 0,.slice none 0 0]),
 kn (.st [] 14 (t 7) (t 8))] (.seq (sq [f 9 2 4,l 10 9] (.block 0 (sq [q 22 .eql 10 0,m 21 22] (.cond (t 21) (.ops [f 23 0 7,kn (.st [] 1 (t 23) (b true))]) (sq [q 25 .eql 10 11,
 m 24 25] (.cond (t 24) (.opq [f 26 3 4,f 27 0 26,L 28 6 27,f 29 3 4,f 30 6 29,l 31 30,f 32 7 7,kn (.st [30] 6 (t 32) (t 28)),f 33 13 7,kn (.st [] 1 (t 33) (t 31))]) (.ops [L 11 2 3,
 f 12 2 4,l 13 12,f 14 3 4,L 15 7 14,m 16 2,f 17 1 4,l 18 17,p 19 .sub 16 18,k 20 (.ca (.func 141) [(t 11),(t 13),(t 15),(t 19)]),kn (.st [] 14 (t 7) (t 20))]))))))) (sq [L 34 14 7,
 kn (.st [] 14 (t 6) (t 34))]
 .ret))))⟩
theorem e181 : qD Tryz.prog Tryz.f181 [[(0,[]),(1,[]),(2,[]),(3,[]),(4,[]),(5,[]),(6,[]),(7,[30]),(8,[]),(9,[])]] = some c181 := by kernel_rfl
def c183 : SF := ⟨19,[.t 4],(sq [w 4 0] (.seq (sq [m 6 0,z 7 6,w 8 0] (.block 0 (.loop (sq [p 9 .lss 8 7] (.seq (.cond (t 9)
 .skip (.exit 0)) (.seq (.block 1 (sq [m 10 8,m 5 10] (sq [m 11 1,m 12 0,m 13 5,x 14 10 12 13,L 15 10 14,k 16 (.ca (t 11) [(t 15)])] (.cond (t 16) (sq [m 17 5,
 m 4 17]
 .ret)
 .skip)))) (.ops [q 18 .add 8 1,m 8 18]))))))) (sq [w 4 (-1)]
 .ret)))⟩
theorem e183 : qD Tryz.prog Tryz.f183 [] = some c183 := by kernel_rfl
def c184 : SF := ⟨43,[.t 6],(sq [k 5 (.bx 84 (t 0)),B 6 false] (.seq (sq [f 7 0 5,l 8 7,l 9 1,p 10 .neq 8 9,m 11 10,gf 12 11 false 1 5,gl 13 11 false 12,
 gl 14 11 false 2,og 15 11 false (.bin .neq (t 13) (t 14)),R 16 11 15,m 17 16,gf 18 17 false 2 5,gl 19 17 false 18,⟨some 20, some (17, false),.ca (.func 39) [(t 19)]⟩,
 og 21 17 false (.un .not (t 20)),R 22 17 21] (.cond (t 22) (sq [B 6 false]
 .ret)
 .skip)) (.seq (.opd [f 23 2 5,l 24 23,q 25 .eql 24 7,l 26 3,q 27 .eql 26 7,o 28 (.eqb false (t 25) (t 27)),m 29 28,gf 30 29 true 0 4,gf 31 29 true 0 30,
 gL 32 29 true 2 31,gf 33 29 true 2 5,gl 34 29 true 33,gf 36 29 true 0 4,gf 37 29 true 0 36,gL 38 29 true 2 37,gl 39 29 true 3,⟨some 35, some (29, true),
 .ca (.func 129) [(t 32),(t 34)]⟩,⟨some 40, some (29, true),.ca (.func 129) [(t 38),(t 39)]⟩,og 41 29 true (.bin .eql (t 35) (t 40)),P 42 29 41,m 6 42])
 .ret)))⟩
theorem e184 : qD Tryz.prog Tryz.f184 [(ps [0,1,2,3,4,5,6,7,8,9,10,11,13,14,15,16,12,17,18,19,20])] = some c184 := by kernel_rfl
def c187 : SF := ⟨4,[.c true 14 0],(sq [k 0 (.al 185 [.bool false,.int .i64 0,.bool false,.int .i64 0,.int .i64 0,.int .i64 0,.int .i64 0,.int .i64 0,.bool false,
 .int .i64 0,.int .i64 0,.int .i64 0,.int .i64 0,.slice none 0 0])] (sq [k 1 (.ca (.func 122) [(i 8)]),k 2 (.ca (.func 122) [(i 8)]),o 3 (.bd [.bool false,
 .int .i64 0,.bool false,.int .i64 0,.int .i64 0,.int .i64 0,.int .i64 0,.int .i64 0,.bool false,.int .i64 0,.int .i64 0,.int .i64 0,.int .i64 0,.slice none 0 0] [(1,
 6,(t 1)),(7,6,(t 2))]),kn (.st [] 14 (t 0) (t 3))]
 .ret))⟩
theorem e187 : qD Tryz.prog Tryz.f187 [] = some c187 := by kernel_rfl
def c188 : SF := ⟨14,[.t 6],(sq [k 4 (.bx 3 (t 1)),k 5 (.bx 3 (t 2)),B 6 false] (sq [l 7 5,q 8 .leq 7 32,m 9 8,gm 10 9 true 0,og 11 9 true (.mf (.func 237) [] [(t 4),
 (t 5)]),⟨some 12, some (9, true),.ca (.func 76) [(t 10),(t 11)]⟩,P 13 9 12,m 6 13]
 .ret))⟩
theorem e188 : qD Tryz.prog Tryz.f188 [] = some c188 := by kernel_rfl
def c189 : SF := ⟨42,[.t 4],(sq [o 4 (.mv (.const (.slice none 0 0)))] (sq [m 8 0,m 9 1,k 10 (.ca (.func 125) [(t 8),(t 9)]),m 5 10] (.seq (sq [m 11 5,
 q 12 .eql 11 (-1)] (.cond (t 12) (sq [m 13 0,m 4 13]
 .ret)
 .skip)) (.seq (sq [m 14 5,q 15 .add 14 1,m 6 15] (.block 0 (.loop (.seq (sq [m 16 6,m 17 0,z 18 17,p 19 .lss 16 18] (.cond (t 19)
 .skip (.exit 0))) (.seq (.block 1 (sq [m 22 0,m 23 6,x 24 7 22 23,L 25 7 24,k 7 (.al 102 [.int .i64 0,.int .i64 0,.bool false,.int .i64 0,.int .i64 0,
 .int .i64 0,.int .i64 0]),kn (.st [] 7 (t 7) (t 25))] (sq [m 26 1,L 27 7 7,k 28 (.ca (t 26) [(t 27)]),u 29 28] (.cond (t 29) (sq [m 30 0,m 31 5,L 32 7 7,
 x 33 7 30 31,kn (.st [] 7 (t 33) (t 32))] (.ops [m 34 5,q 35 .add 34 1,m 5 35]))
 .skip)))) (.ops [m 20 6,q 21 .add 20 1,m 6 21])))))) (sq [m 36 0,m 37 5,o 38 (.sl 7 (t 36) (some (t 37)) none),kn (.cl 7 [.int .i64 0,.int .i64 0,.bool false,
 .int .i64 0,.int .i64 0,.int .i64 0,.int .i64 0] (t 38))] (sq [m 39 0,m 40 5,o 41 (.sl 7 (t 39) none (some (t 40))),m 4 41]
 .ret))))))⟩
theorem e189 : qD Tryz.prog Tryz.f189 [] = some c189 := by kernel_rfl
def c190 : SF := ⟨6,[.t 2],(sq [k 1 (.bx 102 (t 0)),B 2 false] (sq [f 3 0 1,l 4 3,q 5 .eql 4 0,m 2 5]
 .ret))⟩
theorem e190 : qD Tryz.prog Tryz.f190 [] = some c190 := by kernel_rfl
def c191 : SF := ⟨88,[.c true 6 8,.t 9],(sq [k 6 (.bx 59 (t 2)),k 7 (.bx 59 (t 3)),k 8 (.al 59 [.int .i64 0,.bool false,.int .i64 0,.int .i64 0,.int .i64 0,
 .int .i64 0]),o 9 (.mv (.const (.slice none 0 0)))] (sq [m 19 0,m 20 1,k 21 (.ca (.func 238) [(t 19),(t 20)]),k 22 (.ca (.func 122) [(t 21)]),o 23 (.bd [.int .i64 0,
 .bool false,.int .i64 0,.int .i64 0,.int .i64 0,.int .i64 0,.slice none 0 0] [(0,6,(t 22))]),k 24 (.bx 262 (t 23)),m 10 24] (.seq (sq [L 25 6 6,k 26 (.ca (.func 128) [(t 25)]),
 m 27 26,gL 28 27 false 6 7,⟨some 29, some (27, false),.ca (.func 128) [(t 28)]⟩,R 30 27 29] (.cond (t 30) (sq [m 31 10,k 32 (.ca (.func 239) [(t 31)]),
 e 33 32 0,e 34 32 1,kn (.st [] 6 (t 8) (t 33)),m 9 34]
 .ret)
 .skip)) (sq [L 36 6 6,k 37 (.ca (.func 218) [(t 36),(i 16)]),m 35 37,e 38 35 0,e 39 35 1,m 11 38,m 12 39] (sq [L 41 6 7,k 42 (.ca (.func 218) [(t 41),
 (i 16)]),m 40 42,e 43 40 0,e 44 40 1,m 13 43,m 14 44] (.seq (sq [m 45 12,u 46 45,m 47 46,gm 48 47 false 14,og 49 47 false (.un .not (t 48)),R 50 47 49] (.cond (t 50) (sq [m 51 10,
 m 52 0,m 53 1,L 54 6 6,L 55 6 7,k 56 (.ca (.func 240) [(t 51),(t 52),(t 53),(t 54),(t 55)])] (sq [m 57 10,k 58 (.ca (.func 239) [(t 57)]),e 59 58 0,e 60 58 1,
 kn (.st [] 6 (t 8) (t 59)),m 9 60]
 .ret))
 .skip)) (.seq (sq [m 61 11,z 62 61,w 63 0] (.block 0 (.loop (sq [p 64 .lss 63 62] (.seq (.cond (t 64)
 .skip (.exit 0)) (.seq (.block 1 (sq [x 65 1 61 63,l 66 65,m 16 66] (sq [m 67 13,z 68 67,w 69 0] (.block 2 (.loop (sq [p 70 .lss 69 68] (.seq (.cond (t 70)
 .skip (.exit 2)) (.seq (.block 3 (sq [x 71 1 67 69,l 72 71,m 18 72] (.ops [m 73 10,m 74 0,m 75 1,m 76 16,m 77 18,k 78 (.ca (.func 242) [(t 74),(t 75),
 (t 76),(t 77)]),e 79 78 0,e 80 78 1,k 81 (.ca (.func 241) [(t 73),(t 79),(t 80)])]))) (.ops [q 82 .add 69 1,m 69 82]))))))))) (.ops [q 83 .add 63 1,m 63 83]))))))) (sq [m 84 10,
 k 85 (.ca (.func 239) [(t 84)]),e 86 85 0,e 87 85 1,kn (.st [] 6 (t 8) (t 86)),m 9 87]
 .ret))))))))⟩
theorem e191 : qD Tryz.prog Tryz.f191 [] = some c191 := by kernel_rfl
def c192 : SF := ⟨8,[.t 2],(sq [w 2 0] (sq [m 3 0,m 4 0,q 5 .sub 4 1,q 6 .rem 5 2,p 7 .sub 3 6,m 2 7]
 .ret))⟩
theorem e192 : qD Tryz.prog Tryz.f192 [] = some c192 := by kernel_rfl
def c193 : SF := ⟨66,[.c true 6 6],(sq [k 5 (.bx 59 (t 2)),k 6 (.al 59 [.int .i64 0,.bool false,.int .i64 0,.int .i64 0,.int .i64 0,.int .i64 0])] (sq [m 15 1,
 k 16 (.ca (.func 74) [(t 15)]),m 7 16] (.seq (sq [L 18 6 5,k 19 (.ca (.func 218) [(t 18),(i 16)]),m 17 19,e 20 17 0,e 21 17 1,m 8 20,m 9 21] (sq [m 22 9] (.cond (t 22) (sq [m 23 7,
 k 24 (.ca (.func 122) [(t 23)]),o 25 (.bd [.int .i64 0,.bool false,.int .i64 0,.int .i64 0,.int .i64 0,.int .i64 0,.slice none 0 0] [(0,6,(t 24))]),k 26 (.bx 262 (t 25)),
 m 10 26] (.seq (sq [m 27 8,z 28 27,w 29 0] (.block 0 (.loop (sq [p 30 .lss 29 28] (.seq (.cond (t 30)
 .skip (.exit 0)) (.seq (.block 1 (sq [x 31 1 27 29,l 32 31,m 12 32] (.ops [m 33 10,m 34 0,m 35 1,m 36 12,k 37 (.ca (.func 243) [(t 34),(t 35),(t 36)]),
 k 38 (.ca (.func 241) [(t 33),(t 37),(i 0)])]))) (.ops [q 39 .add 29 1,m 29 39]))))))) (sq [m 40 10,o 41 (.nc (t 40)),f 42 0 41,L 43 6 42,kn (.st [] 6 (t 6) (t 43))]
 .ret)))
 .skip))) (sq [m 45 0,L 46 6 5,k 47 (.ca (.func 244) [(t 45),(t 46)]),m 44 47,e 48 44 0,e 49 44 1,m 13 48,m 14 49] (.seq (sq [m 50 14,m 51 13,p 52 .sub 50 51,
 m 53 7,k 54 (.ca (.func 170) [(t 53)]),p 55 .geq 52 54] (.cond (t 55) (sq [m 56 7,k 57 (.ca (.func 235) [(t 56)]),kn (.st [] 6 (t 6) (t 57))]
 .ret)
 .skip)) (sq [m 58 7,m 59 13,m 60 7,k 61 (.ca (.func 246) [(t 59),(t 60)]),m 62 14,m 63 7,k 64 (.ca (.func 246) [(t 62),(t 63)]),k 65 (.ca (.func 245) [(t 58),
 (t 61),(t 64)]),kn (.st [] 6 (t 6) (t 65))]
 .ret))))))⟩
theorem e193 : qD Tryz.prog Tryz.f193 [] = some c193 := by kernel_rfl
end Go.Proofs.Tryz.S
