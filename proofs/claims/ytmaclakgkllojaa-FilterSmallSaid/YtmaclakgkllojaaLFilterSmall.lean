/- The law FilterSmall, walked: it returns true at every input. -/
import Derived.Test.YtmaclakgkllojaaProg
import Derived.Test.YtmaclakgkllojaaK25to29
namespace Go.Proofs.Try.S
open Go Go.Ax Go.Ax.N
set_option maxRecDepth 100000

/-- cellar/cellarlaw5.FilterSmall -/
def c9 : SF := ⟨171, [.t 2], (.seq (.ops [k 1 (.bx 27 (t 0)),
 o 2 (.mv (b false))])
 (.seq (.seq (.ops [o 3 (.mv (i 0))])
 (.block 0 (.loop (.seq (.seq (.ops [o 21 (.mv (t 3)),
 o 22 (.bin .lss (t 21) (i 12))])
 (.cond (t 22)
 .skip
 (.exit 0)))
 (.seq (.block 1 (.seq (.ops [o 4 (.mv (i 0))])
 (.block 2 (.loop (.seq (.seq (.ops [o 25 (.mv (t 4)),
 o 26 (.bin .lss (t 25) (i 12))])
 (.cond (t 26)
 .skip
 (.exit 2)))
 (.seq (.block 3 (.seq (.ops [o 29 (.mv (t 3)),
 o 30 (.bin .mul (t 29) (i 41)),
 o 31 (.bin .rem (t 30) (i 256)),
 o 32 (.mv (t 3)),
 o 33 (.bin .mul (t 32) (i 41)),
 o 34 (.bin .add (t 33) (i 5)),
 o 35 (.bin .rem (t 34) (i 256)),
 o 36 (.bd [.int .i64 0, .bool false, .int .i64 0, .int .i64 0, .int .i64 0, .int .i64 0] [(0, 1, (i 8)), (2, 1, (t 31)), (3, 1, (t 35)), (4, 1, (i 255))]),
 k 5 (.al 34 [.int .i64 0, .bool false, .int .i64 0, .int .i64 0, .int .i64 0, .int .i64 0]),
 kn (.st [] 6 (t 5) (t 36))])
 (.seq (.ops [o 37 (.mv (t 4)),
 o 38 (.bin .mul (t 37) (i 43)),
 o 39 (.fa 0 (t 1)),
 o 40 (.ld false 1 (t 39)),
 o 41 (.ln (t 40)),
 o 42 (.bin .add (t 38) (t 41)),
 o 43 (.bin .rem (t 42) (i 256)),
 o 44 (.mv (t 4)),
 o 45 (.bin .mul (t 44) (i 43)),
 o 46 (.fa 0 (t 1)),
 o 47 (.ld false 1 (t 46)),
 o 48 (.ln (t 47)),
 o 49 (.bin .add (t 45) (t 48)),
 o 50 (.bin .add (t 49) (i 4)),
 o 51 (.bin .rem (t 50) (i 256)),
 o 52 (.bd [.int .i64 0, .bool false, .int .i64 0, .int .i64 0, .int .i64 0, .int .i64 0] [(0, 1, (i 8)), (2, 1, (t 43)), (3, 1, (t 51)), (4, 1, (i 255))]),
 k 6 (.al 34 [.int .i64 0, .bool false, .int .i64 0, .int .i64 0, .int .i64 0, .int .i64 0]),
 kn (.st [] 6 (t 6) (t 52))])
 (.seq (.ops [o 7 (.mv (i 0))])
 (.block 4 (.loop (.seq (.seq (.ops [o 53 (.mv (t 7)),
 o 54 (.bin .lss (t 53) (i 8))])
 (.cond (t 54)
 .skip
 (.exit 4)))
 (.seq (.block 5 (.seq (.opq [k 57 (.bs 3 2 [.int .i64 0, .int .i64 0] [(0, 1, (i 18)), (1, 1, (i 19))]),
 o 58 (.mv (t 7)),
 o 59 (.bin .rem (t 58) (i 2)),
 o 60 (.ia 1 (t 57) (t 59)),
 o 61 (.ld false 1 (t 60)),
 k 62 (.bs 3 2 [.int .i64 0, .int .i64 0] [(0, 1, (i 1)), (1, 1, (i 2))]),
 o 63 (.mv (t 7)),
 o 64 (.bin .quo (t 63) (i 2)),
 o 65 (.bin .rem (t 64) (i 2)),
 o 66 (.ia 1 (t 62) (t 65)),
 o 67 (.ld false 1 (t 66)),
 o 68 (.mv (t 7)),
 o 69 (.bin .quo (t 68) (i 4)),
 o 70 (.bin .eql (t 69) (i 0)),
 o 8 (.mv (t 61)),
 o 9 (.mv (t 67)),
 o 10 (.mv (t 70))])
 (.seq (.ops [o 72 (.mv (t 8)),
 o 73 (.mv (t 9)),
 o 74 (.ld true 6 (t 5)),
 o 75 (.ld true 6 (t 6)),
 o 76 (.mv (t 10)),
 k 77 (.ca (.func 43) [(t 72), (t 73), (t 74), (t 75), (t 76)]),
 o 71 (.mv (t 77)),
 o 78 (.ex (t 71) 0),
 o 79 (.ex (t 71) 1),
 o 80 (.ex (t 71) 2),
 k 11 (.al 34 [.int .i64 0, .bool false, .int .i64 0, .int .i64 0, .int .i64 0, .int .i64 0]),
 k 12 (.al 34 [.int .i64 0, .bool false, .int .i64 0, .int .i64 0, .int .i64 0, .int .i64 0]),
 kn (.st [] 6 (t 11) (t 78)),
 kn (.st [] 6 (t 12) (t 79)),
 o 13 (.mv (t 80))])
 (.seq (.seq (.ops [o 81 (.mv (t 13)),
 k 82 (.ca (.func 37) [(t 81)]),
 o 83 (.bin .neq (t 82) (i 0)),
 o 84 (.mv (t 83)),
 og 85 84 false (.ld true 6 (t 11)),
 ⟨some 86, some (84, false), .ca (.func 36) [(t 85)]⟩,
 og 87 84 false (.un .not (t 86)),
 o 88 (.pick (t 84) (b true) (t 87)),
 o 89 (.mv (t 88)),
 og 90 89 false (.ld true 6 (t 12)),
 ⟨some 91, some (89, false), .ca (.func 36) [(t 90)]⟩,
 og 92 89 false (.un .not (t 91)),
 o 93 (.pick (t 89) (b true) (t 92)),
 o 94 (.mv (t 93)),
 og 95 94 false (.fa 0 (t 11)),
 og 96 94 false (.ld false 1 (t 95)),
 og 97 94 false (.bin .neq (t 96) (i 8)),
 o 98 (.pick (t 94) (b true) (t 97)),
 o 99 (.mv (t 98)),
 og 100 99 false (.fa 0 (t 12)),
 og 101 99 false (.ld false 1 (t 100)),
 og 102 99 false (.bin .neq (t 101) (i 8)),
 o 103 (.pick (t 99) (b true) (t 102))])
 (.cond (t 103)
 (.seq (.ops [o 2 (.mv (b false))])
 .ret)
 .skip))
 (.seq (.seq (.ops [o 14 (.mv (i 0))])
 (.block 6 (.loop (.seq (.seq (.ops [o 104 (.mv (t 14)),
 o 105 (.bin .lss (t 104) (i 256))])
 (.cond (t 105)
 .skip
 (.exit 6)))
 (.seq (.block 7 (.seq (.ops [o 108 (.ld true 6 (t 11)),
 o 109 (.mv (t 14)),
 k 110 (.ca (.func 40) [(t 108), (t 109)]),
 o 111 (.mv (t 110)),
 og 112 111 true (.ld true 6 (t 5)),
 og 113 111 true (.mv (t 14)),
 ⟨some 114, some (111, true), .ca (.func 40) [(t 112), (t 113)]⟩,
 og 115 111 true (.un .not (t 114)),
 o 116 (.pick (t 111) (t 115) (b false)),
 o 117 (.mv (t 116)),
 og 118 117 false (.ld true 6 (t 12)),
 og 119 117 false (.mv (t 14)),
 ⟨some 120, some (117, false), .ca (.func 40) [(t 118), (t 119)]⟩,
 og 121 117 false (.mv (t 120)),
 og 122 121 true (.ld true 6 (t 6)),
 og 123 121 true (.mv (t 14)),
 ⟨some 124, some (121, true), .ca (.func 40) [(t 122), (t 123)]⟩,
 og 125 121 true (.un .not (t 124)),
 og 126 117 false (.pick (t 121) (t 125) (b false)),
 o 127 (.pick (t 117) (b true) (t 126))])
 (.cond (t 127)
 (.seq (.ops [o 2 (.mv (b false))])
 .ret)
 .skip)))
 (.ops [o 106 (.mv (t 14)),
 o 107 (.bin .add (t 106) (i 1)),
 o 14 (.mv (t 107))]))))))
 (.seq (.ops [o 15 (.mv (i 0))])
 (.block 8 (.loop (.seq (.seq (.ops [o 128 (.mv (t 15)),
 o 129 (.bin .lss (t 128) (i 6))])
 (.cond (t 129)
 .skip
 (.exit 8)))
 (.seq (.block 9 (.seq (.ops [o 16 (.mv (i 0))])
 (.block 10 (.loop (.seq (.seq (.ops [o 132 (.mv (t 16)),
 o 133 (.bin .lss (t 132) (i 5))])
 (.cond (t 133)
 .skip
 (.exit 10)))
 (.seq (.block 11 (.seq (.opq [o 136 (.fa 2 (t 5)),
 o 137 (.ld false 1 (t 136)),
 o 138 (.mv (t 15)),
 o 139 (.bin .add (t 137) (t 138)),
 o 140 (.bin .rem (t 139) (i 256)),
 o 141 (.fa 2 (t 6)),
 o 142 (.ld false 1 (t 141)),
 o 143 (.mv (t 16)),
 o 144 (.bin .add (t 142) (t 143)),
 o 145 (.bin .rem (t 144) (i 256)),
 o 17 (.mv (t 140)),
 o 18 (.mv (t 145))])
 (.seq (.ops [o 147 (.mv (t 8)),
 o 148 (.mv (t 9)),
 o 149 (.mv (t 17)),
 o 150 (.mv (t 18)),
 k 151 (.ca (.func 44) [(t 147), (t 148), (t 149), (t 150)]),
 o 146 (.mv (t 151)),
 o 152 (.ex (t 146) 0),
 o 153 (.ex (t 146) 1),
 o 19 (.mv (t 152)),
 o 20 (.mv (t 153))])
 (.seq (.ops [o 154 (.mv (t 19)),
 o 155 (.bin .eql (t 154) (i 1)),
 o 156 (.mv (t 10)),
 o 157 (.eqb false (t 155) (t 156)),
 o 158 (.mv (t 157)),
 og 159 158 true (.ld true 6 (t 11)),
 og 160 158 true (.mv (t 17)),
 ⟨some 161, some (158, true), .ca (.func 40) [(t 159), (t 160)]⟩,
 og 162 158 true (.un .not (t 161)),
 og 163 158 true (.mv (t 162)),
 og 164 163 false (.ld true 6 (t 12)),
 og 165 163 false (.mv (t 18)),
 ⟨some 166, some (163, false), .ca (.func 40) [(t 164), (t 165)]⟩,
 og 167 163 false (.un .not (t 166)),
 og 168 158 true (.pick (t 163) (b true) (t 167)),
 o 169 (.pick (t 158) (t 168) (b false))])
 (.cond (t 169)
 (.seq (.ops [o 2 (.mv (b false))])
 .ret)
 .skip)))))
 (.ops [o 134 (.mv (t 16)),
 o 135 (.bin .add (t 134) (i 1)),
 o 16 (.mv (t 135))])))))))
 (.ops [o 130 (.mv (t 15)),
 o 131 (.bin .add (t 130) (i 1)),
 o 15 (.mv (t 131))])))))))))))
 (.ops [o 55 (.mv (t 7)),
 o 56 (.bin .add (t 55) (i 1)),
 o 7 (.mv (t 56))])))))))))
 (.ops [o 27 (.mv (t 4)),
 o 28 (.bin .add (t 27) (i 1)),
 o 4 (.mv (t 28))])))))))
 (.ops [o 23 (.mv (t 3)),
 o 24 (.bin .add (t 23) (i 1)),
 o 3 (.mv (t 24))]))))))
 (.seq (.ops [k 170 (.ca (.func 42) []),
 o 2 (.mv (t 170))])
 .ret)))⟩
theorem e9 : slimF Try.prog Try.f9 [[(0, []), (1, []), (2, []), (3, []), (4, []), (5, []), (6, []), (7, []), (8, []), (9, []), (10, []), (11, []), (12, []), (13, []), (14, []), (15, []), (16, [])], [(0, []), (1, []), (2, []), (3, []), (4, []), (5, []), (6, []), (7, []), (8, []), (9, []), (10, []), (11, [])]] = some c9 := by kernel_rfl
end Go.Proofs.Try.S
namespace Go.Proofs.Ytmaclakgkllojaa.filterSmall
open Go Go.Ax Go.Proofs.Try.S Go.Proofs.Try.K
set_option maxRecDepth 100000
set_option linter.unusedSimpArgs false
set_option linter.unusedVariables false
set_option maxHeartbeats 4000000

/-- A short range of bytes, over the end too. -/
structure Arc (v : V) (l : Int) (d : Int) : Prop where
  ok : v.ok = true
  w : v.w = 8
  low : v.low = l
  l0 : 0 ≤ l
  l1 : l ≤ 255
  has : ∀ s : Nat, (s : Int) ≤ d → v.has ((l + s) % 256) = true
theorem arc_of {x d : Int} (hx : 0 ≤ x) (hd : 0 < d) (hd2 : d < 100) : Arc ⟨8, false, x % 256, (x + d) % 256, 255, 0⟩ (x % 256) d := by
  have e : V.mk 8 false (x % 256) ((x + d) % 256) 255 0 = V.span 8 (x % 256) ((x + d) % 256) := by
    have m8 : mostV 8 = 255 := by decide
    unfold V.span
    rw [if_neg (by omega), m8]
  have i1 : isN (x % 256) 8 = true := by
    have m8 : mostV 8 = 255 := by decide
    simp only [isN, m8, Bool.and_eq_true, decide_eq_true_eq]; omega
  have i2 : isN ((x + d) % 256) 8 = true := by
    have m8 : mostV 8 = 255 := by decide
    simp only [isN, m8, Bool.and_eq_true, decide_eq_true_eq]; omega
  have so := span_ok (w := 8) (by decide) i1 i2
  refine ⟨by rw [e]; exact so.1, rfl, rfl, by omega, by omega, fun s hs => ?_⟩
  rw [e, span_has (by decide) (by omega) (by have m8 : mostV 8 = 255 := by decide
                                             omega) i1 i2]
  omega
structure B0 (F0 : Fz) (r : Nat) (ask : List Value) (σ : Env) (F : Fz) (M : Hp) : Prop where
  f : F = F0
  old : Old F0 M
  fr : M r = some ⟨ask, 27, 2⟩
  h1 : Ax.look σ 1 = some (.pointer (some ⟨r, 0, none⟩))
def oI (F0 : Fz) (r : Nat) (ask : List Value) (m : Nat) (σ : Env) (F : Fz) (M : Hp) : Prop :=
  B0 F0 r ask σ F M ∧ ∃ i : Nat, i + m = 12 ∧ Ax.look σ 3 = some (.int .i64 i)
def kI (F0 : Fz) (r : Nat) (ask : List Value) (i : Nat) (m : Nat) (σ : Env) (F : Fz) (M : Hp) : Prop :=
  B0 F0 r ask σ F M ∧ Ax.look σ 3 = some (.int .i64 i) ∧ ∃ k : Nat, k + m = 12 ∧ Ax.look σ 4 = some (.int .i64 k)
structure B1 (F0 : Fz) (r : Nat) (ask : List Value) (i k r5 r6 : Nat) (a b : V) (σ : Env) (F : Fz) (M : Hp) : Prop extends B0 F0 r ask σ F M where
  h3 : Ax.look σ 3 = some (.int .i64 i)
  h4 : Ax.look σ 4 = some (.int .i64 k)
  h5 : Ax.look σ 5 = some (.pointer (some ⟨r5, 0, none⟩))
  h6 : Ax.look σ 6 = some (.pointer (some ⟨r6, 0, none⟩))
  f5 : M r5 = some ⟨a.cs, 34, 6⟩
  f6 : M r6 = some ⟨b.cs, 34, 6⟩
def qI (F0 : Fz) (r : Nat) (ask : List Value) (i k r5 r6 : Nat) (a b : V) (m : Nat) (σ : Env) (F : Fz) (M : Hp) : Prop :=
  B1 F0 r ask i k r5 r6 a b σ F M ∧ ∃ q : Nat, q + m = 8 ∧ Ax.look σ 7 = some (.int .i64 q)
structure B2 (F0 : Fz) (r : Nat) (ask : List Value) (i k r5 r6 q r11 r12 : Nat) (op kd : Int) (a b x y : V) (yes : Bool) (σ : Env) (F : Fz) (M : Hp) : Prop extends B1 F0 r ask i k r5 r6 a b σ F M where
  h7 : Ax.look σ 7 = some (.int .i64 q)
  h8 : Ax.look σ 8 = some (.int .i64 op)
  h9 : Ax.look σ 9 = some (.int .i64 kd)
  h10 : Ax.look σ 10 = some (.bool yes)
  h11 : Ax.look σ 11 = some (.pointer (some ⟨r11, 0, none⟩))
  h12 : Ax.look σ 12 = some (.pointer (some ⟨r12, 0, none⟩))
  f11 : M r11 = some ⟨x.cs, 34, 6⟩
  f12 : M r12 = some ⟨y.cs, 34, 6⟩
section
variable {F0 : Fz} {r : Nat} {ask : List Value} {i k r5 r6 q r11 r12 : Nat} {op kd : Int} {a b x y : V} {yes : Bool} {σ σ' : Env} {F : Fz} {M M' : Hp}
theorem B1.ext (s : B1 F0 r ask i k r5 r6 a b σ F M) (e1 : Ax.look σ' 1 = Ax.look σ 1) (e3 : Ax.look σ' 3 = Ax.look σ 3) (e4 : Ax.look σ' 4 = Ax.look σ 4) (e5 : Ax.look σ' 5 = Ax.look σ 5) (e6 : Ax.look σ' 6 = Ax.look σ 6) : B1 F0 r ask i k r5 r6 a b σ' F M :=
  ⟨⟨s.f, s.old, s.fr, e1.trans s.h1⟩, e3.trans s.h3, e4.trans s.h4, e5.trans s.h5, e6.trans s.h6, s.f5, s.f6⟩
theorem B1.grow (s : B1 F0 r ask i k r5 r6 a b σ F M) (kk : Keep M M') (o : Old F0 M') : B1 F0 r ask i k r5 r6 a b σ F M' :=
  ⟨⟨s.f, o, kk _ _ s.fr, s.h1⟩, s.h3, s.h4, s.h5, s.h6, kk _ _ s.f5, kk _ _ s.f6⟩
theorem B2.ext (s : B2 F0 r ask i k r5 r6 q r11 r12 op kd a b x y yes σ F M) (e1 : Ax.look σ' 1 = Ax.look σ 1) (e3 : Ax.look σ' 3 = Ax.look σ 3) (e4 : Ax.look σ' 4 = Ax.look σ 4) (e5 : Ax.look σ' 5 = Ax.look σ 5) (e6 : Ax.look σ' 6 = Ax.look σ 6)
    (e7 : Ax.look σ' 7 = Ax.look σ 7) (e8 : Ax.look σ' 8 = Ax.look σ 8) (e9 : Ax.look σ' 9 = Ax.look σ 9) (e10 : Ax.look σ' 10 = Ax.look σ 10) (e11 : Ax.look σ' 11 = Ax.look σ 11) (e12 : Ax.look σ' 12 = Ax.look σ 12) : B2 F0 r ask i k r5 r6 q r11 r12 op kd a b x y yes σ' F M :=
  ⟨s.toB1.ext e1 e3 e4 e5 e6, e7.trans s.h7, e8.trans s.h8, e9.trans s.h9, e10.trans s.h10, e11.trans s.h11, e12.trans s.h12, s.f11, s.f12⟩
end
def J0 (F0 : Fz) (r : Nat) (ask : List Value) (i k r5 r6 q : Nat) (a b : V) (σ : Env) (F : Fz) (M : Hp) : Prop :=
  B1 F0 r ask i k r5 r6 a b σ F M ∧ Ax.look σ 7 = some (.int .i64 q) ∧ ∃ (op kd : Int) (yes : Bool), (op = 18 ∨ op = 19) ∧ (kd = 1 ∨ kd = 2) ∧ Ax.look σ 8 = some (.int .i64 op) ∧ Ax.look σ 9 = some (.int .i64 kd) ∧ Ax.look σ 10 = some (.bool yes)
def nI (F0 : Fz) (r : Nat) (ask : List Value) (i k r5 r6 q r11 r12 : Nat) (op kd : Int) (a b x y : V) (yes : Bool) (m : Nat) (σ : Env) (F : Fz) (M : Hp) : Prop :=
  B2 F0 r ask i k r5 r6 q r11 r12 op kd a b x y yes σ F M ∧ ∃ n : Nat, n + m = 256 ∧ Ax.look σ 14 = some (.int .i64 n)
def sI (F0 : Fz) (r : Nat) (ask : List Value) (i k r5 r6 q r11 r12 : Nat) (op kd : Int) (a b x y : V) (yes : Bool) (m : Nat) (σ : Env) (F : Fz) (M : Hp) : Prop :=
  B2 F0 r ask i k r5 r6 q r11 r12 op kd a b x y yes σ F M ∧ ∃ n : Nat, n + m = 6 ∧ Ax.look σ 15 = some (.int .i64 n)
def tI (F0 : Fz) (r : Nat) (ask : List Value) (i k r5 r6 q r11 r12 : Nat) (op kd : Int) (a b x y : V) (yes : Bool) (s : Nat) (m : Nat) (σ : Env) (F : Fz) (M : Hp) : Prop :=
  B2 F0 r ask i k r5 r6 q r11 r12 op kd a b x y yes σ F M ∧ Ax.look σ 15 = some (.int .i64 s) ∧ ∃ n : Nat, n + m = 5 ∧ Ax.look σ 16 = some (.int .i64 n)
def sI2 (F0 : Fz) (r : Nat) (ask : List Value) (i k r5 r6 q r11 r12 : Nat) (op kd : Int) (a b x y : V) (yes : Bool) (σ : Env) (F : Fz) (M : Hp) : Prop :=
  B2 F0 r ask i k r5 r6 q r11 r12 op kd a b x y yes σ F M

theorem call (W : World) (cs : List Value) (h : Rd (fzOf W) (.cons 1 (.slice 6 48 (.cons 1 (.int .i64) (.cons 1 .bool (.cons 1 (.int .i64) (.cons 1 (.int .i64) (.cons 1 (.int .i64) (.cons 1 (.int .i64) .nil))))))) (.cons 1 (.slice 1 8 (.int .i64)) .nil)) cs) :
  CallsA Try.prog 9 [.agg cs.toArray] (fzOf W) noHp fun r _ _ => r = .bool true := by
  obtain ⟨vV, vN, rfl, hV, hN⟩ := rd_ask h
  obtain ⟨aV, cV, lv, rfl, hlV, _, hlen, _, hcV⟩ := rd_Vs hV
  refine callsA_of hm Try.func9 e9 (Nat.le_of_ble_eq_true rfl) ?_
  simp only [c9, go_sem, reduceCtorEq, reduceIte, Nat.reduceEqDiff, Nat.reduceAdd, Nat.reduceLeDiff, Nat.reduceMul, Int.reduceLT, Int.reduceLE, Int.reduceAdd, Int.reduceSub, Int.reduceMul, Int.reduceNeg, Int.reduceToNat, Int.reduceEq]
  intro r hF hM
  simp only [go_sem, reduceCtorEq, reduceIte, Nat.reduceEqDiff, Nat.reduceAdd, Nat.reduceLeDiff, Nat.reduceMul, Int.reduceLT, Int.reduceLE, Int.reduceAdd, Int.reduceSub, Int.reduceMul, Int.reduceNeg, Int.reduceToNat, Int.reduceEq]
  refine loop_of (oI (fzOf W) r [.slice aV lv.length cV, vN]) 12 ?_ ?_
  · exact ⟨⟨rfl, (Old.start _).upd hF, Hp.upd_same _ _ _, by simp only [go_sem, reduceCtorEq, reduceIte, Nat.reduceEqDiff, Nat.reduceAdd, Nat.reduceLeDiff, Nat.reduceMul, Int.reduceLT, Int.reduceLE, Int.reduceAdd, Int.reduceSub, Int.reduceMul, Int.reduceNeg, Int.reduceToNat, Int.reduceEq]⟩, 0, by omega, by simp only [go_sem, reduceCtorEq, reduceIte, Nat.reduceEqDiff, Nat.reduceAdd, Nat.reduceLeDiff, Nat.reduceMul, Int.reduceLT, Int.reduceLE, Int.reduceAdd, Int.reduceSub, Int.reduceMul, Int.reduceNeg, Int.reduceToNat, Int.reduceEq] <;> rfl⟩
  rintro mo σ F M ⟨s, i, hi, h3⟩
  obtain rfl := s.f
  by_cases hil : (i : Int) < 12
  rotate_left
  · simp only [go_sem, reduceCtorEq, reduceIte, Nat.reduceEqDiff, Nat.reduceAdd, Nat.reduceLeDiff, Nat.reduceMul, Int.reduceLT, Int.reduceLE, Int.reduceAdd, Int.reduceSub, Int.reduceMul, Int.reduceNeg, Int.reduceToNat, Int.reduceEq, s.h1, h3, hil]
    refine callK_same (k42 _ _) ?_
    simp only [go_sem, reduceCtorEq, reduceIte, Nat.reduceEqDiff, Nat.reduceAdd, Nat.reduceLeDiff, Nat.reduceMul, Int.reduceLT, Int.reduceLE, Int.reduceAdd, Int.reduceSub, Int.reduceMul, Int.reduceNeg, Int.reduceToNat, Int.reduceEq]
    exact endK_same rfl
  have ei : IntKind.i64.wrap ((i : Int) + 1) = i + 1 := w64 (by omega) (by omega)
  simp only [go_sem, reduceCtorEq, reduceIte, Nat.reduceEqDiff, Nat.reduceAdd, Nat.reduceLeDiff, Nat.reduceMul, Int.reduceLT, Int.reduceLE, Int.reduceAdd, Int.reduceSub, Int.reduceMul, Int.reduceNeg, Int.reduceToNat, Int.reduceEq, s.h1, h3, hil]
  refine loop_of (kI (fzOf W) r [.slice aV lv.length cV, vN] i) 12 ?_ ?_
  · exact ⟨⟨rfl, s.old, s.fr, by simp only [go_sem, reduceCtorEq, reduceIte, Nat.reduceEqDiff, Nat.reduceAdd, Nat.reduceLeDiff, Nat.reduceMul, Int.reduceLT, Int.reduceLE, Int.reduceAdd, Int.reduceSub, Int.reduceMul, Int.reduceNeg, Int.reduceToNat, Int.reduceEq, s.h1]⟩, by simp only [go_sem, reduceCtorEq, reduceIte, Nat.reduceEqDiff, Nat.reduceAdd, Nat.reduceLeDiff, Nat.reduceMul, Int.reduceLT, Int.reduceLE, Int.reduceAdd, Int.reduceSub, Int.reduceMul, Int.reduceNeg, Int.reduceToNat, Int.reduceEq, h3], 0, by omega, by simp only [go_sem, reduceCtorEq, reduceIte, Nat.reduceEqDiff, Nat.reduceAdd, Nat.reduceLeDiff, Nat.reduceMul, Int.reduceLT, Int.reduceLE, Int.reduceAdd, Int.reduceSub, Int.reduceMul, Int.reduceNeg, Int.reduceToNat, Int.reduceEq] <;> rfl⟩
  clear h3
  clear s
  rintro mk σ F M ⟨s, h3, k, hk, h4⟩
  obtain rfl := s.f
  by_cases hkl : (k : Int) < 12
  rotate_left
  · simp only [go_sem, reduceCtorEq, reduceIte, Nat.reduceEqDiff, Nat.reduceAdd, Nat.reduceLeDiff, Nat.reduceMul, Int.reduceLT, Int.reduceLE, Int.reduceAdd, Int.reduceSub, Int.reduceMul, Int.reduceNeg, Int.reduceToNat, Int.reduceEq, s.h1, h3, h4, hkl, ei]
    exact ⟨mo - 1, by omega, ⟨rfl, s.old, s.fr, by simp only [go_sem, reduceCtorEq, reduceIte, Nat.reduceEqDiff, Nat.reduceAdd, Nat.reduceLeDiff, Nat.reduceMul, Int.reduceLT, Int.reduceLE, Int.reduceAdd, Int.reduceSub, Int.reduceMul, Int.reduceNeg, Int.reduceToNat, Int.reduceEq, s.h1]⟩, i + 1, by omega, by simp only [go_sem, reduceCtorEq, reduceIte, Nat.reduceEqDiff, Nat.reduceAdd, Nat.reduceLeDiff, Nat.reduceMul, Int.reduceLT, Int.reduceLE, Int.reduceAdd, Int.reduceSub, Int.reduceMul, Int.reduceNeg, Int.reduceToNat, Int.reduceEq]; rfl⟩
  have ek : IntKind.i64.wrap ((k : Int) + 1) = k + 1 := w64 (by omega) (by omega)
  have n256 : ¬ (256 : Int) = 0 := by decide
  have e1 : IntKind.i64.wrap ((i : Int) * 41) = i * 41 := w64 (by omega) (by omega)
  have e2 : IntKind.i64.wrap ((i : Int) * 41 + 5) = i * 41 + 5 := w64 (by omega) (by omega)
  have e3 : ((i : Int) * 41).tmod 256 = (i * 41) % 256 := Int.tmod_eq_emod_of_nonneg (by omega)
  have e4 : ((i : Int) * 41 + 5).tmod 256 = (i * 41 + 5) % 256 := Int.tmod_eq_emod_of_nonneg (by omega)
  have e5 : IntKind.i64.wrap ((k : Int) * 43) = k * 43 := w64 (by omega) (by omega)
  have e6 : IntKind.i64.wrap ((k : Int) * 43 + lv.length) = k * 43 + lv.length := w64 (by omega) (by omega)
  have e7 : IntKind.i64.wrap ((k : Int) * 43 + lv.length + 4) = k * 43 + lv.length + 4 := w64 (by omega) (by omega)
  have e8 : ((k : Int) * 43 + lv.length).tmod 256 = (k * 43 + lv.length) % 256 := Int.tmod_eq_emod_of_nonneg (by omega)
  have e9 : ((k : Int) * 43 + lv.length + 4).tmod 256 = (k * 43 + lv.length + 4) % 256 := Int.tmod_eq_emod_of_nonneg (by omega)
  have br := blk_M (F := fzOf W) s.fr
  have arcA := arc_of (x := (i : Int) * 41) (d := 5) (by omega) (by omega) (by omega)
  have arcB := arc_of (x := (k : Int) * 43 + lv.length) (d := 4) (by omega) (by omega) (by omega)
  simp only [go_sem, reduceCtorEq, reduceIte, Nat.reduceEqDiff, Nat.reduceAdd, Nat.reduceLeDiff, Nat.reduceMul, Int.reduceLT, Int.reduceLE, Int.reduceAdd, Int.reduceSub, Int.reduceMul, Int.reduceNeg, Int.reduceToNat, Int.reduceEq, s.h1, h3, h4, hkl, e1, e2, e3, e4, n256, not_false_eq_true]
  intro r5 hF5 hM5
  have g5 := ne_of_none hM5 s.fr
  simp only [go_sem, reduceCtorEq, reduceIte, Nat.reduceEqDiff, Nat.reduceAdd, Nat.reduceLeDiff, Nat.reduceMul, Int.reduceLT, Int.reduceLE, Int.reduceAdd, Int.reduceSub, Int.reduceMul, Int.reduceNeg, Int.reduceToNat, Int.reduceEq, s.h1, h3, h4, br, g5, e5, e6, e7, e8, e9, n256, not_false_eq_true]
  intro r6 hF6 hM6
  have g6 := fresh_of hM6
  simp only [go_sem, reduceCtorEq, reduceIte, Nat.reduceEqDiff, Nat.reduceAdd, Nat.reduceLeDiff, Nat.reduceMul, Int.reduceLT, Int.reduceLE, Int.reduceAdd, Int.reduceSub, Int.reduceMul, Int.reduceNeg, Int.reduceToNat, Int.reduceEq, s.h1, h3, h4, g6]
  have kk := ((Keep.refl M).new hM5 (e := ⟨(V.mk 8 false ((i : Int) * 41 % 256) (((i : Int) * 41 + 5) % 256) 255 0).cs, 34, 6⟩)).new g6.2.2 (e := ⟨(V.mk 8 false (((k : Int) * 43 + lv.length) % 256) (((k : Int) * 43 + lv.length + 4) % 256) 255 0).cs, 34, 6⟩)
  have oo := (s.old.upd hF5 (e := ⟨(V.mk 8 false ((i : Int) * 41 % 256) (((i : Int) * 41 + 5) % 256) 255 0).cs, 34, 6⟩)).upd hF6 (e := ⟨(V.mk 8 false (((k : Int) * 43 + lv.length) % 256) (((k : Int) * 43 + lv.length + 4) % 256) 255 0).cs, 34, 6⟩)
  refine loop_of (qI (fzOf W) r [.slice aV lv.length cV, vN] i k r5 r6 (V.mk 8 false ((i : Int) * 41 % 256) (((i : Int) * 41 + 5) % 256) 255 0) (V.mk 8 false (((k : Int) * 43 + lv.length) % 256) (((k : Int) * 43 + lv.length + 4) % 256) 255 0)) 8 ?_ ?_
  · exact ⟨⟨⟨rfl, oo, kk _ _ s.fr, by simp only [go_sem, reduceCtorEq, reduceIte, Nat.reduceEqDiff, Nat.reduceAdd, Nat.reduceLeDiff, Nat.reduceMul, Int.reduceLT, Int.reduceLE, Int.reduceAdd, Int.reduceSub, Int.reduceMul, Int.reduceNeg, Int.reduceToNat, Int.reduceEq, s.h1]⟩, by simp only [go_sem, reduceCtorEq, reduceIte, Nat.reduceEqDiff, Nat.reduceAdd, Nat.reduceLeDiff, Nat.reduceMul, Int.reduceLT, Int.reduceLE, Int.reduceAdd, Int.reduceSub, Int.reduceMul, Int.reduceNeg, Int.reduceToNat, Int.reduceEq, h3], by simp only [go_sem, reduceCtorEq, reduceIte, Nat.reduceEqDiff, Nat.reduceAdd, Nat.reduceLeDiff, Nat.reduceMul, Int.reduceLT, Int.reduceLE, Int.reduceAdd, Int.reduceSub, Int.reduceMul, Int.reduceNeg, Int.reduceToNat, Int.reduceEq, h4], by simp only [go_sem, reduceCtorEq, reduceIte, Nat.reduceEqDiff, Nat.reduceAdd, Nat.reduceLeDiff, Nat.reduceMul, Int.reduceLT, Int.reduceLE, Int.reduceAdd, Int.reduceSub, Int.reduceMul, Int.reduceNeg, Int.reduceToNat, Int.reduceEq], by simp only [go_sem, reduceCtorEq, reduceIte, Nat.reduceEqDiff, Nat.reduceAdd, Nat.reduceLeDiff, Nat.reduceMul, Int.reduceLT, Int.reduceLE, Int.reduceAdd, Int.reduceSub, Int.reduceMul, Int.reduceNeg, Int.reduceToNat, Int.reduceEq], by rw [Hp.upd_ne' g6.2.1]; exact Hp.upd_same _ _ _, Hp.upd_same _ _ _⟩, 0, by omega, by simp only [go_sem, reduceCtorEq, reduceIte, Nat.reduceEqDiff, Nat.reduceAdd, Nat.reduceLeDiff, Nat.reduceMul, Int.reduceLT, Int.reduceLE, Int.reduceAdd, Int.reduceSub, Int.reduceMul, Int.reduceNeg, Int.reduceToNat, Int.reduceEq] <;> rfl⟩
  generalize V.mk 8 false ((i : Int) * 41 % 256) (((i : Int) * 41 + 5) % 256) 255 0 = a at *
  generalize V.mk 8 false (((k : Int) * 43 + lv.length) % 256) (((k : Int) * 43 + lv.length + 4) % 256) 255 0 = b at *
  generalize (i : Int) * 41 % 256 = la at *
  generalize ((k : Int) * 43 + lv.length) % 256 = lb at *
  clear kk oo g5 g6 br h3 h4 hM5 hM6 hF5 hF6
  clear s
  rintro mq σ F M ⟨s, q, hq, h7⟩
  obtain rfl := s.f
  by_cases hql : (q : Int) < 8
  rotate_left
  · simp only [go_sem, reduceCtorEq, reduceIte, Nat.reduceEqDiff, Nat.reduceAdd, Nat.reduceLeDiff, Nat.reduceMul, Int.reduceLT, Int.reduceLE, Int.reduceAdd, Int.reduceSub, Int.reduceMul, Int.reduceNeg, Int.reduceToNat, Int.reduceEq, s.h1, s.h3, s.h4, h7, hql, ek]
    exact ⟨mk - 1, by omega, ⟨rfl, s.old, s.fr, by simp only [go_sem, reduceCtorEq, reduceIte, Nat.reduceEqDiff, Nat.reduceAdd, Nat.reduceLeDiff, Nat.reduceMul, Int.reduceLT, Int.reduceLE, Int.reduceAdd, Int.reduceSub, Int.reduceMul, Int.reduceNeg, Int.reduceToNat, Int.reduceEq, s.h1]⟩, by simp only [go_sem, reduceCtorEq, reduceIte, Nat.reduceEqDiff, Nat.reduceAdd, Nat.reduceLeDiff, Nat.reduceMul, Int.reduceLT, Int.reduceLE, Int.reduceAdd, Int.reduceSub, Int.reduceMul, Int.reduceNeg, Int.reduceToNat, Int.reduceEq, s.h3], k + 1, by omega, by simp only [go_sem, reduceCtorEq, reduceIte, Nat.reduceEqDiff, Nat.reduceAdd, Nat.reduceLeDiff, Nat.reduceMul, Int.reduceLT, Int.reduceLE, Int.reduceAdd, Int.reduceSub, Int.reduceMul, Int.reduceNeg, Int.reduceToNat, Int.reduceEq]; rfl⟩
  have eq : IntKind.i64.wrap ((q : Int) + 1) = q + 1 := w64 (by omega) (by omega)
  simp only [go_sem, reduceCtorEq, reduceIte, Nat.reduceEqDiff, Nat.reduceAdd, Nat.reduceLeDiff, Nat.reduceMul, Int.reduceLT, Int.reduceLE, Int.reduceAdd, Int.reduceSub, Int.reduceMul, Int.reduceNeg, Int.reduceToNat, Int.reduceEq, s.h1, s.h3, s.h4, h7, hql]
  intro r57 hF57 hM57
  refine ops_cut (J0 (fzOf W) r [.slice aV lv.length cV, vN] i k r5 r6 q a b) ?_ ?_
  · have n2 : ¬ (2 : Int) = 0 := by decide
    have n4 : ¬ (4 : Int) = 0 := by decide
    have t1 : (q : Int).tmod 2 = ((q % 2 : Nat) : Int) := by rw [Int.tmod_eq_emod_of_nonneg (by omega)]; rfl
    have t2 : (q : Int).tdiv 2 = ((q / 2 : Nat) : Int) := by rw [Int.tdiv_eq_ediv_of_nonneg (by omega)]; rfl
    have t3 : IntKind.i64.wrap ((q / 2 : Nat) : Int) = ((q / 2 : Nat) : Int) := w64 (by omega) (by omega)
    have t4 : ((q / 2 : Nat) : Int).tmod 2 = ((q / 2 % 2 : Nat) : Int) := by rw [Int.tmod_eq_emod_of_nonneg (by omega)]; rfl
    have t5 : (0 : Int) ≤ ((q % 2 : Nat) : Int) := by omega
    have t6 : ((q % 2 : Nat) : Int) < 2 := by omega
    have t7 : (0 : Int) ≤ ((q / 2 % 2 : Nat) : Int) := by omega
    have t8 : ((q / 2 % 2 : Nat) : Int) < 2 := by omega
    have c1 : ∃ op : Int, (op = 18 ∨ op = 19) ∧ [Value.int .i64 18, Value.int .i64 19][q % 2]? = some (.int .i64 op) := by
      rcases (by omega : q % 2 = 0 ∨ q % 2 = 1) with e | e
      · exact ⟨18, .inl rfl, by rw [e]; rfl⟩
      · exact ⟨19, .inr rfl, by rw [e]; rfl⟩
    have c2 : ∃ kd : Int, (kd = 1 ∨ kd = 2) ∧ [Value.int .i64 1, Value.int .i64 2][q / 2 % 2]? = some (.int .i64 kd) := by
      rcases (by omega : q / 2 % 2 = 0 ∨ q / 2 % 2 = 1) with e | e
      · exact ⟨1, .inl rfl, by rw [e]; rfl⟩
      · exact ⟨2, .inr rfl, by rw [e]; rfl⟩
    obtain ⟨op, hop, c1⟩ := c1
    obtain ⟨kd, hkd, c2⟩ := c2
    simp only [go_sem, reduceCtorEq, reduceIte, Nat.reduceEqDiff, Nat.reduceAdd, Nat.reduceLeDiff, Nat.reduceMul, Int.reduceLT, Int.reduceLE, Int.reduceAdd, Int.reduceSub, Int.reduceMul, Int.reduceNeg, Int.reduceToNat, Int.reduceEq, s.h1, s.h3, s.h4, h7, n2, t1, t5, t6, Int.toNat_natCast, Nat.mul_one, c1, not_false_eq_true]
    intro r62 hF62 hM62
    have g62 := fresh_of hM62
    simp only [go_sem, reduceCtorEq, reduceIte, Nat.reduceEqDiff, Nat.reduceAdd, Nat.reduceLeDiff, Nat.reduceMul, Int.reduceLT, Int.reduceLE, Int.reduceAdd, Int.reduceSub, Int.reduceMul, Int.reduceNeg, Int.reduceToNat, Int.reduceEq, s.h1, s.h3, s.h4, h7, n2, n4, t2, t3, t4, t7, t8, Int.toNat_natCast, Nat.mul_one, c2, not_false_eq_true]
    have kk := ((Keep.refl M).new hM57 (e := ⟨[.int .i64 18, .int .i64 19], 3, 2⟩)).new g62.2.2 (e := ⟨[.int .i64 1, .int .i64 2], 3, 2⟩)
    have oo := (s.old.upd hF57 (e := ⟨[.int .i64 18, .int .i64 19], 3, 2⟩)).upd hF62 (e := ⟨[.int .i64 1, .int .i64 2], 3, 2⟩)
    exact ⟨(s.grow kk oo).ext (by simp only [go_sem, reduceCtorEq, reduceIte, Nat.reduceEqDiff, Nat.reduceAdd, Nat.reduceLeDiff, Nat.reduceMul, Int.reduceLT, Int.reduceLE, Int.reduceAdd, Int.reduceSub, Int.reduceMul, Int.reduceNeg, Int.reduceToNat, Int.reduceEq]) (by simp only [go_sem, reduceCtorEq, reduceIte, Nat.reduceEqDiff, Nat.reduceAdd, Nat.reduceLeDiff, Nat.reduceMul, Int.reduceLT, Int.reduceLE, Int.reduceAdd, Int.reduceSub, Int.reduceMul, Int.reduceNeg, Int.reduceToNat, Int.reduceEq]) (by simp only [go_sem, reduceCtorEq, reduceIte, Nat.reduceEqDiff, Nat.reduceAdd, Nat.reduceLeDiff, Nat.reduceMul, Int.reduceLT, Int.reduceLE, Int.reduceAdd, Int.reduceSub, Int.reduceMul, Int.reduceNeg, Int.reduceToNat, Int.reduceEq]) (by simp only [go_sem, reduceCtorEq, reduceIte, Nat.reduceEqDiff, Nat.reduceAdd, Nat.reduceLeDiff, Nat.reduceMul, Int.reduceLT, Int.reduceLE, Int.reduceAdd, Int.reduceSub, Int.reduceMul, Int.reduceNeg, Int.reduceToNat, Int.reduceEq]) (by simp only [go_sem, reduceCtorEq, reduceIte, Nat.reduceEqDiff, Nat.reduceAdd, Nat.reduceLeDiff, Nat.reduceMul, Int.reduceLT, Int.reduceLE, Int.reduceAdd, Int.reduceSub, Int.reduceMul, Int.reduceNeg, Int.reduceToNat, Int.reduceEq]), by simp only [go_sem, reduceCtorEq, reduceIte, Nat.reduceEqDiff, Nat.reduceAdd, Nat.reduceLeDiff, Nat.reduceMul, Int.reduceLT, Int.reduceLE, Int.reduceAdd, Int.reduceSub, Int.reduceMul, Int.reduceNeg, Int.reduceToNat, Int.reduceEq, h7], op, kd, _, hop, hkd, by simp only [go_sem, reduceCtorEq, reduceIte, Nat.reduceEqDiff, Nat.reduceAdd, Nat.reduceLeDiff, Nat.reduceMul, Int.reduceLT, Int.reduceLE, Int.reduceAdd, Int.reduceSub, Int.reduceMul, Int.reduceNeg, Int.reduceToNat, Int.reduceEq], by simp only [go_sem, reduceCtorEq, reduceIte, Nat.reduceEqDiff, Nat.reduceAdd, Nat.reduceLeDiff, Nat.reduceMul, Int.reduceLT, Int.reduceLE, Int.reduceAdd, Int.reduceSub, Int.reduceMul, Int.reduceNeg, Int.reduceToNat, Int.reduceEq], by simp only [go_sem, reduceCtorEq, reduceIte, Nat.reduceEqDiff, Nat.reduceAdd, Nat.reduceLeDiff, Nat.reduceMul, Int.reduceLT, Int.reduceLE, Int.reduceAdd, Int.reduceSub, Int.reduceMul, Int.reduceNeg, Int.reduceToNat, Int.reduceEq] <;> rfl⟩
  clear h7 hM57 hF57
  clear s
  rintro σ F M ⟨s, h7, op, kd, yes, hop, hkd, h8, h9, h10⟩
  obtain rfl := s.f
  have b5 := blk_M (F := fzOf W) s.f5
  have b6 := blk_M (F := fzOf W) s.f6
  have okd : ofW kd = 8 ∧ isK kd = true := by rcases hkd with rfl | rfl <;> decide
  have hask : askB op kd a b = true := by
    have q1 : (decide (op = 18) || decide (op = 19)) = true := by simpa using hop
    simp [askB, fitB, q1, okd.1, okd.2, arcA.ok, arcB.ok, arcA.w, arcB.w]
  simp only [go_sem, reduceCtorEq, reduceIte, Nat.reduceEqDiff, Nat.reduceAdd, Nat.reduceLeDiff, Nat.reduceMul, Int.reduceLT, Int.reduceLE, Int.reduceAdd, Int.reduceSub, Int.reduceMul, Int.reduceNeg, Int.reduceToNat, Int.reduceEq, s.h1, s.h3, s.h4, s.h5, s.h6, h7, h8, h9, h10, b5, b6]
  refine callK_of (k43 _ _ op kd a b yes) ?_
  rintro u G M6 ⟨hG, hM6, ht⟩
  rw [hG, hM6]
  clear hG hM6
  refine ⟨fun _ => Le.refl _ _, ?_⟩
  rcases ht with ⟨_, x, y, rfl, p⟩ | ⟨hno, _⟩
  rotate_left
  · rw [hask] at hno; cases hno
  simp only [go_sem, reduceCtorEq, reduceIte, Nat.reduceEqDiff, Nat.reduceAdd, Nat.reduceLeDiff, Nat.reduceMul, Int.reduceLT, Int.reduceLE, Int.reduceAdd, Int.reduceSub, Int.reduceMul, Int.reduceNeg, Int.reduceToNat, Int.reduceEq, s.h1, s.h3, s.h4, s.h5, s.h6, h7, h8, h9, h10]
  intro r11 hF11 hM11
  simp only [go_sem, reduceCtorEq, reduceIte, Nat.reduceEqDiff, Nat.reduceAdd, Nat.reduceLeDiff, Nat.reduceMul, Int.reduceLT, Int.reduceLE, Int.reduceAdd, Int.reduceSub, Int.reduceMul, Int.reduceNeg, Int.reduceToNat, Int.reduceEq, s.h1, s.h3, s.h4, s.h5, s.h6, h7, h8, h9, h10]
  intro r12 hF12 hM12
  have g12 := fresh_of hM12
  simp only [go_sem, reduceCtorEq, reduceIte, Nat.reduceEqDiff, Nat.reduceAdd, Nat.reduceLeDiff, Nat.reduceMul, Int.reduceLT, Int.reduceLE, Int.reduceAdd, Int.reduceSub, Int.reduceMul, Int.reduceNeg, Int.reduceToNat, Int.reduceEq, s.h1, s.h3, s.h4, s.h5, s.h6, h7, h8, h9, h10, g12]
  refine callK_same (k37 _ _ 0) ?_
  simp only [go_sem, reduceCtorEq, reduceIte, Nat.reduceEqDiff, Nat.reduceAdd, Nat.reduceLeDiff, Nat.reduceMul, Int.reduceLT, Int.reduceLE, Int.reduceAdd, Int.reduceSub, Int.reduceMul, Int.reduceNeg, Int.reduceToNat, Int.reduceEq, s.h1, s.h3, s.h4, s.h5, s.h6, h7, h8, h9, h10, g12]
  refine callK_same (k36 _ _ x) ?_
  simp only [go_sem, reduceCtorEq, reduceIte, Nat.reduceEqDiff, Nat.reduceAdd, Nat.reduceLeDiff, Nat.reduceMul, Int.reduceLT, Int.reduceLE, Int.reduceAdd, Int.reduceSub, Int.reduceMul, Int.reduceNeg, Int.reduceToNat, Int.reduceEq, s.h1, s.h3, s.h4, s.h5, s.h6, h7, h8, h9, h10, g12, p.okx]
  refine callK_same (k36 _ _ y) ?_
  have xw : x.w = 8 := p.wx.trans arcA.w
  have yw : y.w = 8 := p.wy.trans arcB.w
  simp only [go_sem, reduceCtorEq, reduceIte, Nat.reduceEqDiff, Nat.reduceAdd, Nat.reduceLeDiff, Nat.reduceMul, Int.reduceLT, Int.reduceLE, Int.reduceAdd, Int.reduceSub, Int.reduceMul, Int.reduceNeg, Int.reduceToNat, Int.reduceEq, s.h1, s.h3, s.h4, s.h5, s.h6, h7, h8, h9, h10, g12, p.oky, xw, yw, eq_self]
  have kk := ((Keep.refl M).new hM11 (e := ⟨x.cs, 34, 6⟩)).new g12.2.2 (e := ⟨y.cs, 34, 6⟩)
  have oo := (s.old.upd hF11 (e := ⟨x.cs, 34, 6⟩)).upd hF12 (e := ⟨y.cs, 34, 6⟩)
  have m8 : mostV 8 = 255 := by decide
  refine block_cut (sI2 (fzOf W) r [.slice aV lv.length cV, vN] i k r5 r6 q r11 r12 op kd a b x y yes) ?_ ?_
  · refine loop_of (nI (fzOf W) r [.slice aV lv.length cV, vN] i k r5 r6 q r11 r12 op kd a b x y yes) 256 ?_ ?_
    · exact ⟨⟨(s.grow kk oo).ext (by simp only [go_sem, reduceCtorEq, reduceIte, Nat.reduceEqDiff, Nat.reduceAdd, Nat.reduceLeDiff, Nat.reduceMul, Int.reduceLT, Int.reduceLE, Int.reduceAdd, Int.reduceSub, Int.reduceMul, Int.reduceNeg, Int.reduceToNat, Int.reduceEq]) (by simp only [go_sem, reduceCtorEq, reduceIte, Nat.reduceEqDiff, Nat.reduceAdd, Nat.reduceLeDiff, Nat.reduceMul, Int.reduceLT, Int.reduceLE, Int.reduceAdd, Int.reduceSub, Int.reduceMul, Int.reduceNeg, Int.reduceToNat, Int.reduceEq]) (by simp only [go_sem, reduceCtorEq, reduceIte, Nat.reduceEqDiff, Nat.reduceAdd, Nat.reduceLeDiff, Nat.reduceMul, Int.reduceLT, Int.reduceLE, Int.reduceAdd, Int.reduceSub, Int.reduceMul, Int.reduceNeg, Int.reduceToNat, Int.reduceEq]) (by simp only [go_sem, reduceCtorEq, reduceIte, Nat.reduceEqDiff, Nat.reduceAdd, Nat.reduceLeDiff, Nat.reduceMul, Int.reduceLT, Int.reduceLE, Int.reduceAdd, Int.reduceSub, Int.reduceMul, Int.reduceNeg, Int.reduceToNat, Int.reduceEq]) (by simp only [go_sem, reduceCtorEq, reduceIte, Nat.reduceEqDiff, Nat.reduceAdd, Nat.reduceLeDiff, Nat.reduceMul, Int.reduceLT, Int.reduceLE, Int.reduceAdd, Int.reduceSub, Int.reduceMul, Int.reduceNeg, Int.reduceToNat, Int.reduceEq]), by simp only [go_sem, reduceCtorEq, reduceIte, Nat.reduceEqDiff, Nat.reduceAdd, Nat.reduceLeDiff, Nat.reduceMul, Int.reduceLT, Int.reduceLE, Int.reduceAdd, Int.reduceSub, Int.reduceMul, Int.reduceNeg, Int.reduceToNat, Int.reduceEq, h7], by simp only [go_sem, reduceCtorEq, reduceIte, Nat.reduceEqDiff, Nat.reduceAdd, Nat.reduceLeDiff, Nat.reduceMul, Int.reduceLT, Int.reduceLE, Int.reduceAdd, Int.reduceSub, Int.reduceMul, Int.reduceNeg, Int.reduceToNat, Int.reduceEq, h8], by simp only [go_sem, reduceCtorEq, reduceIte, Nat.reduceEqDiff, Nat.reduceAdd, Nat.reduceLeDiff, Nat.reduceMul, Int.reduceLT, Int.reduceLE, Int.reduceAdd, Int.reduceSub, Int.reduceMul, Int.reduceNeg, Int.reduceToNat, Int.reduceEq, h9], by simp only [go_sem, reduceCtorEq, reduceIte, Nat.reduceEqDiff, Nat.reduceAdd, Nat.reduceLeDiff, Nat.reduceMul, Int.reduceLT, Int.reduceLE, Int.reduceAdd, Int.reduceSub, Int.reduceMul, Int.reduceNeg, Int.reduceToNat, Int.reduceEq, h10], by simp only [go_sem, reduceCtorEq, reduceIte, Nat.reduceEqDiff, Nat.reduceAdd, Nat.reduceLeDiff, Nat.reduceMul, Int.reduceLT, Int.reduceLE, Int.reduceAdd, Int.reduceSub, Int.reduceMul, Int.reduceNeg, Int.reduceToNat, Int.reduceEq], by simp only [go_sem, reduceCtorEq, reduceIte, Nat.reduceEqDiff, Nat.reduceAdd, Nat.reduceLeDiff, Nat.reduceMul, Int.reduceLT, Int.reduceLE, Int.reduceAdd, Int.reduceSub, Int.reduceMul, Int.reduceNeg, Int.reduceToNat, Int.reduceEq], by rw [Hp.upd_ne' g12.2.1]; exact Hp.upd_same _ _ _, Hp.upd_same _ _ _⟩, 0, by omega, by simp only [go_sem, reduceCtorEq, reduceIte, Nat.reduceEqDiff, Nat.reduceAdd, Nat.reduceLeDiff, Nat.reduceMul, Int.reduceLT, Int.reduceLE, Int.reduceAdd, Int.reduceSub, Int.reduceMul, Int.reduceNeg, Int.reduceToNat, Int.reduceEq] <;> rfl⟩
    clear kk oo g12 h7 h8 h9 h10 b5 b6 hM11 hM12
    clear s
    rintro mn σ F M ⟨s, n, hn, h14⟩
    obtain rfl := s.f
    by_cases hnl : (n : Int) < 256
    rotate_left
    · simp only [go_sem, reduceCtorEq, reduceIte, Nat.reduceEqDiff, Nat.reduceAdd, Nat.reduceLeDiff, Nat.reduceMul, Int.reduceLT, Int.reduceLE, Int.reduceAdd, Int.reduceSub, Int.reduceMul, Int.reduceNeg, Int.reduceToNat, Int.reduceEq, s.h1, s.h3, s.h4, s.h5, s.h6, s.h7, s.h8, s.h9, s.h10, s.h11, s.h12, h14, hnl]
      exact s.ext (by simp only [go_sem, reduceCtorEq, reduceIte, Nat.reduceEqDiff, Nat.reduceAdd, Nat.reduceLeDiff, Nat.reduceMul, Int.reduceLT, Int.reduceLE, Int.reduceAdd, Int.reduceSub, Int.reduceMul, Int.reduceNeg, Int.reduceToNat, Int.reduceEq]) (by simp only [go_sem, reduceCtorEq, reduceIte, Nat.reduceEqDiff, Nat.reduceAdd, Nat.reduceLeDiff, Nat.reduceMul, Int.reduceLT, Int.reduceLE, Int.reduceAdd, Int.reduceSub, Int.reduceMul, Int.reduceNeg, Int.reduceToNat, Int.reduceEq]) (by simp only [go_sem, reduceCtorEq, reduceIte, Nat.reduceEqDiff, Nat.reduceAdd, Nat.reduceLeDiff, Nat.reduceMul, Int.reduceLT, Int.reduceLE, Int.reduceAdd, Int.reduceSub, Int.reduceMul, Int.reduceNeg, Int.reduceToNat, Int.reduceEq]) (by simp only [go_sem, reduceCtorEq, reduceIte, Nat.reduceEqDiff, Nat.reduceAdd, Nat.reduceLeDiff, Nat.reduceMul, Int.reduceLT, Int.reduceLE, Int.reduceAdd, Int.reduceSub, Int.reduceMul, Int.reduceNeg, Int.reduceToNat, Int.reduceEq]) (by simp only [go_sem, reduceCtorEq, reduceIte, Nat.reduceEqDiff, Nat.reduceAdd, Nat.reduceLeDiff, Nat.reduceMul, Int.reduceLT, Int.reduceLE, Int.reduceAdd, Int.reduceSub, Int.reduceMul, Int.reduceNeg, Int.reduceToNat, Int.reduceEq]) (by simp only [go_sem, reduceCtorEq, reduceIte, Nat.reduceEqDiff, Nat.reduceAdd, Nat.reduceLeDiff, Nat.reduceMul, Int.reduceLT, Int.reduceLE, Int.reduceAdd, Int.reduceSub, Int.reduceMul, Int.reduceNeg, Int.reduceToNat, Int.reduceEq]) (by simp only [go_sem, reduceCtorEq, reduceIte, Nat.reduceEqDiff, Nat.reduceAdd, Nat.reduceLeDiff, Nat.reduceMul, Int.reduceLT, Int.reduceLE, Int.reduceAdd, Int.reduceSub, Int.reduceMul, Int.reduceNeg, Int.reduceToNat, Int.reduceEq]) (by simp only [go_sem, reduceCtorEq, reduceIte, Nat.reduceEqDiff, Nat.reduceAdd, Nat.reduceLeDiff, Nat.reduceMul, Int.reduceLT, Int.reduceLE, Int.reduceAdd, Int.reduceSub, Int.reduceMul, Int.reduceNeg, Int.reduceToNat, Int.reduceEq]) (by simp only [go_sem, reduceCtorEq, reduceIte, Nat.reduceEqDiff, Nat.reduceAdd, Nat.reduceLeDiff, Nat.reduceMul, Int.reduceLT, Int.reduceLE, Int.reduceAdd, Int.reduceSub, Int.reduceMul, Int.reduceNeg, Int.reduceToNat, Int.reduceEq]) (by simp only [go_sem, reduceCtorEq, reduceIte, Nat.reduceEqDiff, Nat.reduceAdd, Nat.reduceLeDiff, Nat.reduceMul, Int.reduceLT, Int.reduceLE, Int.reduceAdd, Int.reduceSub, Int.reduceMul, Int.reduceNeg, Int.reduceToNat, Int.reduceEq]) (by simp only [go_sem, reduceCtorEq, reduceIte, Nat.reduceEqDiff, Nat.reduceAdd, Nat.reduceLeDiff, Nat.reduceMul, Int.reduceLT, Int.reduceLE, Int.reduceAdd, Int.reduceSub, Int.reduceMul, Int.reduceNeg, Int.reduceToNat, Int.reduceEq])
    have en : IntKind.i64.wrap ((n : Int) + 1) = n + 1 := w64 (by omega) (by omega)
    have b5 := blk_M (F := fzOf W) s.f5
    have b6 := blk_M (F := fzOf W) s.f6
    have b11 := blk_M (F := fzOf W) s.f11
    have b12 := blk_M (F := fzOf W) s.f12
    have nxt : ∀ σ', Ax.look σ' 1 = Ax.look σ 1 → Ax.look σ' 3 = Ax.look σ 3 → Ax.look σ' 4 = Ax.look σ 4 → Ax.look σ' 5 = Ax.look σ 5 → Ax.look σ' 6 = Ax.look σ 6 → Ax.look σ' 7 = Ax.look σ 7 → Ax.look σ' 8 = Ax.look σ 8 → Ax.look σ' 9 = Ax.look σ 9 → Ax.look σ' 10 = Ax.look σ 10 → Ax.look σ' 11 = Ax.look σ 11 → Ax.look σ' 12 = Ax.look σ 12 → Ax.look σ' 14 = some (.int .i64 (n + 1)) →
        ∃ m, m < mn ∧ nI (fzOf W) r [.slice aV lv.length cV, vN] i k r5 r6 q r11 r12 op kd a b x y yes m σ' (fzOf W) M :=
      fun σ' e1 e3 e4 e5 e6 e7 e8 e9 e10 e11 e12 e14 => ⟨mn - 1, by omega, s.ext e1 e3 e4 e5 e6 e7 e8 e9 e10 e11 e12, n + 1, by omega, e14⟩
    have hxa : x.has n = true → a.has n = true := fun h => p.subx n (by omega) (by rw [xw, m8]; omega) h
    have hyb : y.has n = true → b.has n = true := fun h => p.suby n (by omega) (by rw [yw, m8]; omega) h
    simp only [go_sem, reduceCtorEq, reduceIte, Nat.reduceEqDiff, Nat.reduceAdd, Nat.reduceLeDiff, Nat.reduceMul, Int.reduceLT, Int.reduceLE, Int.reduceAdd, Int.reduceSub, Int.reduceMul, Int.reduceNeg, Int.reduceToNat, Int.reduceEq, s.h1, s.h3, s.h4, s.h5, s.h6, s.h7, s.h8, s.h9, s.h10, s.h11, s.h12, h14, hnl, b5, b6, b11, b12]
    refine callK_same (k40 _ _ x n) ?_
    cases hx : x.has n
    · simp only [go_sem, reduceCtorEq, reduceIte, Nat.reduceEqDiff, Nat.reduceAdd, Nat.reduceLeDiff, Nat.reduceMul, Int.reduceLT, Int.reduceLE, Int.reduceAdd, Int.reduceSub, Int.reduceMul, Int.reduceNeg, Int.reduceToNat, Int.reduceEq, s.h1, s.h3, s.h4, s.h5, s.h6, s.h7, s.h8, s.h9, s.h10, s.h11, s.h12, h14, hnl, b5, b6, b11, b12]
      refine callK_same (k40 _ _ y n) ?_
      cases hy : y.has n
      · simp only [go_sem, reduceCtorEq, reduceIte, Nat.reduceEqDiff, Nat.reduceAdd, Nat.reduceLeDiff, Nat.reduceMul, Int.reduceLT, Int.reduceLE, Int.reduceAdd, Int.reduceSub, Int.reduceMul, Int.reduceNeg, Int.reduceToNat, Int.reduceEq, s.h1, s.h3, s.h4, s.h5, s.h6, s.h7, s.h8, s.h9, s.h10, s.h11, s.h12, h14, hnl, b5, b6, b11, b12, en]
        exact nxt _ (by simp only [go_sem, reduceCtorEq, reduceIte, Nat.reduceEqDiff, Nat.reduceAdd, Nat.reduceLeDiff, Nat.reduceMul, Int.reduceLT, Int.reduceLE, Int.reduceAdd, Int.reduceSub, Int.reduceMul, Int.reduceNeg, Int.reduceToNat, Int.reduceEq]) (by simp only [go_sem, reduceCtorEq, reduceIte, Nat.reduceEqDiff, Nat.reduceAdd, Nat.reduceLeDiff, Nat.reduceMul, Int.reduceLT, Int.reduceLE, Int.reduceAdd, Int.reduceSub, Int.reduceMul, Int.reduceNeg, Int.reduceToNat, Int.reduceEq]) (by simp only [go_sem, reduceCtorEq, reduceIte, Nat.reduceEqDiff, Nat.reduceAdd, Nat.reduceLeDiff, Nat.reduceMul, Int.reduceLT, Int.reduceLE, Int.reduceAdd, Int.reduceSub, Int.reduceMul, Int.reduceNeg, Int.reduceToNat, Int.reduceEq]) (by simp only [go_sem, reduceCtorEq, reduceIte, Nat.reduceEqDiff, Nat.reduceAdd, Nat.reduceLeDiff, Nat.reduceMul, Int.reduceLT, Int.reduceLE, Int.reduceAdd, Int.reduceSub, Int.reduceMul, Int.reduceNeg, Int.reduceToNat, Int.reduceEq]) (by simp only [go_sem, reduceCtorEq, reduceIte, Nat.reduceEqDiff, Nat.reduceAdd, Nat.reduceLeDiff, Nat.reduceMul, Int.reduceLT, Int.reduceLE, Int.reduceAdd, Int.reduceSub, Int.reduceMul, Int.reduceNeg, Int.reduceToNat, Int.reduceEq]) (by simp only [go_sem, reduceCtorEq, reduceIte, Nat.reduceEqDiff, Nat.reduceAdd, Nat.reduceLeDiff, Nat.reduceMul, Int.reduceLT, Int.reduceLE, Int.reduceAdd, Int.reduceSub, Int.reduceMul, Int.reduceNeg, Int.reduceToNat, Int.reduceEq]) (by simp only [go_sem, reduceCtorEq, reduceIte, Nat.reduceEqDiff, Nat.reduceAdd, Nat.reduceLeDiff, Nat.reduceMul, Int.reduceLT, Int.reduceLE, Int.reduceAdd, Int.reduceSub, Int.reduceMul, Int.reduceNeg, Int.reduceToNat, Int.reduceEq]) (by simp only [go_sem, reduceCtorEq, reduceIte, Nat.reduceEqDiff, Nat.reduceAdd, Nat.reduceLeDiff, Nat.reduceMul, Int.reduceLT, Int.reduceLE, Int.reduceAdd, Int.reduceSub, Int.reduceMul, Int.reduceNeg, Int.reduceToNat, Int.reduceEq]) (by simp only [go_sem, reduceCtorEq, reduceIte, Nat.reduceEqDiff, Nat.reduceAdd, Nat.reduceLeDiff, Nat.reduceMul, Int.reduceLT, Int.reduceLE, Int.reduceAdd, Int.reduceSub, Int.reduceMul, Int.reduceNeg, Int.reduceToNat, Int.reduceEq]) (by simp only [go_sem, reduceCtorEq, reduceIte, Nat.reduceEqDiff, Nat.reduceAdd, Nat.reduceLeDiff, Nat.reduceMul, Int.reduceLT, Int.reduceLE, Int.reduceAdd, Int.reduceSub, Int.reduceMul, Int.reduceNeg, Int.reduceToNat, Int.reduceEq]) (by simp only [go_sem, reduceCtorEq, reduceIte, Nat.reduceEqDiff, Nat.reduceAdd, Nat.reduceLeDiff, Nat.reduceMul, Int.reduceLT, Int.reduceLE, Int.reduceAdd, Int.reduceSub, Int.reduceMul, Int.reduceNeg, Int.reduceToNat, Int.reduceEq]) (by simp only [go_sem, reduceCtorEq, reduceIte, Nat.reduceEqDiff, Nat.reduceAdd, Nat.reduceLeDiff, Nat.reduceMul, Int.reduceLT, Int.reduceLE, Int.reduceAdd, Int.reduceSub, Int.reduceMul, Int.reduceNeg, Int.reduceToNat, Int.reduceEq])
      · have hb := hyb hy
        simp only [go_sem, reduceCtorEq, reduceIte, Nat.reduceEqDiff, Nat.reduceAdd, Nat.reduceLeDiff, Nat.reduceMul, Int.reduceLT, Int.reduceLE, Int.reduceAdd, Int.reduceSub, Int.reduceMul, Int.reduceNeg, Int.reduceToNat, Int.reduceEq, s.h1, s.h3, s.h4, s.h5, s.h6, s.h7, s.h8, s.h9, s.h10, s.h11, s.h12, h14, hnl, b5, b6, b11, b12]
        refine callK_same (k40 _ _ b n) ?_
        simp only [go_sem, reduceCtorEq, reduceIte, Nat.reduceEqDiff, Nat.reduceAdd, Nat.reduceLeDiff, Nat.reduceMul, Int.reduceLT, Int.reduceLE, Int.reduceAdd, Int.reduceSub, Int.reduceMul, Int.reduceNeg, Int.reduceToNat, Int.reduceEq, s.h1, s.h3, s.h4, s.h5, s.h6, s.h7, s.h8, s.h9, s.h10, s.h11, s.h12, h14, hnl, b5, b6, b11, b12, hb, en]
        exact nxt _ (by simp only [go_sem, reduceCtorEq, reduceIte, Nat.reduceEqDiff, Nat.reduceAdd, Nat.reduceLeDiff, Nat.reduceMul, Int.reduceLT, Int.reduceLE, Int.reduceAdd, Int.reduceSub, Int.reduceMul, Int.reduceNeg, Int.reduceToNat, Int.reduceEq]) (by simp only [go_sem, reduceCtorEq, reduceIte, Nat.reduceEqDiff, Nat.reduceAdd, Nat.reduceLeDiff, Nat.reduceMul, Int.reduceLT, Int.reduceLE, Int.reduceAdd, Int.reduceSub, Int.reduceMul, Int.reduceNeg, Int.reduceToNat, Int.reduceEq]) (by simp only [go_sem, reduceCtorEq, reduceIte, Nat.reduceEqDiff, Nat.reduceAdd, Nat.reduceLeDiff, Nat.reduceMul, Int.reduceLT, Int.reduceLE, Int.reduceAdd, Int.reduceSub, Int.reduceMul, Int.reduceNeg, Int.reduceToNat, Int.reduceEq]) (by simp only [go_sem, reduceCtorEq, reduceIte, Nat.reduceEqDiff, Nat.reduceAdd, Nat.reduceLeDiff, Nat.reduceMul, Int.reduceLT, Int.reduceLE, Int.reduceAdd, Int.reduceSub, Int.reduceMul, Int.reduceNeg, Int.reduceToNat, Int.reduceEq]) (by simp only [go_sem, reduceCtorEq, reduceIte, Nat.reduceEqDiff, Nat.reduceAdd, Nat.reduceLeDiff, Nat.reduceMul, Int.reduceLT, Int.reduceLE, Int.reduceAdd, Int.reduceSub, Int.reduceMul, Int.reduceNeg, Int.reduceToNat, Int.reduceEq]) (by simp only [go_sem, reduceCtorEq, reduceIte, Nat.reduceEqDiff, Nat.reduceAdd, Nat.reduceLeDiff, Nat.reduceMul, Int.reduceLT, Int.reduceLE, Int.reduceAdd, Int.reduceSub, Int.reduceMul, Int.reduceNeg, Int.reduceToNat, Int.reduceEq]) (by simp only [go_sem, reduceCtorEq, reduceIte, Nat.reduceEqDiff, Nat.reduceAdd, Nat.reduceLeDiff, Nat.reduceMul, Int.reduceLT, Int.reduceLE, Int.reduceAdd, Int.reduceSub, Int.reduceMul, Int.reduceNeg, Int.reduceToNat, Int.reduceEq]) (by simp only [go_sem, reduceCtorEq, reduceIte, Nat.reduceEqDiff, Nat.reduceAdd, Nat.reduceLeDiff, Nat.reduceMul, Int.reduceLT, Int.reduceLE, Int.reduceAdd, Int.reduceSub, Int.reduceMul, Int.reduceNeg, Int.reduceToNat, Int.reduceEq]) (by simp only [go_sem, reduceCtorEq, reduceIte, Nat.reduceEqDiff, Nat.reduceAdd, Nat.reduceLeDiff, Nat.reduceMul, Int.reduceLT, Int.reduceLE, Int.reduceAdd, Int.reduceSub, Int.reduceMul, Int.reduceNeg, Int.reduceToNat, Int.reduceEq]) (by simp only [go_sem, reduceCtorEq, reduceIte, Nat.reduceEqDiff, Nat.reduceAdd, Nat.reduceLeDiff, Nat.reduceMul, Int.reduceLT, Int.reduceLE, Int.reduceAdd, Int.reduceSub, Int.reduceMul, Int.reduceNeg, Int.reduceToNat, Int.reduceEq]) (by simp only [go_sem, reduceCtorEq, reduceIte, Nat.reduceEqDiff, Nat.reduceAdd, Nat.reduceLeDiff, Nat.reduceMul, Int.reduceLT, Int.reduceLE, Int.reduceAdd, Int.reduceSub, Int.reduceMul, Int.reduceNeg, Int.reduceToNat, Int.reduceEq]) (by simp only [go_sem, reduceCtorEq, reduceIte, Nat.reduceEqDiff, Nat.reduceAdd, Nat.reduceLeDiff, Nat.reduceMul, Int.reduceLT, Int.reduceLE, Int.reduceAdd, Int.reduceSub, Int.reduceMul, Int.reduceNeg, Int.reduceToNat, Int.reduceEq])
    · have ha := hxa hx
      simp only [go_sem, reduceCtorEq, reduceIte, Nat.reduceEqDiff, Nat.reduceAdd, Nat.reduceLeDiff, Nat.reduceMul, Int.reduceLT, Int.reduceLE, Int.reduceAdd, Int.reduceSub, Int.reduceMul, Int.reduceNeg, Int.reduceToNat, Int.reduceEq, s.h1, s.h3, s.h4, s.h5, s.h6, s.h7, s.h8, s.h9, s.h10, s.h11, s.h12, h14, hnl, b5, b6, b11, b12]
      refine callK_same (k40 _ _ a n) ?_
      simp only [go_sem, reduceCtorEq, reduceIte, Nat.reduceEqDiff, Nat.reduceAdd, Nat.reduceLeDiff, Nat.reduceMul, Int.reduceLT, Int.reduceLE, Int.reduceAdd, Int.reduceSub, Int.reduceMul, Int.reduceNeg, Int.reduceToNat, Int.reduceEq, s.h1, s.h3, s.h4, s.h5, s.h6, s.h7, s.h8, s.h9, s.h10, s.h11, s.h12, h14, hnl, b5, b6, b11, b12, ha]
      refine callK_same (k40 _ _ y n) ?_
      cases hy : y.has n
      · simp only [go_sem, reduceCtorEq, reduceIte, Nat.reduceEqDiff, Nat.reduceAdd, Nat.reduceLeDiff, Nat.reduceMul, Int.reduceLT, Int.reduceLE, Int.reduceAdd, Int.reduceSub, Int.reduceMul, Int.reduceNeg, Int.reduceToNat, Int.reduceEq, s.h1, s.h3, s.h4, s.h5, s.h6, s.h7, s.h8, s.h9, s.h10, s.h11, s.h12, h14, hnl, b5, b6, b11, b12, en]
        exact nxt _ (by simp only [go_sem, reduceCtorEq, reduceIte, Nat.reduceEqDiff, Nat.reduceAdd, Nat.reduceLeDiff, Nat.reduceMul, Int.reduceLT, Int.reduceLE, Int.reduceAdd, Int.reduceSub, Int.reduceMul, Int.reduceNeg, Int.reduceToNat, Int.reduceEq]) (by simp only [go_sem, reduceCtorEq, reduceIte, Nat.reduceEqDiff, Nat.reduceAdd, Nat.reduceLeDiff, Nat.reduceMul, Int.reduceLT, Int.reduceLE, Int.reduceAdd, Int.reduceSub, Int.reduceMul, Int.reduceNeg, Int.reduceToNat, Int.reduceEq]) (by simp only [go_sem, reduceCtorEq, reduceIte, Nat.reduceEqDiff, Nat.reduceAdd, Nat.reduceLeDiff, Nat.reduceMul, Int.reduceLT, Int.reduceLE, Int.reduceAdd, Int.reduceSub, Int.reduceMul, Int.reduceNeg, Int.reduceToNat, Int.reduceEq]) (by simp only [go_sem, reduceCtorEq, reduceIte, Nat.reduceEqDiff, Nat.reduceAdd, Nat.reduceLeDiff, Nat.reduceMul, Int.reduceLT, Int.reduceLE, Int.reduceAdd, Int.reduceSub, Int.reduceMul, Int.reduceNeg, Int.reduceToNat, Int.reduceEq]) (by simp only [go_sem, reduceCtorEq, reduceIte, Nat.reduceEqDiff, Nat.reduceAdd, Nat.reduceLeDiff, Nat.reduceMul, Int.reduceLT, Int.reduceLE, Int.reduceAdd, Int.reduceSub, Int.reduceMul, Int.reduceNeg, Int.reduceToNat, Int.reduceEq]) (by simp only [go_sem, reduceCtorEq, reduceIte, Nat.reduceEqDiff, Nat.reduceAdd, Nat.reduceLeDiff, Nat.reduceMul, Int.reduceLT, Int.reduceLE, Int.reduceAdd, Int.reduceSub, Int.reduceMul, Int.reduceNeg, Int.reduceToNat, Int.reduceEq]) (by simp only [go_sem, reduceCtorEq, reduceIte, Nat.reduceEqDiff, Nat.reduceAdd, Nat.reduceLeDiff, Nat.reduceMul, Int.reduceLT, Int.reduceLE, Int.reduceAdd, Int.reduceSub, Int.reduceMul, Int.reduceNeg, Int.reduceToNat, Int.reduceEq]) (by simp only [go_sem, reduceCtorEq, reduceIte, Nat.reduceEqDiff, Nat.reduceAdd, Nat.reduceLeDiff, Nat.reduceMul, Int.reduceLT, Int.reduceLE, Int.reduceAdd, Int.reduceSub, Int.reduceMul, Int.reduceNeg, Int.reduceToNat, Int.reduceEq]) (by simp only [go_sem, reduceCtorEq, reduceIte, Nat.reduceEqDiff, Nat.reduceAdd, Nat.reduceLeDiff, Nat.reduceMul, Int.reduceLT, Int.reduceLE, Int.reduceAdd, Int.reduceSub, Int.reduceMul, Int.reduceNeg, Int.reduceToNat, Int.reduceEq]) (by simp only [go_sem, reduceCtorEq, reduceIte, Nat.reduceEqDiff, Nat.reduceAdd, Nat.reduceLeDiff, Nat.reduceMul, Int.reduceLT, Int.reduceLE, Int.reduceAdd, Int.reduceSub, Int.reduceMul, Int.reduceNeg, Int.reduceToNat, Int.reduceEq]) (by simp only [go_sem, reduceCtorEq, reduceIte, Nat.reduceEqDiff, Nat.reduceAdd, Nat.reduceLeDiff, Nat.reduceMul, Int.reduceLT, Int.reduceLE, Int.reduceAdd, Int.reduceSub, Int.reduceMul, Int.reduceNeg, Int.reduceToNat, Int.reduceEq]) (by simp only [go_sem, reduceCtorEq, reduceIte, Nat.reduceEqDiff, Nat.reduceAdd, Nat.reduceLeDiff, Nat.reduceMul, Int.reduceLT, Int.reduceLE, Int.reduceAdd, Int.reduceSub, Int.reduceMul, Int.reduceNeg, Int.reduceToNat, Int.reduceEq])
      · have hb := hyb hy
        simp only [go_sem, reduceCtorEq, reduceIte, Nat.reduceEqDiff, Nat.reduceAdd, Nat.reduceLeDiff, Nat.reduceMul, Int.reduceLT, Int.reduceLE, Int.reduceAdd, Int.reduceSub, Int.reduceMul, Int.reduceNeg, Int.reduceToNat, Int.reduceEq, s.h1, s.h3, s.h4, s.h5, s.h6, s.h7, s.h8, s.h9, s.h10, s.h11, s.h12, h14, hnl, b5, b6, b11, b12]
        refine callK_same (k40 _ _ b n) ?_
        simp only [go_sem, reduceCtorEq, reduceIte, Nat.reduceEqDiff, Nat.reduceAdd, Nat.reduceLeDiff, Nat.reduceMul, Int.reduceLT, Int.reduceLE, Int.reduceAdd, Int.reduceSub, Int.reduceMul, Int.reduceNeg, Int.reduceToNat, Int.reduceEq, s.h1, s.h3, s.h4, s.h5, s.h6, s.h7, s.h8, s.h9, s.h10, s.h11, s.h12, h14, hnl, b5, b6, b11, b12, hb, en]
        exact nxt _ (by simp only [go_sem, reduceCtorEq, reduceIte, Nat.reduceEqDiff, Nat.reduceAdd, Nat.reduceLeDiff, Nat.reduceMul, Int.reduceLT, Int.reduceLE, Int.reduceAdd, Int.reduceSub, Int.reduceMul, Int.reduceNeg, Int.reduceToNat, Int.reduceEq]) (by simp only [go_sem, reduceCtorEq, reduceIte, Nat.reduceEqDiff, Nat.reduceAdd, Nat.reduceLeDiff, Nat.reduceMul, Int.reduceLT, Int.reduceLE, Int.reduceAdd, Int.reduceSub, Int.reduceMul, Int.reduceNeg, Int.reduceToNat, Int.reduceEq]) (by simp only [go_sem, reduceCtorEq, reduceIte, Nat.reduceEqDiff, Nat.reduceAdd, Nat.reduceLeDiff, Nat.reduceMul, Int.reduceLT, Int.reduceLE, Int.reduceAdd, Int.reduceSub, Int.reduceMul, Int.reduceNeg, Int.reduceToNat, Int.reduceEq]) (by simp only [go_sem, reduceCtorEq, reduceIte, Nat.reduceEqDiff, Nat.reduceAdd, Nat.reduceLeDiff, Nat.reduceMul, Int.reduceLT, Int.reduceLE, Int.reduceAdd, Int.reduceSub, Int.reduceMul, Int.reduceNeg, Int.reduceToNat, Int.reduceEq]) (by simp only [go_sem, reduceCtorEq, reduceIte, Nat.reduceEqDiff, Nat.reduceAdd, Nat.reduceLeDiff, Nat.reduceMul, Int.reduceLT, Int.reduceLE, Int.reduceAdd, Int.reduceSub, Int.reduceMul, Int.reduceNeg, Int.reduceToNat, Int.reduceEq]) (by simp only [go_sem, reduceCtorEq, reduceIte, Nat.reduceEqDiff, Nat.reduceAdd, Nat.reduceLeDiff, Nat.reduceMul, Int.reduceLT, Int.reduceLE, Int.reduceAdd, Int.reduceSub, Int.reduceMul, Int.reduceNeg, Int.reduceToNat, Int.reduceEq]) (by simp only [go_sem, reduceCtorEq, reduceIte, Nat.reduceEqDiff, Nat.reduceAdd, Nat.reduceLeDiff, Nat.reduceMul, Int.reduceLT, Int.reduceLE, Int.reduceAdd, Int.reduceSub, Int.reduceMul, Int.reduceNeg, Int.reduceToNat, Int.reduceEq]) (by simp only [go_sem, reduceCtorEq, reduceIte, Nat.reduceEqDiff, Nat.reduceAdd, Nat.reduceLeDiff, Nat.reduceMul, Int.reduceLT, Int.reduceLE, Int.reduceAdd, Int.reduceSub, Int.reduceMul, Int.reduceNeg, Int.reduceToNat, Int.reduceEq]) (by simp only [go_sem, reduceCtorEq, reduceIte, Nat.reduceEqDiff, Nat.reduceAdd, Nat.reduceLeDiff, Nat.reduceMul, Int.reduceLT, Int.reduceLE, Int.reduceAdd, Int.reduceSub, Int.reduceMul, Int.reduceNeg, Int.reduceToNat, Int.reduceEq]) (by simp only [go_sem, reduceCtorEq, reduceIte, Nat.reduceEqDiff, Nat.reduceAdd, Nat.reduceLeDiff, Nat.reduceMul, Int.reduceLT, Int.reduceLE, Int.reduceAdd, Int.reduceSub, Int.reduceMul, Int.reduceNeg, Int.reduceToNat, Int.reduceEq]) (by simp only [go_sem, reduceCtorEq, reduceIte, Nat.reduceEqDiff, Nat.reduceAdd, Nat.reduceLeDiff, Nat.reduceMul, Int.reduceLT, Int.reduceLE, Int.reduceAdd, Int.reduceSub, Int.reduceMul, Int.reduceNeg, Int.reduceToNat, Int.reduceEq]) (by simp only [go_sem, reduceCtorEq, reduceIte, Nat.reduceEqDiff, Nat.reduceAdd, Nat.reduceLeDiff, Nat.reduceMul, Int.reduceLT, Int.reduceLE, Int.reduceAdd, Int.reduceSub, Int.reduceMul, Int.reduceNeg, Int.reduceToNat, Int.reduceEq])
  clear kk oo g12 h7 h8 h9 h10 b5 b6 hM11 hM12
  clear s
  rintro σ F M s
  have s : B2 (fzOf W) r [.slice aV lv.length cV, vN] i k r5 r6 q r11 r12 op kd a b x y yes σ F M := s
  obtain rfl := s.f
  rw [then_n]
  simp only [go_sem, reduceCtorEq, reduceIte, Nat.reduceEqDiff, Nat.reduceAdd, Nat.reduceLeDiff, Nat.reduceMul, Int.reduceLT, Int.reduceLE, Int.reduceAdd, Int.reduceSub, Int.reduceMul, Int.reduceNeg, Int.reduceToNat, Int.reduceEq]
  refine loop_of (sI (fzOf W) r [.slice aV lv.length cV, vN] i k r5 r6 q r11 r12 op kd a b x y yes) 6 ?_ ?_
  · exact ⟨s.ext (by simp only [go_sem, reduceCtorEq, reduceIte, Nat.reduceEqDiff, Nat.reduceAdd, Nat.reduceLeDiff, Nat.reduceMul, Int.reduceLT, Int.reduceLE, Int.reduceAdd, Int.reduceSub, Int.reduceMul, Int.reduceNeg, Int.reduceToNat, Int.reduceEq]) (by simp only [go_sem, reduceCtorEq, reduceIte, Nat.reduceEqDiff, Nat.reduceAdd, Nat.reduceLeDiff, Nat.reduceMul, Int.reduceLT, Int.reduceLE, Int.reduceAdd, Int.reduceSub, Int.reduceMul, Int.reduceNeg, Int.reduceToNat, Int.reduceEq]) (by simp only [go_sem, reduceCtorEq, reduceIte, Nat.reduceEqDiff, Nat.reduceAdd, Nat.reduceLeDiff, Nat.reduceMul, Int.reduceLT, Int.reduceLE, Int.reduceAdd, Int.reduceSub, Int.reduceMul, Int.reduceNeg, Int.reduceToNat, Int.reduceEq]) (by simp only [go_sem, reduceCtorEq, reduceIte, Nat.reduceEqDiff, Nat.reduceAdd, Nat.reduceLeDiff, Nat.reduceMul, Int.reduceLT, Int.reduceLE, Int.reduceAdd, Int.reduceSub, Int.reduceMul, Int.reduceNeg, Int.reduceToNat, Int.reduceEq]) (by simp only [go_sem, reduceCtorEq, reduceIte, Nat.reduceEqDiff, Nat.reduceAdd, Nat.reduceLeDiff, Nat.reduceMul, Int.reduceLT, Int.reduceLE, Int.reduceAdd, Int.reduceSub, Int.reduceMul, Int.reduceNeg, Int.reduceToNat, Int.reduceEq]) (by simp only [go_sem, reduceCtorEq, reduceIte, Nat.reduceEqDiff, Nat.reduceAdd, Nat.reduceLeDiff, Nat.reduceMul, Int.reduceLT, Int.reduceLE, Int.reduceAdd, Int.reduceSub, Int.reduceMul, Int.reduceNeg, Int.reduceToNat, Int.reduceEq]) (by simp only [go_sem, reduceCtorEq, reduceIte, Nat.reduceEqDiff, Nat.reduceAdd, Nat.reduceLeDiff, Nat.reduceMul, Int.reduceLT, Int.reduceLE, Int.reduceAdd, Int.reduceSub, Int.reduceMul, Int.reduceNeg, Int.reduceToNat, Int.reduceEq]) (by simp only [go_sem, reduceCtorEq, reduceIte, Nat.reduceEqDiff, Nat.reduceAdd, Nat.reduceLeDiff, Nat.reduceMul, Int.reduceLT, Int.reduceLE, Int.reduceAdd, Int.reduceSub, Int.reduceMul, Int.reduceNeg, Int.reduceToNat, Int.reduceEq]) (by simp only [go_sem, reduceCtorEq, reduceIte, Nat.reduceEqDiff, Nat.reduceAdd, Nat.reduceLeDiff, Nat.reduceMul, Int.reduceLT, Int.reduceLE, Int.reduceAdd, Int.reduceSub, Int.reduceMul, Int.reduceNeg, Int.reduceToNat, Int.reduceEq]) (by simp only [go_sem, reduceCtorEq, reduceIte, Nat.reduceEqDiff, Nat.reduceAdd, Nat.reduceLeDiff, Nat.reduceMul, Int.reduceLT, Int.reduceLE, Int.reduceAdd, Int.reduceSub, Int.reduceMul, Int.reduceNeg, Int.reduceToNat, Int.reduceEq]) (by simp only [go_sem, reduceCtorEq, reduceIte, Nat.reduceEqDiff, Nat.reduceAdd, Nat.reduceLeDiff, Nat.reduceMul, Int.reduceLT, Int.reduceLE, Int.reduceAdd, Int.reduceSub, Int.reduceMul, Int.reduceNeg, Int.reduceToNat, Int.reduceEq]), 0, by omega, by simp only [go_sem, reduceCtorEq, reduceIte, Nat.reduceEqDiff, Nat.reduceAdd, Nat.reduceLeDiff, Nat.reduceMul, Int.reduceLT, Int.reduceLE, Int.reduceAdd, Int.reduceSub, Int.reduceMul, Int.reduceNeg, Int.reduceToNat, Int.reduceEq] <;> rfl⟩
  clear s
  rintro ms σ F M ⟨s, ns, hns, h15⟩
  obtain rfl := s.f
  by_cases hnl : (ns : Int) < 6
  rotate_left
  · simp only [go_sem, reduceCtorEq, reduceIte, Nat.reduceEqDiff, Nat.reduceAdd, Nat.reduceLeDiff, Nat.reduceMul, Int.reduceLT, Int.reduceLE, Int.reduceAdd, Int.reduceSub, Int.reduceMul, Int.reduceNeg, Int.reduceToNat, Int.reduceEq, s.h1, s.h3, s.h4, s.h5, s.h6, s.h7, s.h8, s.h9, s.h10, s.h11, s.h12, h15, hnl, eq]
    exact ⟨mq - 1, by omega, s.toB1.ext (by simp only [go_sem, reduceCtorEq, reduceIte, Nat.reduceEqDiff, Nat.reduceAdd, Nat.reduceLeDiff, Nat.reduceMul, Int.reduceLT, Int.reduceLE, Int.reduceAdd, Int.reduceSub, Int.reduceMul, Int.reduceNeg, Int.reduceToNat, Int.reduceEq]) (by simp only [go_sem, reduceCtorEq, reduceIte, Nat.reduceEqDiff, Nat.reduceAdd, Nat.reduceLeDiff, Nat.reduceMul, Int.reduceLT, Int.reduceLE, Int.reduceAdd, Int.reduceSub, Int.reduceMul, Int.reduceNeg, Int.reduceToNat, Int.reduceEq]) (by simp only [go_sem, reduceCtorEq, reduceIte, Nat.reduceEqDiff, Nat.reduceAdd, Nat.reduceLeDiff, Nat.reduceMul, Int.reduceLT, Int.reduceLE, Int.reduceAdd, Int.reduceSub, Int.reduceMul, Int.reduceNeg, Int.reduceToNat, Int.reduceEq]) (by simp only [go_sem, reduceCtorEq, reduceIte, Nat.reduceEqDiff, Nat.reduceAdd, Nat.reduceLeDiff, Nat.reduceMul, Int.reduceLT, Int.reduceLE, Int.reduceAdd, Int.reduceSub, Int.reduceMul, Int.reduceNeg, Int.reduceToNat, Int.reduceEq]) (by simp only [go_sem, reduceCtorEq, reduceIte, Nat.reduceEqDiff, Nat.reduceAdd, Nat.reduceLeDiff, Nat.reduceMul, Int.reduceLT, Int.reduceLE, Int.reduceAdd, Int.reduceSub, Int.reduceMul, Int.reduceNeg, Int.reduceToNat, Int.reduceEq]), q + 1, by omega, by simp only [go_sem, reduceCtorEq, reduceIte, Nat.reduceEqDiff, Nat.reduceAdd, Nat.reduceLeDiff, Nat.reduceMul, Int.reduceLT, Int.reduceLE, Int.reduceAdd, Int.reduceSub, Int.reduceMul, Int.reduceNeg, Int.reduceToNat, Int.reduceEq]; rfl⟩
  have ens : IntKind.i64.wrap ((ns : Int) + 1) = ns + 1 := w64 (by omega) (by omega)
  simp only [go_sem, reduceCtorEq, reduceIte, Nat.reduceEqDiff, Nat.reduceAdd, Nat.reduceLeDiff, Nat.reduceMul, Int.reduceLT, Int.reduceLE, Int.reduceAdd, Int.reduceSub, Int.reduceMul, Int.reduceNeg, Int.reduceToNat, Int.reduceEq, s.h1, s.h3, s.h4, s.h5, s.h6, s.h7, s.h8, s.h9, s.h10, s.h11, s.h12, h15, hnl]
  refine loop_of (tI (fzOf W) r [.slice aV lv.length cV, vN] i k r5 r6 q r11 r12 op kd a b x y yes ns) 5 ?_ ?_
  · exact ⟨s.ext (by simp only [go_sem, reduceCtorEq, reduceIte, Nat.reduceEqDiff, Nat.reduceAdd, Nat.reduceLeDiff, Nat.reduceMul, Int.reduceLT, Int.reduceLE, Int.reduceAdd, Int.reduceSub, Int.reduceMul, Int.reduceNeg, Int.reduceToNat, Int.reduceEq]) (by simp only [go_sem, reduceCtorEq, reduceIte, Nat.reduceEqDiff, Nat.reduceAdd, Nat.reduceLeDiff, Nat.reduceMul, Int.reduceLT, Int.reduceLE, Int.reduceAdd, Int.reduceSub, Int.reduceMul, Int.reduceNeg, Int.reduceToNat, Int.reduceEq]) (by simp only [go_sem, reduceCtorEq, reduceIte, Nat.reduceEqDiff, Nat.reduceAdd, Nat.reduceLeDiff, Nat.reduceMul, Int.reduceLT, Int.reduceLE, Int.reduceAdd, Int.reduceSub, Int.reduceMul, Int.reduceNeg, Int.reduceToNat, Int.reduceEq]) (by simp only [go_sem, reduceCtorEq, reduceIte, Nat.reduceEqDiff, Nat.reduceAdd, Nat.reduceLeDiff, Nat.reduceMul, Int.reduceLT, Int.reduceLE, Int.reduceAdd, Int.reduceSub, Int.reduceMul, Int.reduceNeg, Int.reduceToNat, Int.reduceEq]) (by simp only [go_sem, reduceCtorEq, reduceIte, Nat.reduceEqDiff, Nat.reduceAdd, Nat.reduceLeDiff, Nat.reduceMul, Int.reduceLT, Int.reduceLE, Int.reduceAdd, Int.reduceSub, Int.reduceMul, Int.reduceNeg, Int.reduceToNat, Int.reduceEq]) (by simp only [go_sem, reduceCtorEq, reduceIte, Nat.reduceEqDiff, Nat.reduceAdd, Nat.reduceLeDiff, Nat.reduceMul, Int.reduceLT, Int.reduceLE, Int.reduceAdd, Int.reduceSub, Int.reduceMul, Int.reduceNeg, Int.reduceToNat, Int.reduceEq]) (by simp only [go_sem, reduceCtorEq, reduceIte, Nat.reduceEqDiff, Nat.reduceAdd, Nat.reduceLeDiff, Nat.reduceMul, Int.reduceLT, Int.reduceLE, Int.reduceAdd, Int.reduceSub, Int.reduceMul, Int.reduceNeg, Int.reduceToNat, Int.reduceEq]) (by simp only [go_sem, reduceCtorEq, reduceIte, Nat.reduceEqDiff, Nat.reduceAdd, Nat.reduceLeDiff, Nat.reduceMul, Int.reduceLT, Int.reduceLE, Int.reduceAdd, Int.reduceSub, Int.reduceMul, Int.reduceNeg, Int.reduceToNat, Int.reduceEq]) (by simp only [go_sem, reduceCtorEq, reduceIte, Nat.reduceEqDiff, Nat.reduceAdd, Nat.reduceLeDiff, Nat.reduceMul, Int.reduceLT, Int.reduceLE, Int.reduceAdd, Int.reduceSub, Int.reduceMul, Int.reduceNeg, Int.reduceToNat, Int.reduceEq]) (by simp only [go_sem, reduceCtorEq, reduceIte, Nat.reduceEqDiff, Nat.reduceAdd, Nat.reduceLeDiff, Nat.reduceMul, Int.reduceLT, Int.reduceLE, Int.reduceAdd, Int.reduceSub, Int.reduceMul, Int.reduceNeg, Int.reduceToNat, Int.reduceEq]) (by simp only [go_sem, reduceCtorEq, reduceIte, Nat.reduceEqDiff, Nat.reduceAdd, Nat.reduceLeDiff, Nat.reduceMul, Int.reduceLT, Int.reduceLE, Int.reduceAdd, Int.reduceSub, Int.reduceMul, Int.reduceNeg, Int.reduceToNat, Int.reduceEq]), by simp only [go_sem, reduceCtorEq, reduceIte, Nat.reduceEqDiff, Nat.reduceAdd, Nat.reduceLeDiff, Nat.reduceMul, Int.reduceLT, Int.reduceLE, Int.reduceAdd, Int.reduceSub, Int.reduceMul, Int.reduceNeg, Int.reduceToNat, Int.reduceEq, h15], 0, by omega, by simp only [go_sem, reduceCtorEq, reduceIte, Nat.reduceEqDiff, Nat.reduceAdd, Nat.reduceLeDiff, Nat.reduceMul, Int.reduceLT, Int.reduceLE, Int.reduceAdd, Int.reduceSub, Int.reduceMul, Int.reduceNeg, Int.reduceToNat, Int.reduceEq] <;> rfl⟩
  clear h15
  clear s
  rintro mt σ F M ⟨s, h15, nt, hnt, h16⟩
  obtain rfl := s.f
  by_cases htl : (nt : Int) < 5
  rotate_left
  · simp only [go_sem, reduceCtorEq, reduceIte, Nat.reduceEqDiff, Nat.reduceAdd, Nat.reduceLeDiff, Nat.reduceMul, Int.reduceLT, Int.reduceLE, Int.reduceAdd, Int.reduceSub, Int.reduceMul, Int.reduceNeg, Int.reduceToNat, Int.reduceEq, s.h1, s.h3, s.h4, s.h5, s.h6, s.h7, s.h8, s.h9, s.h10, s.h11, s.h12, h15, h16, htl, ens]
    exact ⟨ms - 1, by omega, s.ext (by simp only [go_sem, reduceCtorEq, reduceIte, Nat.reduceEqDiff, Nat.reduceAdd, Nat.reduceLeDiff, Nat.reduceMul, Int.reduceLT, Int.reduceLE, Int.reduceAdd, Int.reduceSub, Int.reduceMul, Int.reduceNeg, Int.reduceToNat, Int.reduceEq]) (by simp only [go_sem, reduceCtorEq, reduceIte, Nat.reduceEqDiff, Nat.reduceAdd, Nat.reduceLeDiff, Nat.reduceMul, Int.reduceLT, Int.reduceLE, Int.reduceAdd, Int.reduceSub, Int.reduceMul, Int.reduceNeg, Int.reduceToNat, Int.reduceEq]) (by simp only [go_sem, reduceCtorEq, reduceIte, Nat.reduceEqDiff, Nat.reduceAdd, Nat.reduceLeDiff, Nat.reduceMul, Int.reduceLT, Int.reduceLE, Int.reduceAdd, Int.reduceSub, Int.reduceMul, Int.reduceNeg, Int.reduceToNat, Int.reduceEq]) (by simp only [go_sem, reduceCtorEq, reduceIte, Nat.reduceEqDiff, Nat.reduceAdd, Nat.reduceLeDiff, Nat.reduceMul, Int.reduceLT, Int.reduceLE, Int.reduceAdd, Int.reduceSub, Int.reduceMul, Int.reduceNeg, Int.reduceToNat, Int.reduceEq]) (by simp only [go_sem, reduceCtorEq, reduceIte, Nat.reduceEqDiff, Nat.reduceAdd, Nat.reduceLeDiff, Nat.reduceMul, Int.reduceLT, Int.reduceLE, Int.reduceAdd, Int.reduceSub, Int.reduceMul, Int.reduceNeg, Int.reduceToNat, Int.reduceEq]) (by simp only [go_sem, reduceCtorEq, reduceIte, Nat.reduceEqDiff, Nat.reduceAdd, Nat.reduceLeDiff, Nat.reduceMul, Int.reduceLT, Int.reduceLE, Int.reduceAdd, Int.reduceSub, Int.reduceMul, Int.reduceNeg, Int.reduceToNat, Int.reduceEq]) (by simp only [go_sem, reduceCtorEq, reduceIte, Nat.reduceEqDiff, Nat.reduceAdd, Nat.reduceLeDiff, Nat.reduceMul, Int.reduceLT, Int.reduceLE, Int.reduceAdd, Int.reduceSub, Int.reduceMul, Int.reduceNeg, Int.reduceToNat, Int.reduceEq]) (by simp only [go_sem, reduceCtorEq, reduceIte, Nat.reduceEqDiff, Nat.reduceAdd, Nat.reduceLeDiff, Nat.reduceMul, Int.reduceLT, Int.reduceLE, Int.reduceAdd, Int.reduceSub, Int.reduceMul, Int.reduceNeg, Int.reduceToNat, Int.reduceEq]) (by simp only [go_sem, reduceCtorEq, reduceIte, Nat.reduceEqDiff, Nat.reduceAdd, Nat.reduceLeDiff, Nat.reduceMul, Int.reduceLT, Int.reduceLE, Int.reduceAdd, Int.reduceSub, Int.reduceMul, Int.reduceNeg, Int.reduceToNat, Int.reduceEq]) (by simp only [go_sem, reduceCtorEq, reduceIte, Nat.reduceEqDiff, Nat.reduceAdd, Nat.reduceLeDiff, Nat.reduceMul, Int.reduceLT, Int.reduceLE, Int.reduceAdd, Int.reduceSub, Int.reduceMul, Int.reduceNeg, Int.reduceToNat, Int.reduceEq]) (by simp only [go_sem, reduceCtorEq, reduceIte, Nat.reduceEqDiff, Nat.reduceAdd, Nat.reduceLeDiff, Nat.reduceMul, Int.reduceLT, Int.reduceLE, Int.reduceAdd, Int.reduceSub, Int.reduceMul, Int.reduceNeg, Int.reduceToNat, Int.reduceEq]), ns + 1, by omega, by simp only [go_sem, reduceCtorEq, reduceIte, Nat.reduceEqDiff, Nat.reduceAdd, Nat.reduceLeDiff, Nat.reduceMul, Int.reduceLT, Int.reduceLE, Int.reduceAdd, Int.reduceSub, Int.reduceMul, Int.reduceNeg, Int.reduceToNat, Int.reduceEq]; rfl⟩
  have ent : IntKind.i64.wrap ((nt : Int) + 1) = nt + 1 := w64 (by omega) (by omega)
  have b5 := blk_M (F := fzOf W) s.f5
  have b6 := blk_M (F := fzOf W) s.f6
  have b11 := blk_M (F := fzOf W) s.f11
  have b12 := blk_M (F := fzOf W) s.f12
  have la0 := arcA.l0
  have la1 := arcA.l1
  have lb0 := arcB.l0
  have lb1 := arcB.l1
  have al := arcA.low
  have bl := arcB.low
  have q1 : IntKind.i64.wrap (la + ns) = la + ns := w64 (by omega) (by omega)
  have q2 : (la + ns).tmod 256 = (la + ns) % 256 := Int.tmod_eq_emod_of_nonneg (by omega)
  have q3 : IntKind.i64.wrap (lb + nt) = lb + nt := w64 (by omega) (by omega)
  have q4 : (lb + nt).tmod 256 = (lb + nt) % 256 := Int.tmod_eq_emod_of_nonneg (by omega)
  have hau := arcA.has ns (by omega)
  have hbv := arcB.has nt (by omega)
  have u0 : 0 ≤ (la + ns) % 256 ∧ (la + ns) % 256 ≤ 255 := by omega
  have v0 : 0 ≤ (lb + nt) % 256 ∧ (lb + nt) % 256 ≤ 255 := by omega
  simp only [go_sem, reduceCtorEq, reduceIte, Nat.reduceEqDiff, Nat.reduceAdd, Nat.reduceLeDiff, Nat.reduceMul, Int.reduceLT, Int.reduceLE, Int.reduceAdd, Int.reduceSub, Int.reduceMul, Int.reduceNeg, Int.reduceToNat, Int.reduceEq, s.h1, s.h3, s.h4, s.h5, s.h6, s.h7, s.h8, s.h9, s.h10, s.h11, s.h12, h15, h16, htl, b5, b6, al, bl, q1, q2, q3, q4, n256, not_false_eq_true]
  generalize (la + ns) % 256 = u at *
  generalize (lb + nt) % 256 = v at *
  have m8k : mostV (ofW kd) = 255 := by rw [okd.1]; exact m8
  refine callK_same (k44q _ _ op kd u v hop u0.1 (by rw [m8k]; exact u0.2) v0.1 (by rw [m8k]; exact v0.2)) ?_
  have kp1 := p.keep u v u0.1 (by rw [arcA.w, m8]; exact u0.2) hau v0.1 (by rw [arcB.w, m8]; exact v0.2) hbv
  have nxt : ∀ σ', Ax.look σ' 1 = Ax.look σ 1 → Ax.look σ' 3 = Ax.look σ 3 → Ax.look σ' 4 = Ax.look σ 4 → Ax.look σ' 5 = Ax.look σ 5 → Ax.look σ' 6 = Ax.look σ 6 → Ax.look σ' 7 = Ax.look σ 7 → Ax.look σ' 8 = Ax.look σ 8 → Ax.look σ' 9 = Ax.look σ 9 → Ax.look σ' 10 = Ax.look σ 10 → Ax.look σ' 11 = Ax.look σ 11 → Ax.look σ' 12 = Ax.look σ 12 → Ax.look σ' 15 = Ax.look σ 15 → Ax.look σ' 16 = some (.int .i64 (nt + 1)) →
      ∃ m, m < mt ∧ tI (fzOf W) r [.slice aV lv.length cV, vN] i k r5 r6 q r11 r12 op kd a b x y yes ns m σ' (fzOf W) M :=
    fun σ' e1 e3 e4 e5 e6 e7 e8 e9 e10 e11 e12 e15 e16 => ⟨mt - 1, by omega, s.ext e1 e3 e4 e5 e6 e7 e8 e9 e10 e11 e12, e15.trans h15, nt + 1, by omega, e16⟩
  have z1 : ¬ (0 : Int) = 1 := by decide
  by_cases hqq : askV op kd u v = yes
  · obtain ⟨kx, ky⟩ := kp1 hqq
    cases hy : yes
    · rw [hy] at hqq nxt
      simp only [hqq, Bool.false_eq_true, if_false, z1, go_sem, reduceCtorEq, reduceIte, Nat.reduceEqDiff, Nat.reduceAdd, Nat.reduceLeDiff, Nat.reduceMul, Int.reduceLT, Int.reduceLE, Int.reduceAdd, Int.reduceSub, Int.reduceMul, Int.reduceNeg, Int.reduceToNat, Int.reduceEq, s.h1, s.h3, s.h4, s.h5, s.h6, s.h7, s.h8, s.h9, s.h10, s.h11, s.h12, h15, h16, b5, b6, b11, b12, Bool.true_beq, Bool.false_beq, hy]
      refine callK_same (k40 _ _ x u) ?_
      simp only [go_sem, reduceCtorEq, reduceIte, Nat.reduceEqDiff, Nat.reduceAdd, Nat.reduceLeDiff, Nat.reduceMul, Int.reduceLT, Int.reduceLE, Int.reduceAdd, Int.reduceSub, Int.reduceMul, Int.reduceNeg, Int.reduceToNat, Int.reduceEq, s.h1, s.h3, s.h4, s.h5, s.h6, s.h7, s.h8, s.h9, s.h10, s.h11, s.h12, h15, h16, b5, b6, b11, b12, kx]
      refine callK_same (k40 _ _ y v) ?_
      simp only [go_sem, reduceCtorEq, reduceIte, Nat.reduceEqDiff, Nat.reduceAdd, Nat.reduceLeDiff, Nat.reduceMul, Int.reduceLT, Int.reduceLE, Int.reduceAdd, Int.reduceSub, Int.reduceMul, Int.reduceNeg, Int.reduceToNat, Int.reduceEq, s.h1, s.h3, s.h4, s.h5, s.h6, s.h7, s.h8, s.h9, s.h10, s.h11, s.h12, h15, h16, b5, b6, b11, b12, ky, ent]
      exact nxt _ (by simp only [go_sem, reduceCtorEq, reduceIte, Nat.reduceEqDiff, Nat.reduceAdd, Nat.reduceLeDiff, Nat.reduceMul, Int.reduceLT, Int.reduceLE, Int.reduceAdd, Int.reduceSub, Int.reduceMul, Int.reduceNeg, Int.reduceToNat, Int.reduceEq]) (by simp only [go_sem, reduceCtorEq, reduceIte, Nat.reduceEqDiff, Nat.reduceAdd, Nat.reduceLeDiff, Nat.reduceMul, Int.reduceLT, Int.reduceLE, Int.reduceAdd, Int.reduceSub, Int.reduceMul, Int.reduceNeg, Int.reduceToNat, Int.reduceEq]) (by simp only [go_sem, reduceCtorEq, reduceIte, Nat.reduceEqDiff, Nat.reduceAdd, Nat.reduceLeDiff, Nat.reduceMul, Int.reduceLT, Int.reduceLE, Int.reduceAdd, Int.reduceSub, Int.reduceMul, Int.reduceNeg, Int.reduceToNat, Int.reduceEq]) (by simp only [go_sem, reduceCtorEq, reduceIte, Nat.reduceEqDiff, Nat.reduceAdd, Nat.reduceLeDiff, Nat.reduceMul, Int.reduceLT, Int.reduceLE, Int.reduceAdd, Int.reduceSub, Int.reduceMul, Int.reduceNeg, Int.reduceToNat, Int.reduceEq]) (by simp only [go_sem, reduceCtorEq, reduceIte, Nat.reduceEqDiff, Nat.reduceAdd, Nat.reduceLeDiff, Nat.reduceMul, Int.reduceLT, Int.reduceLE, Int.reduceAdd, Int.reduceSub, Int.reduceMul, Int.reduceNeg, Int.reduceToNat, Int.reduceEq]) (by simp only [go_sem, reduceCtorEq, reduceIte, Nat.reduceEqDiff, Nat.reduceAdd, Nat.reduceLeDiff, Nat.reduceMul, Int.reduceLT, Int.reduceLE, Int.reduceAdd, Int.reduceSub, Int.reduceMul, Int.reduceNeg, Int.reduceToNat, Int.reduceEq]) (by simp only [go_sem, reduceCtorEq, reduceIte, Nat.reduceEqDiff, Nat.reduceAdd, Nat.reduceLeDiff, Nat.reduceMul, Int.reduceLT, Int.reduceLE, Int.reduceAdd, Int.reduceSub, Int.reduceMul, Int.reduceNeg, Int.reduceToNat, Int.reduceEq]) (by simp only [go_sem, reduceCtorEq, reduceIte, Nat.reduceEqDiff, Nat.reduceAdd, Nat.reduceLeDiff, Nat.reduceMul, Int.reduceLT, Int.reduceLE, Int.reduceAdd, Int.reduceSub, Int.reduceMul, Int.reduceNeg, Int.reduceToNat, Int.reduceEq]) (by simp only [go_sem, reduceCtorEq, reduceIte, Nat.reduceEqDiff, Nat.reduceAdd, Nat.reduceLeDiff, Nat.reduceMul, Int.reduceLT, Int.reduceLE, Int.reduceAdd, Int.reduceSub, Int.reduceMul, Int.reduceNeg, Int.reduceToNat, Int.reduceEq]) (by simp only [go_sem, reduceCtorEq, reduceIte, Nat.reduceEqDiff, Nat.reduceAdd, Nat.reduceLeDiff, Nat.reduceMul, Int.reduceLT, Int.reduceLE, Int.reduceAdd, Int.reduceSub, Int.reduceMul, Int.reduceNeg, Int.reduceToNat, Int.reduceEq]) (by simp only [go_sem, reduceCtorEq, reduceIte, Nat.reduceEqDiff, Nat.reduceAdd, Nat.reduceLeDiff, Nat.reduceMul, Int.reduceLT, Int.reduceLE, Int.reduceAdd, Int.reduceSub, Int.reduceMul, Int.reduceNeg, Int.reduceToNat, Int.reduceEq]) (by simp only [go_sem, reduceCtorEq, reduceIte, Nat.reduceEqDiff, Nat.reduceAdd, Nat.reduceLeDiff, Nat.reduceMul, Int.reduceLT, Int.reduceLE, Int.reduceAdd, Int.reduceSub, Int.reduceMul, Int.reduceNeg, Int.reduceToNat, Int.reduceEq]) (by simp only [go_sem, reduceCtorEq, reduceIte, Nat.reduceEqDiff, Nat.reduceAdd, Nat.reduceLeDiff, Nat.reduceMul, Int.reduceLT, Int.reduceLE, Int.reduceAdd, Int.reduceSub, Int.reduceMul, Int.reduceNeg, Int.reduceToNat, Int.reduceEq])
    · rw [hy] at hqq nxt
      simp only [hqq, if_true, go_sem, reduceCtorEq, reduceIte, Nat.reduceEqDiff, Nat.reduceAdd, Nat.reduceLeDiff, Nat.reduceMul, Int.reduceLT, Int.reduceLE, Int.reduceAdd, Int.reduceSub, Int.reduceMul, Int.reduceNeg, Int.reduceToNat, Int.reduceEq, s.h1, s.h3, s.h4, s.h5, s.h6, s.h7, s.h8, s.h9, s.h10, s.h11, s.h12, h15, h16, b5, b6, b11, b12, Bool.true_beq, Bool.false_beq, hy]
      refine callK_same (k40 _ _ x u) ?_
      simp only [go_sem, reduceCtorEq, reduceIte, Nat.reduceEqDiff, Nat.reduceAdd, Nat.reduceLeDiff, Nat.reduceMul, Int.reduceLT, Int.reduceLE, Int.reduceAdd, Int.reduceSub, Int.reduceMul, Int.reduceNeg, Int.reduceToNat, Int.reduceEq, s.h1, s.h3, s.h4, s.h5, s.h6, s.h7, s.h8, s.h9, s.h10, s.h11, s.h12, h15, h16, b5, b6, b11, b12, kx]
      refine callK_same (k40 _ _ y v) ?_
      simp only [go_sem, reduceCtorEq, reduceIte, Nat.reduceEqDiff, Nat.reduceAdd, Nat.reduceLeDiff, Nat.reduceMul, Int.reduceLT, Int.reduceLE, Int.reduceAdd, Int.reduceSub, Int.reduceMul, Int.reduceNeg, Int.reduceToNat, Int.reduceEq, s.h1, s.h3, s.h4, s.h5, s.h6, s.h7, s.h8, s.h9, s.h10, s.h11, s.h12, h15, h16, b5, b6, b11, b12, ky, ent]
      exact nxt _ (by simp only [go_sem, reduceCtorEq, reduceIte, Nat.reduceEqDiff, Nat.reduceAdd, Nat.reduceLeDiff, Nat.reduceMul, Int.reduceLT, Int.reduceLE, Int.reduceAdd, Int.reduceSub, Int.reduceMul, Int.reduceNeg, Int.reduceToNat, Int.reduceEq]) (by simp only [go_sem, reduceCtorEq, reduceIte, Nat.reduceEqDiff, Nat.reduceAdd, Nat.reduceLeDiff, Nat.reduceMul, Int.reduceLT, Int.reduceLE, Int.reduceAdd, Int.reduceSub, Int.reduceMul, Int.reduceNeg, Int.reduceToNat, Int.reduceEq]) (by simp only [go_sem, reduceCtorEq, reduceIte, Nat.reduceEqDiff, Nat.reduceAdd, Nat.reduceLeDiff, Nat.reduceMul, Int.reduceLT, Int.reduceLE, Int.reduceAdd, Int.reduceSub, Int.reduceMul, Int.reduceNeg, Int.reduceToNat, Int.reduceEq]) (by simp only [go_sem, reduceCtorEq, reduceIte, Nat.reduceEqDiff, Nat.reduceAdd, Nat.reduceLeDiff, Nat.reduceMul, Int.reduceLT, Int.reduceLE, Int.reduceAdd, Int.reduceSub, Int.reduceMul, Int.reduceNeg, Int.reduceToNat, Int.reduceEq]) (by simp only [go_sem, reduceCtorEq, reduceIte, Nat.reduceEqDiff, Nat.reduceAdd, Nat.reduceLeDiff, Nat.reduceMul, Int.reduceLT, Int.reduceLE, Int.reduceAdd, Int.reduceSub, Int.reduceMul, Int.reduceNeg, Int.reduceToNat, Int.reduceEq]) (by simp only [go_sem, reduceCtorEq, reduceIte, Nat.reduceEqDiff, Nat.reduceAdd, Nat.reduceLeDiff, Nat.reduceMul, Int.reduceLT, Int.reduceLE, Int.reduceAdd, Int.reduceSub, Int.reduceMul, Int.reduceNeg, Int.reduceToNat, Int.reduceEq]) (by simp only [go_sem, reduceCtorEq, reduceIte, Nat.reduceEqDiff, Nat.reduceAdd, Nat.reduceLeDiff, Nat.reduceMul, Int.reduceLT, Int.reduceLE, Int.reduceAdd, Int.reduceSub, Int.reduceMul, Int.reduceNeg, Int.reduceToNat, Int.reduceEq]) (by simp only [go_sem, reduceCtorEq, reduceIte, Nat.reduceEqDiff, Nat.reduceAdd, Nat.reduceLeDiff, Nat.reduceMul, Int.reduceLT, Int.reduceLE, Int.reduceAdd, Int.reduceSub, Int.reduceMul, Int.reduceNeg, Int.reduceToNat, Int.reduceEq]) (by simp only [go_sem, reduceCtorEq, reduceIte, Nat.reduceEqDiff, Nat.reduceAdd, Nat.reduceLeDiff, Nat.reduceMul, Int.reduceLT, Int.reduceLE, Int.reduceAdd, Int.reduceSub, Int.reduceMul, Int.reduceNeg, Int.reduceToNat, Int.reduceEq]) (by simp only [go_sem, reduceCtorEq, reduceIte, Nat.reduceEqDiff, Nat.reduceAdd, Nat.reduceLeDiff, Nat.reduceMul, Int.reduceLT, Int.reduceLE, Int.reduceAdd, Int.reduceSub, Int.reduceMul, Int.reduceNeg, Int.reduceToNat, Int.reduceEq]) (by simp only [go_sem, reduceCtorEq, reduceIte, Nat.reduceEqDiff, Nat.reduceAdd, Nat.reduceLeDiff, Nat.reduceMul, Int.reduceLT, Int.reduceLE, Int.reduceAdd, Int.reduceSub, Int.reduceMul, Int.reduceNeg, Int.reduceToNat, Int.reduceEq]) (by simp only [go_sem, reduceCtorEq, reduceIte, Nat.reduceEqDiff, Nat.reduceAdd, Nat.reduceLeDiff, Nat.reduceMul, Int.reduceLT, Int.reduceLE, Int.reduceAdd, Int.reduceSub, Int.reduceMul, Int.reduceNeg, Int.reduceToNat, Int.reduceEq]) (by simp only [go_sem, reduceCtorEq, reduceIte, Nat.reduceEqDiff, Nat.reduceAdd, Nat.reduceLeDiff, Nat.reduceMul, Int.reduceLT, Int.reduceLE, Int.reduceAdd, Int.reduceSub, Int.reduceMul, Int.reduceNeg, Int.reduceToNat, Int.reduceEq])
  · cases hy : yes
    · have hq' : askV op kd u v = true := by
        cases h : askV op kd u v
        · rw [h, hy] at hqq; exact absurd rfl hqq
        · rfl
      rw [hy] at nxt
      simp only [hq', if_true, go_sem, reduceCtorEq, reduceIte, Nat.reduceEqDiff, Nat.reduceAdd, Nat.reduceLeDiff, Nat.reduceMul, Int.reduceLT, Int.reduceLE, Int.reduceAdd, Int.reduceSub, Int.reduceMul, Int.reduceNeg, Int.reduceToNat, Int.reduceEq, s.h1, s.h3, s.h4, s.h5, s.h6, s.h7, s.h8, s.h9, s.h10, s.h11, s.h12, h15, h16, b5, b6, b11, b12, Bool.true_beq, Bool.false_beq, hy, ent]
      exact nxt _ (by simp only [go_sem, reduceCtorEq, reduceIte, Nat.reduceEqDiff, Nat.reduceAdd, Nat.reduceLeDiff, Nat.reduceMul, Int.reduceLT, Int.reduceLE, Int.reduceAdd, Int.reduceSub, Int.reduceMul, Int.reduceNeg, Int.reduceToNat, Int.reduceEq]) (by simp only [go_sem, reduceCtorEq, reduceIte, Nat.reduceEqDiff, Nat.reduceAdd, Nat.reduceLeDiff, Nat.reduceMul, Int.reduceLT, Int.reduceLE, Int.reduceAdd, Int.reduceSub, Int.reduceMul, Int.reduceNeg, Int.reduceToNat, Int.reduceEq]) (by simp only [go_sem, reduceCtorEq, reduceIte, Nat.reduceEqDiff, Nat.reduceAdd, Nat.reduceLeDiff, Nat.reduceMul, Int.reduceLT, Int.reduceLE, Int.reduceAdd, Int.reduceSub, Int.reduceMul, Int.reduceNeg, Int.reduceToNat, Int.reduceEq]) (by simp only [go_sem, reduceCtorEq, reduceIte, Nat.reduceEqDiff, Nat.reduceAdd, Nat.reduceLeDiff, Nat.reduceMul, Int.reduceLT, Int.reduceLE, Int.reduceAdd, Int.reduceSub, Int.reduceMul, Int.reduceNeg, Int.reduceToNat, Int.reduceEq]) (by simp only [go_sem, reduceCtorEq, reduceIte, Nat.reduceEqDiff, Nat.reduceAdd, Nat.reduceLeDiff, Nat.reduceMul, Int.reduceLT, Int.reduceLE, Int.reduceAdd, Int.reduceSub, Int.reduceMul, Int.reduceNeg, Int.reduceToNat, Int.reduceEq]) (by simp only [go_sem, reduceCtorEq, reduceIte, Nat.reduceEqDiff, Nat.reduceAdd, Nat.reduceLeDiff, Nat.reduceMul, Int.reduceLT, Int.reduceLE, Int.reduceAdd, Int.reduceSub, Int.reduceMul, Int.reduceNeg, Int.reduceToNat, Int.reduceEq]) (by simp only [go_sem, reduceCtorEq, reduceIte, Nat.reduceEqDiff, Nat.reduceAdd, Nat.reduceLeDiff, Nat.reduceMul, Int.reduceLT, Int.reduceLE, Int.reduceAdd, Int.reduceSub, Int.reduceMul, Int.reduceNeg, Int.reduceToNat, Int.reduceEq]) (by simp only [go_sem, reduceCtorEq, reduceIte, Nat.reduceEqDiff, Nat.reduceAdd, Nat.reduceLeDiff, Nat.reduceMul, Int.reduceLT, Int.reduceLE, Int.reduceAdd, Int.reduceSub, Int.reduceMul, Int.reduceNeg, Int.reduceToNat, Int.reduceEq]) (by simp only [go_sem, reduceCtorEq, reduceIte, Nat.reduceEqDiff, Nat.reduceAdd, Nat.reduceLeDiff, Nat.reduceMul, Int.reduceLT, Int.reduceLE, Int.reduceAdd, Int.reduceSub, Int.reduceMul, Int.reduceNeg, Int.reduceToNat, Int.reduceEq]) (by simp only [go_sem, reduceCtorEq, reduceIte, Nat.reduceEqDiff, Nat.reduceAdd, Nat.reduceLeDiff, Nat.reduceMul, Int.reduceLT, Int.reduceLE, Int.reduceAdd, Int.reduceSub, Int.reduceMul, Int.reduceNeg, Int.reduceToNat, Int.reduceEq]) (by simp only [go_sem, reduceCtorEq, reduceIte, Nat.reduceEqDiff, Nat.reduceAdd, Nat.reduceLeDiff, Nat.reduceMul, Int.reduceLT, Int.reduceLE, Int.reduceAdd, Int.reduceSub, Int.reduceMul, Int.reduceNeg, Int.reduceToNat, Int.reduceEq]) (by simp only [go_sem, reduceCtorEq, reduceIte, Nat.reduceEqDiff, Nat.reduceAdd, Nat.reduceLeDiff, Nat.reduceMul, Int.reduceLT, Int.reduceLE, Int.reduceAdd, Int.reduceSub, Int.reduceMul, Int.reduceNeg, Int.reduceToNat, Int.reduceEq]) (by simp only [go_sem, reduceCtorEq, reduceIte, Nat.reduceEqDiff, Nat.reduceAdd, Nat.reduceLeDiff, Nat.reduceMul, Int.reduceLT, Int.reduceLE, Int.reduceAdd, Int.reduceSub, Int.reduceMul, Int.reduceNeg, Int.reduceToNat, Int.reduceEq])
    · have hq' : askV op kd u v = false := by
        cases h : askV op kd u v
        · rfl
        · rw [h, hy] at hqq; exact absurd rfl hqq
      rw [hy] at nxt
      simp only [hq', Bool.false_eq_true, if_false, z1, go_sem, reduceCtorEq, reduceIte, Nat.reduceEqDiff, Nat.reduceAdd, Nat.reduceLeDiff, Nat.reduceMul, Int.reduceLT, Int.reduceLE, Int.reduceAdd, Int.reduceSub, Int.reduceMul, Int.reduceNeg, Int.reduceToNat, Int.reduceEq, s.h1, s.h3, s.h4, s.h5, s.h6, s.h7, s.h8, s.h9, s.h10, s.h11, s.h12, h15, h16, b5, b6, b11, b12, Bool.true_beq, Bool.false_beq, hy, ent]
      exact nxt _ (by simp only [go_sem, reduceCtorEq, reduceIte, Nat.reduceEqDiff, Nat.reduceAdd, Nat.reduceLeDiff, Nat.reduceMul, Int.reduceLT, Int.reduceLE, Int.reduceAdd, Int.reduceSub, Int.reduceMul, Int.reduceNeg, Int.reduceToNat, Int.reduceEq]) (by simp only [go_sem, reduceCtorEq, reduceIte, Nat.reduceEqDiff, Nat.reduceAdd, Nat.reduceLeDiff, Nat.reduceMul, Int.reduceLT, Int.reduceLE, Int.reduceAdd, Int.reduceSub, Int.reduceMul, Int.reduceNeg, Int.reduceToNat, Int.reduceEq]) (by simp only [go_sem, reduceCtorEq, reduceIte, Nat.reduceEqDiff, Nat.reduceAdd, Nat.reduceLeDiff, Nat.reduceMul, Int.reduceLT, Int.reduceLE, Int.reduceAdd, Int.reduceSub, Int.reduceMul, Int.reduceNeg, Int.reduceToNat, Int.reduceEq]) (by simp only [go_sem, reduceCtorEq, reduceIte, Nat.reduceEqDiff, Nat.reduceAdd, Nat.reduceLeDiff, Nat.reduceMul, Int.reduceLT, Int.reduceLE, Int.reduceAdd, Int.reduceSub, Int.reduceMul, Int.reduceNeg, Int.reduceToNat, Int.reduceEq]) (by simp only [go_sem, reduceCtorEq, reduceIte, Nat.reduceEqDiff, Nat.reduceAdd, Nat.reduceLeDiff, Nat.reduceMul, Int.reduceLT, Int.reduceLE, Int.reduceAdd, Int.reduceSub, Int.reduceMul, Int.reduceNeg, Int.reduceToNat, Int.reduceEq]) (by simp only [go_sem, reduceCtorEq, reduceIte, Nat.reduceEqDiff, Nat.reduceAdd, Nat.reduceLeDiff, Nat.reduceMul, Int.reduceLT, Int.reduceLE, Int.reduceAdd, Int.reduceSub, Int.reduceMul, Int.reduceNeg, Int.reduceToNat, Int.reduceEq]) (by simp only [go_sem, reduceCtorEq, reduceIte, Nat.reduceEqDiff, Nat.reduceAdd, Nat.reduceLeDiff, Nat.reduceMul, Int.reduceLT, Int.reduceLE, Int.reduceAdd, Int.reduceSub, Int.reduceMul, Int.reduceNeg, Int.reduceToNat, Int.reduceEq]) (by simp only [go_sem, reduceCtorEq, reduceIte, Nat.reduceEqDiff, Nat.reduceAdd, Nat.reduceLeDiff, Nat.reduceMul, Int.reduceLT, Int.reduceLE, Int.reduceAdd, Int.reduceSub, Int.reduceMul, Int.reduceNeg, Int.reduceToNat, Int.reduceEq]) (by simp only [go_sem, reduceCtorEq, reduceIte, Nat.reduceEqDiff, Nat.reduceAdd, Nat.reduceLeDiff, Nat.reduceMul, Int.reduceLT, Int.reduceLE, Int.reduceAdd, Int.reduceSub, Int.reduceMul, Int.reduceNeg, Int.reduceToNat, Int.reduceEq]) (by simp only [go_sem, reduceCtorEq, reduceIte, Nat.reduceEqDiff, Nat.reduceAdd, Nat.reduceLeDiff, Nat.reduceMul, Int.reduceLT, Int.reduceLE, Int.reduceAdd, Int.reduceSub, Int.reduceMul, Int.reduceNeg, Int.reduceToNat, Int.reduceEq]) (by simp only [go_sem, reduceCtorEq, reduceIte, Nat.reduceEqDiff, Nat.reduceAdd, Nat.reduceLeDiff, Nat.reduceMul, Int.reduceLT, Int.reduceLE, Int.reduceAdd, Int.reduceSub, Int.reduceMul, Int.reduceNeg, Int.reduceToNat, Int.reduceEq]) (by simp only [go_sem, reduceCtorEq, reduceIte, Nat.reduceEqDiff, Nat.reduceAdd, Nat.reduceLeDiff, Nat.reduceMul, Int.reduceLT, Int.reduceLE, Int.reduceAdd, Int.reduceSub, Int.reduceMul, Int.reduceNeg, Int.reduceToNat, Int.reduceEq]) (by simp only [go_sem, reduceCtorEq, reduceIte, Nat.reduceEqDiff, Nat.reduceAdd, Nat.reduceLeDiff, Nat.reduceMul, Int.reduceLT, Int.reduceLE, Int.reduceAdd, Int.reduceSub, Int.reduceMul, Int.reduceNeg, Int.reduceToNat, Int.reduceEq])
end Go.Proofs.Ytmaclakgkllojaa.filterSmall
