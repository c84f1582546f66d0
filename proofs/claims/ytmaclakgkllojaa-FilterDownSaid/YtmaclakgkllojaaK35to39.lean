/- Parts K35to39: the machine's runs of small codes, contracts of functions, plain facts. -/
import Derived.Test.YtmaclakgkllojaaProg
import Derived.Test.YtmaclakgkllojaaK30to34
namespace Go.Proofs.Try.S
open Go Go.Ax Go.Ax.N
set_option maxRecDepth 100000

/-- cellar/filter.Down -/
def c47 : SF := ⟨26, [.c true 6 8, .t 9], (.seq (.ops [k 6 (.bx 34 (t 2)),
 k 7 (.bx 34 (t 3)),
 k 8 (.al 34 [.int .i64 0, .bool false, .int .i64 0, .int .i64 0, .int .i64 0, .int .i64 0]),
 o 9 (.mv (i 0))])
 (.seq (.seq (.ops [o 10 (.mv (t 0)),
 o 11 (.ld true 6 (t 6)),
 k 12 (.ca (.func 83) [(t 10), (t 11)]),
 o 13 (.un .not (t 12)),
 o 14 (.mv (t 13)),
 og 15 14 false (.mv (t 1)),
 og 16 14 false (.ld true 6 (t 7)),
 ⟨some 17, some (14, false), .ca (.func 83) [(t 15), (t 16)]⟩,
 og 18 14 false (.un .not (t 17)),
 o 19 (.pick (t 14) (b true) (t 18))])
 (.cond (t 19)
 (.seq (.ops [o 20 (.bd [.int .i64 0, .bool false, .int .i64 0, .int .i64 0, .int .i64 0, .int .i64 0] []),
 kn (.st [] 6 (t 8) (t 20)),
 o 9 (.mv (i 1))])
 .ret)
 .skip))
 (.seq (.ops [o 21 (.mv (t 0)),
 o 22 (.mv (t 1)),
 o 23 (.ld true 6 (t 6)),
 o 24 (.ld true 6 (t 7)),
 k 25 (.ca (.func 90) [(t 21), (t 22), (t 23), (t 24)]),
 kn (.st [] 6 (t 8) (t 25)),
 o 9 (.mv (i 0))])
 .ret)))⟩
theorem e47 : slimF Try.prog Try.f47 [] = some c47 := by kernel_rfl
/-- cellar/filter.Back -/
def c90 : SF := ⟨47, [.c true 6 8], (.seq (.ops [k 6 (.bx 34 (t 2)),
 k 7 (.bx 34 (t 3)),
 k 8 (.al 34 [.int .i64 0, .bool false, .int .i64 0, .int .i64 0, .int .i64 0, .int .i64 0])])
 (.seq (.ops [o 15 (.ld true 6 (t 6)),
 k 16 (.ca (.func 123) [(t 15), (i 16)]),
 o 14 (.mv (t 16)),
 o 17 (.ex (t 14) 0),
 o 18 (.ex (t 14) 1),
 o 9 (.mv (t 17)),
 o 10 (.mv (t 18))])
 (.seq (.seq (.ops [o 19 (.mv (t 10)),
 o 20 (.un .not (t 19))])
 (.cond (t 20)
 (.seq (.ops [o 21 (.ld true 6 (t 6)),
 kn (.st [] 6 (t 8) (t 21))])
 .ret)
 .skip))
 (.seq (.ops [o 22 (.fa 0 (t 6)),
 o 23 (.ld false 1 (t 22)),
 k 24 (.ca (.func 115) [(t 23)]),
 k 11 (.al 34 [.int .i64 0, .bool false, .int .i64 0, .int .i64 0, .int .i64 0, .int .i64 0]),
 kn (.st [] 6 (t 11) (t 24))])
 (.seq (.seq (.ops [o 25 (.mv (t 9)),
 o 26 (.ln (t 25)),
 o 27 (.mv (i 0))])
 (.block 0 (.loop (.seq (.ops [o 28 (.bin .lss (t 27) (t 26))])
 (.seq (.cond (t 28)
 .skip
 (.exit 0))
 (.seq (.block 1 (.seq (.ops [o 29 (.ia 1 (t 25) (t 27)),
 o 30 (.ld false 1 (t 29)),
 o 13 (.mv (t 30))])
 (.seq (.opd [o 31 (.ld true 6 (t 7)),
 o 32 (.mv (t 0)),
 o 33 (.mv (t 1)),
 o 34 (.mv (t 13)),
 k 35 (.ca (.func 124) [(t 32), (t 33), (t 34)]),
 k 36 (.ca (.func 113) [(t 31), (t 35)])])
 (.cond (t 36)
 (.opd [o 37 (.ld true 6 (t 11)),
 o 38 (.fa 0 (t 6)),
 o 39 (.ld false 1 (t 38)),
 o 40 (.mv (t 13)),
 k 41 (.ca (.func 100) [(t 39), (t 40)]),
 k 42 (.ca (.func 125) [(t 37), (t 41)]),
 kn (.st [] 6 (t 11) (t 42))])
 .skip))))
 (.ops [o 43 (.bin .add (t 27) (i 1)),
 o 27 (.mv (t 43))])))))))
 (.seq (.ops [o 44 (.ld true 6 (t 6)),
 o 45 (.ld true 6 (t 11)),
 k 46 (.ca (.func 117) [(t 44), (t 45)]),
 kn (.st [] 6 (t 8) (t 46))])
 .ret))))))⟩
theorem e90 : slimF Try.prog Try.f90 [[(0, []), (1, []), (2, []), (3, []), (4, []), (5, [])], [(0, []), (1, []), (2, []), (3, []), (4, []), (5, []), (6, [])]] = some c90 := by kernel_rfl
end Go.Proofs.Try.S
/- Contracts: what is left of a set whose numbers as another kind are of another set. -/
namespace Go.Proofs.Try.K
open Go Go.Ax Go.Proofs.Try.S
set_option maxRecDepth 100000
set_option linter.unusedSimpArgs false
set_option linter.unusedVariables false
variable (F : Fz) (M : Hp)

def turnV (f t n : Int) : Int := seenV f n % 2 ^ (ofW t).toNat
structure DownR (f t : Int) (a b z : V) : Prop where
  ok : z.ok = true
  w : z.w = a.w
  left : Sub z a
  keep : ∀ u, 0 ≤ u → u ≤ mostV a.w → a.has u = true → b.has (turnV f t u) = true → z.has u = true
def dnI (f t : Int) (a b : V) (l : List Int) (ad : Option Addr) (cap : Nat) (F0 : Fz) (M0 : Hp) (r6 r7 r8 r11 : Nat) (m : Nat) (σ : Env) (F : Fz) (M : Hp) : Prop :=
  F = F0 ∧ Keep M0 M ∧ M0 r11 = none ∧ M0 r8 = none ∧ M r6 = some ⟨a.cs, 34, 6⟩ ∧ M r7 = some ⟨b.cs, 34, 6⟩ ∧ M r8 = some ⟨V.zero.cs, 34, 6⟩ ∧ (¬ r6 = r11 ∧ ¬ r7 = r11 ∧ ¬ r8 = r11) ∧ (l = [] ∨ ∃ g, ad = some ⟨g, 0, none⟩ ∧ M g = some ⟨l.map intV, 3, cap * 1⟩ ∧ ¬ g = r11) ∧
  Ax.look σ 0 = some (.int .i64 f) ∧ Ax.look σ 1 = some (.int .i64 t) ∧ Ax.look σ 6 = some (.pointer (some ⟨r6, 0, none⟩)) ∧ Ax.look σ 7 = some (.pointer (some ⟨r7, 0, none⟩)) ∧ Ax.look σ 8 = some (.pointer (some ⟨r8, 0, none⟩)) ∧ Ax.look σ 11 = some (.pointer (some ⟨r11, 0, none⟩)) ∧
  Ax.look σ 25 = some (.slice ad l.length cap) ∧ Ax.look σ 26 = some (.int .i64 l.length) ∧
  ∃ (i : Nat) (x : V), i + m = l.length ∧ Ax.look σ 27 = some (.int .i64 i) ∧ M r11 = some ⟨x.cs, 34, 6⟩ ∧ x.ok = true ∧ x.w = a.w ∧ ∀ u ∈ l.take i, b.has (turnV f t u) = true → x.has u = true
theorem k90 (f t : Int) (a b : V) (hf : isK f = true) (ht : isK t = true) (ha : a.ok = true) (hb : b.ok = true) (wa : a.w = ofW f) (wb : b.w = ofW t) :
    CallsA Try.prog 90 [.int .i64 f, .int .i64 t, a.val, b.val] F M fun u F' M' => F' = F ∧ M' = M ∧ ∃ z, u = V.val z ∧ DownR f t a b z := by
  refine callsA_of hm Try.func90 e90 (Nat.le_of_ble_eq_true rfl) ?_
  have isw := (ok_in ha).w
  have lw := isW_le isw
  have hmp := mostV_pos lw.2
  simp only [c90, go_sem, reduceCtorEq, reduceIte, Nat.reduceEqDiff, Nat.reduceAdd, Nat.reduceLeDiff, Nat.reduceMul, Int.reduceLT, Int.reduceLE, Int.reduceAdd, Int.reduceSub, Int.reduceMul, Int.reduceNeg, Int.reduceToNat, Int.reduceEq]
  intro r6 hF6 hM6
  simp only [go_sem, reduceCtorEq, reduceIte, Nat.reduceEqDiff, Nat.reduceAdd, Nat.reduceLeDiff, Nat.reduceMul, Int.reduceLT, Int.reduceLE, Int.reduceAdd, Int.reduceSub, Int.reduceMul, Int.reduceNeg, Int.reduceToNat, Int.reduceEq]
  intro r7 hF7 hM7
  have g7 := fresh_of hM7
  simp only [go_sem, reduceCtorEq, reduceIte, Nat.reduceEqDiff, Nat.reduceAdd, Nat.reduceLeDiff, Nat.reduceMul, Int.reduceLT, Int.reduceLE, Int.reduceAdd, Int.reduceSub, Int.reduceMul, Int.reduceNeg, Int.reduceToNat, Int.reduceEq, g7]
  intro r8 hF8 hM8
  have g8 := fresh_of hM8
  have g82 := fresh_of g8.2.2
  simp only [go_sem, reduceCtorEq, reduceIte, Nat.reduceEqDiff, Nat.reduceAdd, Nat.reduceLeDiff, Nat.reduceMul, Int.reduceLT, Int.reduceLE, Int.reduceAdd, Int.reduceSub, Int.reduceMul, Int.reduceNeg, Int.reduceToNat, Int.reduceEq, g7, g8, g82]
  have k3 : Keep M (((M.upd r6 ⟨a.cs, 34, 6⟩).upd r7 ⟨b.cs, 34, 6⟩).upd r8 ⟨V.zero.cs, 34, 6⟩) := (((Keep.refl M).new hM6).new g7.2.2).new g82.2.2
  have kz : ∀ e, Keep M (((M.upd r6 ⟨a.cs, 34, 6⟩).upd r7 ⟨b.cs, 34, 6⟩).upd r8 e) := fun e => (((Keep.refl M).new hM6).new g7.2.2).new g82.2.2
  refine callK_of (k123 _ _ a 16 ha (by omega)) ?_
  rintro u G M' ⟨hG, hu⟩
  rw [hG]
  refine ⟨(fun h => by cases h), ?_⟩
  rcases hu with ⟨hlen, hu⟩ | ⟨hlen, rfl, hM'⟩
  rotate_left
  · rw [hM']
    simp only [go_sem, reduceCtorEq, reduceIte, Nat.reduceEqDiff, Nat.reduceAdd, Nat.reduceLeDiff, Nat.reduceMul, Int.reduceLT, Int.reduceLE, Int.reduceAdd, Int.reduceSub, Int.reduceMul, Int.reduceNeg, Int.reduceToNat, Int.reduceEq, g7, g8, g82]
    exact endK_keep (M := M) (kz _) ⟨rfl, rfl, a, rfl, ha, rfl, sub_refl a, fun u _ _ h _ => h⟩
  have hfull : ∀ u, 0 ≤ u → u ≤ mostV a.w → a.has u = true → u ∈ a.members 16 := fun u u0 u1 hu => mem_all ha 17 0 (by omega) (by show (a.members 16).length < 17; omega) u u0 u1 hu
  have hmem : ∀ u ∈ a.members 16, 0 ≤ u ∧ u ≤ mostV a.w ∧ a.has u = true := fun u hu => mem_has ha 17 0 (by omega) u hu
  have f6 : (((M.upd r6 ⟨a.cs, 34, 6⟩).upd r7 ⟨b.cs, 34, 6⟩).upd r8 ⟨V.zero.cs, 34, 6⟩) r6 = some ⟨a.cs, 34, 6⟩ := by
    rw [Hp.upd_ne' g82.2.1, Hp.upd_ne' g7.2.1]; exact Hp.upd_same _ _ _
  have f7 : (((M.upd r6 ⟨a.cs, 34, 6⟩).upd r7 ⟨b.cs, 34, 6⟩).upd r8 ⟨V.zero.cs, 34, 6⟩) r7 = some ⟨b.cs, 34, 6⟩ := by
    rw [Hp.upd_ne' g8.2.1]; exact Hp.upd_same _ _ _
  have f8 : (((M.upd r6 ⟨a.cs, 34, 6⟩).upd r7 ⟨b.cs, 34, 6⟩).upd r8 ⟨V.zero.cs, 34, 6⟩) r8 = some ⟨V.zero.cs, 34, 6⟩ := Hp.upd_same _ _ _
  have n8 : M r8 = none := g82.2.2
  generalize a.members 16 = l at *
  have key : Keep (((M.upd r6 ⟨a.cs, 34, 6⟩).upd r7 ⟨b.cs, 34, 6⟩).upd r8 ⟨V.zero.cs, 34, 6⟩) M' ∧ ∃ ad cap, u = .tuple #[.slice ad l.length cap, .bool true] ∧ (l = [] ∨ ∃ g, ad = some ⟨g, 0, none⟩ ∧ M' g = some ⟨l.map intV, 3, cap * 1⟩) := by
    rcases hu with ⟨hnil, rfl, rfl⟩ | ⟨g, cap, hFg, hMg, rfl, rfl⟩
    · exact ⟨Keep.refl _, none, 0, by rw [hnil]; rfl, .inl hnil⟩
    · exact ⟨(Keep.refl _).new hMg, _, _, rfl, .inr ⟨g, rfl, Hp.upd_same _ _ _⟩⟩
  obtain ⟨kM, ad, cap, rfl, hrow⟩ := key
  clear hu hG g7 g8 g82 hM6 hM7 hM8
  generalize ((M.upd r6 ⟨a.cs, 34, 6⟩).upd r7 ⟨b.cs, 34, 6⟩).upd r8 ⟨V.zero.cs, 34, 6⟩ = M1 at *
  replace f6 := kM _ _ f6
  replace f7 := kM _ _ f7
  replace f8 := kM _ _ f8
  replace k3 := k3.trans kM
  have b6 := blk_M (F := F) f6
  simp only [go_sem, reduceCtorEq, reduceIte, Nat.reduceEqDiff, Nat.reduceAdd, Nat.reduceLeDiff, Nat.reduceMul, Int.reduceLT, Int.reduceLE, Int.reduceAdd, Int.reduceSub, Int.reduceMul, Int.reduceNeg, Int.reduceToNat, Int.reduceEq, b6]
  refine callK_same (k115 _ _ a.w) ?_
  simp only [go_sem, reduceCtorEq, reduceIte, Nat.reduceEqDiff, Nat.reduceAdd, Nat.reduceLeDiff, Nat.reduceMul, Int.reduceLT, Int.reduceLE, Int.reduceAdd, Int.reduceSub, Int.reduceMul, Int.reduceNeg, Int.reduceToNat, Int.reduceEq]
  intro r11 hF11 hM11
  have n6 := ne_of_none hM11 f6
  have n7 := ne_of_none hM11 f7
  have n88 := ne_of_none hM11 f8
  simp only [go_sem, reduceCtorEq, reduceIte, Nat.reduceEqDiff, Nat.reduceAdd, Nat.reduceLeDiff, Nat.reduceMul, Int.reduceLT, Int.reduceLE, Int.reduceAdd, Int.reduceSub, Int.reduceMul, Int.reduceNeg, Int.reduceToNat, Int.reduceEq]
  refine loop_of (dnI f t a b l ad cap F M r6 r7 r8 r11) l.length ?_ ?_
  · refine ⟨rfl, k3.new (k3.free hM11), k3.free hM11, n8, by rw [Hp.upd_ne' n6.1]; exact f6, by rw [Hp.upd_ne' n7.1]; exact f7, by rw [Hp.upd_ne' n88.1]; exact f8, ⟨n6.1, n7.1, n88.1⟩, ?_, by simp only [go_sem, reduceCtorEq, reduceIte, Nat.reduceEqDiff, Nat.reduceAdd, Nat.reduceLeDiff, Nat.reduceMul, Int.reduceLT, Int.reduceLE, Int.reduceAdd, Int.reduceSub, Int.reduceMul, Int.reduceNeg, Int.reduceToNat, Int.reduceEq], by simp only [go_sem, reduceCtorEq, reduceIte, Nat.reduceEqDiff, Nat.reduceAdd, Nat.reduceLeDiff, Nat.reduceMul, Int.reduceLT, Int.reduceLE, Int.reduceAdd, Int.reduceSub, Int.reduceMul, Int.reduceNeg, Int.reduceToNat, Int.reduceEq], by simp only [go_sem, reduceCtorEq, reduceIte, Nat.reduceEqDiff, Nat.reduceAdd, Nat.reduceLeDiff, Nat.reduceMul, Int.reduceLT, Int.reduceLE, Int.reduceAdd, Int.reduceSub, Int.reduceMul, Int.reduceNeg, Int.reduceToNat, Int.reduceEq], by simp only [go_sem, reduceCtorEq, reduceIte, Nat.reduceEqDiff, Nat.reduceAdd, Nat.reduceLeDiff, Nat.reduceMul, Int.reduceLT, Int.reduceLE, Int.reduceAdd, Int.reduceSub, Int.reduceMul, Int.reduceNeg, Int.reduceToNat, Int.reduceEq], by simp only [go_sem, reduceCtorEq, reduceIte, Nat.reduceEqDiff, Nat.reduceAdd, Nat.reduceLeDiff, Nat.reduceMul, Int.reduceLT, Int.reduceLE, Int.reduceAdd, Int.reduceSub, Int.reduceMul, Int.reduceNeg, Int.reduceToNat, Int.reduceEq], by simp only [go_sem, reduceCtorEq, reduceIte, Nat.reduceEqDiff, Nat.reduceAdd, Nat.reduceLeDiff, Nat.reduceMul, Int.reduceLT, Int.reduceLE, Int.reduceAdd, Int.reduceSub, Int.reduceMul, Int.reduceNeg, Int.reduceToNat, Int.reduceEq], by simp only [go_sem, reduceCtorEq, reduceIte, Nat.reduceEqDiff, Nat.reduceAdd, Nat.reduceLeDiff, Nat.reduceMul, Int.reduceLT, Int.reduceLE, Int.reduceAdd, Int.reduceSub, Int.reduceMul, Int.reduceNeg, Int.reduceToNat, Int.reduceEq], by simp only [go_sem, reduceCtorEq, reduceIte, Nat.reduceEqDiff, Nat.reduceAdd, Nat.reduceLeDiff, Nat.reduceMul, Int.reduceLT, Int.reduceLE, Int.reduceAdd, Int.reduceSub, Int.reduceMul, Int.reduceNeg, Int.reduceToNat, Int.reduceEq], 0, V.nothing a.w, by omega, by simp only [go_sem, reduceCtorEq, reduceIte, Nat.reduceEqDiff, Nat.reduceAdd, Nat.reduceLeDiff, Nat.reduceMul, Int.reduceLT, Int.reduceLE, Int.reduceAdd, Int.reduceSub, Int.reduceMul, Int.reduceNeg, Int.reduceToNat, Int.reduceEq] <;> rfl, Hp.upd_same _ _ _, nothing_ok isw, rfl, by simp⟩
    rcases hrow with h | ⟨g, h1, h2⟩
    · exact .inl h
    · have := ne_of_none hM11 h2
      exact .inr ⟨g, h1, by rw [Hp.upd_ne' this.1]; exact h2, this.1⟩
  clear k3 n8 f6 f7 f8 n6 n7 n88 hrow b6 hM11 hF11 kM
  rintro m σ F' M2 ⟨rfl, kp, n11, n8, f6, f7, f8, nn, hrow, q0, q1, q6, q7, q8, q11, q25, q26, i, x, hi, q27, f11, xo, xw, hx⟩
  have b6 := blk_M (F := F') f6
  have b7 := blk_M (F := F') f7
  have b11 := blk_M (F := F') f11
  by_cases hil : (i : Int) < l.length
  · have hi0 : (0 : Int) ≤ i := by omega
    have hi' : i < l.length := by omega
    have ei : IntKind.i64.wrap ((i : Int) + 1) = i + 1 := w64 (by omega) (by omega)
    have hget := get_ints hi'
    obtain ⟨u0, u1, u2⟩ := hmem l[i] (List.getElem_mem _)
    have ht1 : l.take (i + 1) = l.take i ++ [l[i]] := List.take_succ_eq_append_getElem hi'
    rcases hrow with h | ⟨g, rfl, fg, ng⟩
    · rw [h] at hi'; simp at hi'
    have bg := blk_M (F := F') fg
    generalize l[i] = n at *
    simp only [go_sem, reduceCtorEq, reduceIte, Nat.reduceEqDiff, Nat.reduceAdd, Nat.reduceLeDiff, Nat.reduceMul, Int.reduceLT, Int.reduceLE, Int.reduceAdd, Int.reduceSub, Int.reduceMul, Int.reduceNeg, Int.reduceToNat, Int.reduceEq, q0, q1, q6, q7, q8, q11, q25, q26, q27, hil, hi0, Int.toNat_natCast, Nat.mul_one, bg, hget, b7]
    refine callK_same (k124 _ _ f t n ht u0 (by rw [← wa]; exact u1)) ?_
    simp only [go_sem, reduceCtorEq, reduceIte, Nat.reduceEqDiff, Nat.reduceAdd, Nat.reduceLeDiff, Nat.reduceMul, Int.reduceLT, Int.reduceLE, Int.reduceAdd, Int.reduceSub, Int.reduceMul, Int.reduceNeg, Int.reduceToNat, Int.reduceEq, q0, q1, q6, q7, q8, q11, q25, q26, q27, b7]
    refine callK_same (k113 _ _ b _) ?_
    have eh : seenV f n % 2 ^ (ofW t).toNat = turnV f t n := rfl
    rw [eh]
    cases hh : b.has (turnV f t n)
    · simp only [go_sem, reduceCtorEq, reduceIte, Nat.reduceEqDiff, Nat.reduceAdd, Nat.reduceLeDiff, Nat.reduceMul, Int.reduceLT, Int.reduceLE, Int.reduceAdd, Int.reduceSub, Int.reduceMul, Int.reduceNeg, Int.reduceToNat, Int.reduceEq, q0, q1, q6, q7, q8, q11, q25, q26, q27, b7, ei]
      refine ⟨m - 1, by omega, rfl, kp, n11, n8, f6, f7, f8, nn, .inr ⟨g, rfl, fg, ng⟩, by simp only [go_sem, reduceCtorEq, reduceIte, Nat.reduceEqDiff, Nat.reduceAdd, Nat.reduceLeDiff, Nat.reduceMul, Int.reduceLT, Int.reduceLE, Int.reduceAdd, Int.reduceSub, Int.reduceMul, Int.reduceNeg, Int.reduceToNat, Int.reduceEq, q0], by simp only [go_sem, reduceCtorEq, reduceIte, Nat.reduceEqDiff, Nat.reduceAdd, Nat.reduceLeDiff, Nat.reduceMul, Int.reduceLT, Int.reduceLE, Int.reduceAdd, Int.reduceSub, Int.reduceMul, Int.reduceNeg, Int.reduceToNat, Int.reduceEq, q1], by simp only [go_sem, reduceCtorEq, reduceIte, Nat.reduceEqDiff, Nat.reduceAdd, Nat.reduceLeDiff, Nat.reduceMul, Int.reduceLT, Int.reduceLE, Int.reduceAdd, Int.reduceSub, Int.reduceMul, Int.reduceNeg, Int.reduceToNat, Int.reduceEq, q6], by simp only [go_sem, reduceCtorEq, reduceIte, Nat.reduceEqDiff, Nat.reduceAdd, Nat.reduceLeDiff, Nat.reduceMul, Int.reduceLT, Int.reduceLE, Int.reduceAdd, Int.reduceSub, Int.reduceMul, Int.reduceNeg, Int.reduceToNat, Int.reduceEq, q7], by simp only [go_sem, reduceCtorEq, reduceIte, Nat.reduceEqDiff, Nat.reduceAdd, Nat.reduceLeDiff, Nat.reduceMul, Int.reduceLT, Int.reduceLE, Int.reduceAdd, Int.reduceSub, Int.reduceMul, Int.reduceNeg, Int.reduceToNat, Int.reduceEq, q8], by simp only [go_sem, reduceCtorEq, reduceIte, Nat.reduceEqDiff, Nat.reduceAdd, Nat.reduceLeDiff, Nat.reduceMul, Int.reduceLT, Int.reduceLE, Int.reduceAdd, Int.reduceSub, Int.reduceMul, Int.reduceNeg, Int.reduceToNat, Int.reduceEq, q11], by simp only [go_sem, reduceCtorEq, reduceIte, Nat.reduceEqDiff, Nat.reduceAdd, Nat.reduceLeDiff, Nat.reduceMul, Int.reduceLT, Int.reduceLE, Int.reduceAdd, Int.reduceSub, Int.reduceMul, Int.reduceNeg, Int.reduceToNat, Int.reduceEq, q25], by simp only [go_sem, reduceCtorEq, reduceIte, Nat.reduceEqDiff, Nat.reduceAdd, Nat.reduceLeDiff, Nat.reduceMul, Int.reduceLT, Int.reduceLE, Int.reduceAdd, Int.reduceSub, Int.reduceMul, Int.reduceNeg, Int.reduceToNat, Int.reduceEq, q26], i + 1, x, by omega, by simp only [go_sem, reduceCtorEq, reduceIte, Nat.reduceEqDiff, Nat.reduceAdd, Nat.reduceLeDiff, Nat.reduceMul, Int.reduceLT, Int.reduceLE, Int.reduceAdd, Int.reduceSub, Int.reduceMul, Int.reduceNeg, Int.reduceToNat, Int.reduceEq]; rfl, f11, xo, xw, ?_⟩
      intro u hu hb'
      rw [ht1] at hu
      rcases List.mem_append.1 hu with hu | hu
      · exact hx u hu hb'
      · simp only [List.mem_cons, List.not_mem_nil, or_false] at hu
        rw [hu, hh] at hb'; cases hb'
    · have jo : (V.just a.w n).ok = true := just_ok isw (by simp [isN]; omega)
      simp only [go_sem, reduceCtorEq, reduceIte, Nat.reduceEqDiff, Nat.reduceAdd, Nat.reduceLeDiff, Nat.reduceMul, Int.reduceLT, Int.reduceLE, Int.reduceAdd, Int.reduceSub, Int.reduceMul, Int.reduceNeg, Int.reduceToNat, Int.reduceEq, q0, q1, q6, q7, q8, q11, q25, q26, q27, b7, b6, b11]
      refine callK_same (k100 _ _ a.w n) ?_
      simp only [go_sem, reduceCtorEq, reduceIte, Nat.reduceEqDiff, Nat.reduceAdd, Nat.reduceLeDiff, Nat.reduceMul, Int.reduceLT, Int.reduceLE, Int.reduceAdd, Int.reduceSub, Int.reduceMul, Int.reduceNeg, Int.reduceToNat, Int.reduceEq, q0, q1, q6, q7, q8, q11, q25, q26, q27, b7, b6, b11]
      refine callK_of (k125 _ _ x (V.just a.w n) xo jo (by rw [xw]; rfl)) ?_
      rintro u G M3 ⟨hG, hM3, z, rfl, hz⟩
      rw [hG, hM3]
      refine ⟨fun _ => Le.refl _ _, ?_⟩
      simp only [go_sem, reduceCtorEq, reduceIte, Nat.reduceEqDiff, Nat.reduceAdd, Nat.reduceLeDiff, Nat.reduceMul, Int.reduceLT, Int.reduceLE, Int.reduceAdd, Int.reduceSub, Int.reduceMul, Int.reduceNeg, Int.reduceToNat, Int.reduceEq, q0, q1, q6, q7, q8, q11, q25, q26, q27, b7, b6, b11, ei, f11]
      simp only [setH]
      refine ⟨m - 1, by omega, rfl, kp.new n11, n11, n8, by rw [Hp.upd_ne' nn.1]; exact f6, by rw [Hp.upd_ne' nn.2.1]; exact f7, by rw [Hp.upd_ne' nn.2.2]; exact f8, nn, .inr ⟨g, rfl, by rw [Hp.upd_ne' ng]; exact fg, ng⟩, by simp only [go_sem, reduceCtorEq, reduceIte, Nat.reduceEqDiff, Nat.reduceAdd, Nat.reduceLeDiff, Nat.reduceMul, Int.reduceLT, Int.reduceLE, Int.reduceAdd, Int.reduceSub, Int.reduceMul, Int.reduceNeg, Int.reduceToNat, Int.reduceEq, q0], by simp only [go_sem, reduceCtorEq, reduceIte, Nat.reduceEqDiff, Nat.reduceAdd, Nat.reduceLeDiff, Nat.reduceMul, Int.reduceLT, Int.reduceLE, Int.reduceAdd, Int.reduceSub, Int.reduceMul, Int.reduceNeg, Int.reduceToNat, Int.reduceEq, q1], by simp only [go_sem, reduceCtorEq, reduceIte, Nat.reduceEqDiff, Nat.reduceAdd, Nat.reduceLeDiff, Nat.reduceMul, Int.reduceLT, Int.reduceLE, Int.reduceAdd, Int.reduceSub, Int.reduceMul, Int.reduceNeg, Int.reduceToNat, Int.reduceEq, q6], by simp only [go_sem, reduceCtorEq, reduceIte, Nat.reduceEqDiff, Nat.reduceAdd, Nat.reduceLeDiff, Nat.reduceMul, Int.reduceLT, Int.reduceLE, Int.reduceAdd, Int.reduceSub, Int.reduceMul, Int.reduceNeg, Int.reduceToNat, Int.reduceEq, q7], by simp only [go_sem, reduceCtorEq, reduceIte, Nat.reduceEqDiff, Nat.reduceAdd, Nat.reduceLeDiff, Nat.reduceMul, Int.reduceLT, Int.reduceLE, Int.reduceAdd, Int.reduceSub, Int.reduceMul, Int.reduceNeg, Int.reduceToNat, Int.reduceEq, q8], by simp only [go_sem, reduceCtorEq, reduceIte, Nat.reduceEqDiff, Nat.reduceAdd, Nat.reduceLeDiff, Nat.reduceMul, Int.reduceLT, Int.reduceLE, Int.reduceAdd, Int.reduceSub, Int.reduceMul, Int.reduceNeg, Int.reduceToNat, Int.reduceEq, q11], by simp only [go_sem, reduceCtorEq, reduceIte, Nat.reduceEqDiff, Nat.reduceAdd, Nat.reduceLeDiff, Nat.reduceMul, Int.reduceLT, Int.reduceLE, Int.reduceAdd, Int.reduceSub, Int.reduceMul, Int.reduceNeg, Int.reduceToNat, Int.reduceEq, q25], by simp only [go_sem, reduceCtorEq, reduceIte, Nat.reduceEqDiff, Nat.reduceAdd, Nat.reduceLeDiff, Nat.reduceMul, Int.reduceLT, Int.reduceLE, Int.reduceAdd, Int.reduceSub, Int.reduceMul, Int.reduceNeg, Int.reduceToNat, Int.reduceEq, q26], i + 1, z, by omega, by simp only [go_sem, reduceCtorEq, reduceIte, Nat.reduceEqDiff, Nat.reduceAdd, Nat.reduceLeDiff, Nat.reduceMul, Int.reduceLT, Int.reduceLE, Int.reduceAdd, Int.reduceSub, Int.reduceMul, Int.reduceNeg, Int.reduceToNat, Int.reduceEq]; rfl, Hp.upd_same _ _ _, hz.ok, by rw [hz.w, xw], ?_⟩
      intro u hu hb'
      rw [ht1] at hu
      rcases List.mem_append.1 hu with hu | hu
      · obtain ⟨y0, y1, _⟩ := hmem u (List.mem_of_mem_take hu)
        exact hz.left u y0 (by rw [xw]; exact y1) (hx u hu hb')
      · simp only [List.mem_cons, List.not_mem_nil, or_false] at hu
        rw [hu]
        exact hz.right n u0 u1 (by rw [just_has u0 (by omega)]; simp)
  · have htk : l.take i = l := List.take_of_length_le (by omega)
    rw [htk] at hx
    simp only [go_sem, reduceCtorEq, reduceIte, Nat.reduceEqDiff, Nat.reduceAdd, Nat.reduceLeDiff, Nat.reduceMul, Int.reduceLT, Int.reduceLE, Int.reduceAdd, Int.reduceSub, Int.reduceMul, Int.reduceNeg, Int.reduceToNat, Int.reduceEq, q0, q1, q6, q7, q8, q11, q25, q26, q27, hil, b6, b11]
    refine callK_of (k117 _ _ a x ha xo xw) ?_
    rintro u G M3 ⟨hG, hM3, z, rfl, hz⟩
    rw [hG, hM3]
    refine ⟨fun _ => Le.refl _ _, ?_⟩
    simp only [go_sem, reduceCtorEq, reduceIte, Nat.reduceEqDiff, Nat.reduceAdd, Nat.reduceLeDiff, Nat.reduceMul, Int.reduceLT, Int.reduceLE, Int.reduceAdd, Int.reduceSub, Int.reduceMul, Int.reduceNeg, Int.reduceToNat, Int.reduceEq, q0, q1, q6, q7, q8, q11, q25, q26, q27, hil, b6, b11, f8]
    simp only [setH, go_sem, reduceCtorEq, reduceIte, Nat.reduceEqDiff, Nat.reduceAdd, Nat.reduceLeDiff, Nat.reduceMul, Int.reduceLT, Int.reduceLE, Int.reduceAdd, Int.reduceSub, Int.reduceMul, Int.reduceNeg, Int.reduceToNat, Int.reduceEq]
    exact endK_keep (M := M) (kp.new n8) ⟨rfl, rfl, z, rfl, hz.ok, hz.w, hz.left, fun u y0 y1 hu hb' => hz.both u y0 y1 hu (hx u (hfull u y0 y1 hu) hb')⟩
def downA (f t : Int) (a b : V) (u : Value) : Prop := (fitB f a && fitB t b) = true ∧ (∃ z, u = .tuple #[z.val, .int .i64 0] ∧ DownR f t a b z) ∨ (fitB f a && fitB t b) = false ∧ u = .tuple #[V.zero.val, .int .i64 1]
theorem k47 (f t : Int) (a b : V) : CallsA Try.prog 47 [.int .i64 f, .int .i64 t, a.val, b.val] F M fun u F' M' => F' = F ∧ M' = M ∧ downA f t a b u := by
  refine callsA_of hm Try.func47 e47 (Nat.le_of_ble_eq_true rfl) ?_
  simp only [c47, go_sem, reduceCtorEq, reduceIte, Nat.reduceEqDiff, Nat.reduceAdd, Nat.reduceLeDiff, Nat.reduceMul, Int.reduceLT, Int.reduceLE, Int.reduceAdd, Int.reduceSub, Int.reduceMul, Int.reduceNeg, Int.reduceToNat, Int.reduceEq]
  intro r6 hF6 hM6
  simp only [go_sem, reduceCtorEq, reduceIte, Nat.reduceEqDiff, Nat.reduceAdd, Nat.reduceLeDiff, Nat.reduceMul, Int.reduceLT, Int.reduceLE, Int.reduceAdd, Int.reduceSub, Int.reduceMul, Int.reduceNeg, Int.reduceToNat, Int.reduceEq]
  intro r7 hF7 hM7
  have g7 := fresh_of hM7
  simp only [go_sem, reduceCtorEq, reduceIte, Nat.reduceEqDiff, Nat.reduceAdd, Nat.reduceLeDiff, Nat.reduceMul, Int.reduceLT, Int.reduceLE, Int.reduceAdd, Int.reduceSub, Int.reduceMul, Int.reduceNeg, Int.reduceToNat, Int.reduceEq, g7]
  intro r8 hF8 hM8
  have g8 := fresh_of hM8
  have g82 := fresh_of g8.2.2
  have kz : ∀ e, Keep M (((M.upd r6 ⟨a.cs, 34, 6⟩).upd r7 ⟨b.cs, 34, 6⟩).upd r8 e) := fun e => (((Keep.refl M).new hM6).new g7.2.2).new g82.2.2
  simp only [go_sem, reduceCtorEq, reduceIte, Nat.reduceEqDiff, Nat.reduceAdd, Nat.reduceLeDiff, Nat.reduceMul, Int.reduceLT, Int.reduceLE, Int.reduceAdd, Int.reduceSub, Int.reduceMul, Int.reduceNeg, Int.reduceToNat, Int.reduceEq, g7, g8, g82]
  refine callK_same (k83 _ _ f a) ?_
  cases fa : fitB f a
  · simp only [go_sem, reduceCtorEq, reduceIte, Nat.reduceEqDiff, Nat.reduceAdd, Nat.reduceLeDiff, Nat.reduceMul, Int.reduceLT, Int.reduceLE, Int.reduceAdd, Int.reduceSub, Int.reduceMul, Int.reduceNeg, Int.reduceToNat, Int.reduceEq, g7, g8, g82]
    exact endK_keep (M := M) (kz _) ⟨rfl, rfl, .inr ⟨by rw [fa]; rfl, rfl⟩⟩
  simp only [go_sem, reduceCtorEq, reduceIte, Nat.reduceEqDiff, Nat.reduceAdd, Nat.reduceLeDiff, Nat.reduceMul, Int.reduceLT, Int.reduceLE, Int.reduceAdd, Int.reduceSub, Int.reduceMul, Int.reduceNeg, Int.reduceToNat, Int.reduceEq, g7, g8, g82]
  refine callK_same (k83 _ _ t b) ?_
  cases fb : fitB t b
  · simp only [go_sem, reduceCtorEq, reduceIte, Nat.reduceEqDiff, Nat.reduceAdd, Nat.reduceLeDiff, Nat.reduceMul, Int.reduceLT, Int.reduceLE, Int.reduceAdd, Int.reduceSub, Int.reduceMul, Int.reduceNeg, Int.reduceToNat, Int.reduceEq, g7, g8, g82]
    exact endK_keep (M := M) (kz _) ⟨rfl, rfl, .inr ⟨by rw [fa, fb]; rfl, rfl⟩⟩
  have fa' := fa
  have fb' := fb
  simp only [fitB, Bool.and_eq_true, decide_eq_true_eq] at fa' fb'
  simp only [go_sem, reduceCtorEq, reduceIte, Nat.reduceEqDiff, Nat.reduceAdd, Nat.reduceLeDiff, Nat.reduceMul, Int.reduceLT, Int.reduceLE, Int.reduceAdd, Int.reduceSub, Int.reduceMul, Int.reduceNeg, Int.reduceToNat, Int.reduceEq, g7, g8, g82]
  refine callK_of (k90 _ _ f t a b fa'.1.1 fb'.1.1 fa'.1.2 fb'.1.2 fa'.2 fb'.2) ?_
  rintro u G M3 ⟨hG, hM3, z, rfl, hz⟩
  rw [hG, hM3]
  refine ⟨fun _ => Le.refl _ _, ?_⟩
  simp only [go_sem, reduceCtorEq, reduceIte, Nat.reduceEqDiff, Nat.reduceAdd, Nat.reduceLeDiff, Nat.reduceMul, Int.reduceLT, Int.reduceLE, Int.reduceAdd, Int.reduceSub, Int.reduceMul, Int.reduceNeg, Int.reduceToNat, Int.reduceEq, g7, g8, g82]
  exact endK_keep (M := M) (kz _) ⟨rfl, rfl, .inl ⟨by rw [fa, fb]; rfl, z, rfl, hz⟩⟩
end Go.Proofs.Try.K
