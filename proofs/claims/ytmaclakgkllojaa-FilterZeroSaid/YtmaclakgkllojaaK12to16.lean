/- Parts K12to16: the machine's runs of small codes, contracts of functions, plain facts. -/
import Derived.Test.YtmaclakgkllojaaK6to11
/- Contracts: lengths of ranges, one in another, tidied, told to be in. -/
namespace Go.Proofs.Try.K
open Go Go.Ax Go.Proofs.Try.S
set_option maxRecDepth 100000
set_option linter.unusedSimpArgs false
set_option linter.unusedVariables false
variable (F : Fz) (M : Hp)

theorem k145 (n w : Int) (h0 : 0 ≤ w) (h1 : w ≤ 62) : CallsA Try.prog 145 [.int .i64 n, .int .i64 w] F M (Same F M (.int .i64 (n % 2 ^ w.toNat))) := by
  refine callsA_of hm Try.func145 e145 (Nat.le_of_ble_eq_true rfl) ?_
  simp only [c145, go_sem, reduceCtorEq, reduceIte, Nat.reduceEqDiff, Nat.reduceAdd, Nat.reduceLeDiff, Nat.reduceMul, Int.reduceLT, Int.reduceLE, Int.reduceAdd, Int.reduceSub, Int.reduceMul, Int.reduceNeg, Int.reduceToNat, Int.reduceEq]
  refine callK_same (k137 F _ w h0 h1) ?_
  simp only [go_sem, reduceCtorEq, reduceIte, Nat.reduceEqDiff, Nat.reduceAdd, Nat.reduceLeDiff, Nat.reduceMul, Int.reduceLT, Int.reduceLE, Int.reduceAdd, Int.reduceSub, Int.reduceMul, Int.reduceNeg, Int.reduceToNat, Int.reduceEq, band_mostV n h1]
  exact endK_same ⟨rfl, rfl, rfl⟩
theorem k160 (v : V) (h : v.In) : CallsA Try.prog 160 [v.val] F M (Same F M (.int .i64 v.len)) := by
  refine callsA_of hm Try.func160 e160 (Nat.le_of_ble_eq_true rfl) ?_
  have hl := isW_le h.w
  have hb := h.big
  have h1 := h.low
  have h2 := h.high
  have e : IntKind.i64.wrap (v.high - v.low) = v.high - v.low := w64 (by omega) (by omega)
  simp only [c160, go_sem, reduceCtorEq, reduceIte, Nat.reduceEqDiff, Nat.reduceAdd, Nat.reduceLeDiff, Nat.reduceMul, Int.reduceLT, Int.reduceLE, Int.reduceAdd, Int.reduceSub, Int.reduceMul, Int.reduceNeg, Int.reduceToNat, Int.reduceEq]
  intro r hF hM
  simp only [go_sem, reduceCtorEq, reduceIte, Nat.reduceEqDiff, Nat.reduceAdd, Nat.reduceLeDiff, Nat.reduceMul, Int.reduceLT, Int.reduceLE, Int.reduceAdd, Int.reduceSub, Int.reduceMul, Int.reduceNeg, Int.reduceToNat, Int.reduceEq, e]
  refine callK_same (k145 F _ _ v.w hl.1 hl.2) ?_
  simp only [go_sem, reduceCtorEq, reduceIte, Nat.reduceEqDiff, Nat.reduceAdd, Nat.reduceLeDiff, Nat.reduceMul, Int.reduceLT, Int.reduceLE, Int.reduceAdd, Int.reduceSub, Int.reduceMul, Int.reduceNeg, Int.reduceToNat, Int.reduceEq]
  exact endK_drop hM (endK_same ⟨rfl, rfl, rfl⟩)
theorem k152 (a b : V) (ha : a.In) (hb : b.In) : CallsA Try.prog 152 [a.val, b.val] F M (Same F M (.bool (a.inside b))) := by
  refine callsA_of hm Try.func152 e152 (Nat.le_of_ble_eq_true rfl) ?_
  have la := isW_le ha.w
  have lb := isW_le hb.w
  have ga := ha.big
  have gb := hb.big
  have a1 := ha.low
  have b1 := hb.low
  have e1 : IntKind.i64.wrap (a.low - b.low) = a.low - b.low := w64 (by omega) (by omega)
  have f0 := Int.emod_nonneg (a.low - b.low) (show (2 : Int) ^ a.w.toNat ≠ 0 by omega)
  have f1 := Int.emod_lt_of_pos (a.low - b.low) (show 0 < (2 : Int) ^ a.w.toNat by omega)
  have l0 := Int.emod_nonneg (b.high - b.low) (show (2 : Int) ^ b.w.toNat ≠ 0 by omega)
  have l1 := Int.emod_lt_of_pos (b.high - b.low) (show 0 < (2 : Int) ^ b.w.toNat by omega)
  have e2 : IntKind.i64.wrap (b.len - a.from b) = b.len - a.from b := by unfold V.len V.from; exact w64 (by omega) (by omega)
  simp only [c152, go_sem, reduceCtorEq, reduceIte, Nat.reduceEqDiff, Nat.reduceAdd, Nat.reduceLeDiff, Nat.reduceMul, Int.reduceLT, Int.reduceLE, Int.reduceAdd, Int.reduceSub, Int.reduceMul, Int.reduceNeg, Int.reduceToNat, Int.reduceEq]
  intro r hF hM
  simp only [go_sem, reduceCtorEq, reduceIte, Nat.reduceEqDiff, Nat.reduceAdd, Nat.reduceLeDiff, Nat.reduceMul, Int.reduceLT, Int.reduceLE, Int.reduceAdd, Int.reduceSub, Int.reduceMul, Int.reduceNeg, Int.reduceToNat, Int.reduceEq]
  intro r1 hF1 hM1
  have g := fresh_of hM1
  simp only [go_sem, reduceCtorEq, reduceIte, Nat.reduceEqDiff, Nat.reduceAdd, Nat.reduceLeDiff, Nat.reduceMul, Int.reduceLT, Int.reduceLE, Int.reduceAdd, Int.reduceSub, Int.reduceMul, Int.reduceNeg, Int.reduceToNat, Int.reduceEq, g, e1]
  refine callK_same (k145 F _ _ a.w la.1 la.2) ?_
  have ef : (a.low - b.low) % 2 ^ a.w.toNat = a.from b := rfl
  simp only [go_sem, reduceCtorEq, reduceIte, Nat.reduceEqDiff, Nat.reduceAdd, Nat.reduceLeDiff, Nat.reduceMul, Int.reduceLT, Int.reduceLE, Int.reduceAdd, Int.reduceSub, Int.reduceMul, Int.reduceNeg, Int.reduceToNat, Int.reduceEq, g, ef]
  refine callK_same (k160 F _ b hb) ?_
  simp only [go_sem, reduceCtorEq, reduceIte, Nat.reduceEqDiff, Nat.reduceAdd, Nat.reduceLeDiff, Nat.reduceMul, Int.reduceLT, Int.reduceLE, Int.reduceAdd, Int.reduceSub, Int.reduceMul, Int.reduceNeg, Int.reduceToNat, Int.reduceEq, g, ef]
  refine callK_same (k137 F _ b.w lb.1 lb.2) ?_
  by_cases c1 : b.len = mostV b.w
  · simp only [go_sem, reduceCtorEq, reduceIte, Nat.reduceEqDiff, Nat.reduceAdd, Nat.reduceLeDiff, Nat.reduceMul, Int.reduceLT, Int.reduceLE, Int.reduceAdd, Int.reduceSub, Int.reduceMul, Int.reduceNeg, Int.reduceToNat, Int.reduceEq, g, ef, c1]
    exact endK_drop hM1 (endK_drop hM (endK_same ⟨by simp [V.inside, c1], rfl, rfl⟩))
  · simp only [go_sem, reduceCtorEq, reduceIte, Nat.reduceEqDiff, Nat.reduceAdd, Nat.reduceLeDiff, Nat.reduceMul, Int.reduceLT, Int.reduceLE, Int.reduceAdd, Int.reduceSub, Int.reduceMul, Int.reduceNeg, Int.reduceToNat, Int.reduceEq, g, ef, c1]
    refine callK_same (k160 F _ b hb) ?_
    by_cases c2 : a.from b ≤ b.len
    · simp only [go_sem, reduceCtorEq, reduceIte, Nat.reduceEqDiff, Nat.reduceAdd, Nat.reduceLeDiff, Nat.reduceMul, Int.reduceLT, Int.reduceLE, Int.reduceAdd, Int.reduceSub, Int.reduceMul, Int.reduceNeg, Int.reduceToNat, Int.reduceEq, g, ef, c1, c2]
      refine callK_same (k160 F _ a ha) ?_
      simp only [go_sem, reduceCtorEq, reduceIte, Nat.reduceEqDiff, Nat.reduceAdd, Nat.reduceLeDiff, Nat.reduceMul, Int.reduceLT, Int.reduceLE, Int.reduceAdd, Int.reduceSub, Int.reduceMul, Int.reduceNeg, Int.reduceToNat, Int.reduceEq, g, ef, c1, c2]
      refine callK_same (k160 F _ b hb) ?_
      simp only [go_sem, reduceCtorEq, reduceIte, Nat.reduceEqDiff, Nat.reduceAdd, Nat.reduceLeDiff, Nat.reduceMul, Int.reduceLT, Int.reduceLE, Int.reduceAdd, Int.reduceSub, Int.reduceMul, Int.reduceNeg, Int.reduceToNat, Int.reduceEq, g, ef, c1, c2, e2]
      exact endK_drop hM1 (endK_drop hM (endK_same ⟨by simp [V.inside, c1, c2], rfl, rfl⟩))
    · simp only [go_sem, reduceCtorEq, reduceIte, Nat.reduceEqDiff, Nat.reduceAdd, Nat.reduceLeDiff, Nat.reduceMul, Int.reduceLT, Int.reduceLE, Int.reduceAdd, Int.reduceSub, Int.reduceMul, Int.reduceNeg, Int.reduceToNat, Int.reduceEq, g, ef, c1, c2]
      exact endK_drop hM1 (endK_drop hM (endK_same ⟨by simp [V.inside, c1, c2], rfl, rfl⟩))

def V.pair (a b : V) : Bool := a.ok && b.ok && decide (a.w = b.w)
theorem k143 (v : V) (hv : v.ok = true) : CallsA Try.prog 143 [v.val] F M (Same F M v.tidy.val) := by
  refine callsA_of hm Try.func143 e143 (Nat.le_of_ble_eq_true rfl) ?_
  simp only [c143, go_sem, reduceCtorEq, reduceIte, Nat.reduceEqDiff, Nat.reduceAdd, Nat.reduceLeDiff, Nat.reduceMul, Int.reduceLT, Int.reduceLE, Int.reduceAdd, Int.reduceSub, Int.reduceMul, Int.reduceNeg, Int.reduceToNat, Int.reduceEq]
  intro r hF hM
  simp only [go_sem, reduceCtorEq, reduceIte, Nat.reduceEqDiff, Nat.reduceAdd, Nat.reduceLeDiff, Nat.reduceMul, Int.reduceLT, Int.reduceLE, Int.reduceAdd, Int.reduceSub, Int.reduceMul, Int.reduceNeg, Int.reduceToNat, Int.reduceEq]
  intro r1 hF1 hM1
  have gr := fresh_of hM1
  simp only [go_sem, reduceCtorEq, reduceIte, Nat.reduceEqDiff, Nat.reduceAdd, Nat.reduceLeDiff, Nat.reduceMul, Int.reduceLT, Int.reduceLE, Int.reduceAdd, Int.reduceSub, Int.reduceMul, Int.reduceNeg, Int.reduceToNat, Int.reduceEq, gr]
  refine callK_of (k123 F _ v 1 hv (by omega)) ?_
  have m1 := v.members1
  rintro u G M' ⟨hG, ⟨hlen, ⟨hnil, rfl, rfl⟩ | ⟨g, cap, hFg, hMg, rfl, rfl⟩⟩ | ⟨hlen, rfl, rfl⟩⟩ <;> rw [hG] <;> refine ⟨(fun h => by cases h), ?_⟩
  · have e : v.nextR 0 < 0 := by
      rw [m1] at hnil
      split at hnil
      · assumption
      · cases hnil
    simp only [go_sem, reduceCtorEq, reduceIte, Nat.reduceEqDiff, Nat.reduceAdd, Nat.reduceLeDiff, Nat.reduceMul, Int.reduceLT, Int.reduceLE, Int.reduceAdd, Int.reduceSub, Int.reduceMul, Int.reduceNeg, Int.reduceToNat, Int.reduceEq, gr]
    refine callK_same (k115 F _ v.w) ?_
    simp only [go_sem, reduceCtorEq, reduceIte, Nat.reduceEqDiff, Nat.reduceAdd, Nat.reduceLeDiff, Nat.reduceMul, Int.reduceLT, Int.reduceLE, Int.reduceAdd, Int.reduceSub, Int.reduceMul, Int.reduceNeg, Int.reduceToNat, Int.reduceEq, gr]
    exact endK_drop hM1 (endK_drop hM (endK_same ⟨by simp [V.tidy, e], rfl, rfl⟩))
  · have g1 := fresh_of hMg
    have g2 := fresh_of g1.2.2
    by_cases hx : v.nextR 0 < 0
    · have hm : v.members 1 = [] := by rw [m1, if_pos hx]
      simp only [hm, go_sem, reduceCtorEq, reduceIte, Nat.reduceEqDiff, Nat.reduceAdd, Nat.reduceLeDiff, Nat.reduceMul, Int.reduceLT, Int.reduceLE, Int.reduceAdd, Int.reduceSub, Int.reduceMul, Int.reduceNeg, Int.reduceToNat, Int.reduceEq, gr, g1, g2]
      refine callK_same (k115 F _ v.w) ?_
      simp only [go_sem, reduceCtorEq, reduceIte, Nat.reduceEqDiff, Nat.reduceAdd, Nat.reduceLeDiff, Nat.reduceMul, Int.reduceLT, Int.reduceLE, Int.reduceAdd, Int.reduceSub, Int.reduceMul, Int.reduceNeg, Int.reduceToNat, Int.reduceEq, gr, g1, g2]
      refine endK_keep ?_ ⟨by simp [V.tidy, hx], rfl, rfl⟩
      exact (((Keep.refl M).new hM).new gr.2.2).new g2.2.2
    · by_cases hy : v.nextR (v.nextR 0 + 1) < 0
      · have e : v.is1 = true := by simp [V.is1, hy]; omega
        have hm : v.members 1 = [v.nextR 0] := by rw [m1, if_neg hx, if_pos hy]
        simp only [hm, go_sem, reduceCtorEq, reduceIte, Nat.reduceEqDiff, Nat.reduceAdd, Nat.reduceLeDiff, Nat.reduceMul, Int.reduceLT, Int.reduceLE, Int.reduceAdd, Int.reduceSub, Int.reduceMul, Int.reduceNeg, Int.reduceToNat, Int.reduceEq, gr, g1, g2, List.map_cons, List.map_nil, intV]
        refine callK_same (k100 F _ v.w (v.nextR 0)) ?_
        simp only [go_sem, reduceCtorEq, reduceIte, Nat.reduceEqDiff, Nat.reduceAdd, Nat.reduceLeDiff, Nat.reduceMul, Int.reduceLT, Int.reduceLE, Int.reduceAdd, Int.reduceSub, Int.reduceMul, Int.reduceNeg, Int.reduceToNat, Int.reduceEq, gr, g1, g2]
        refine endK_keep ?_ ⟨by simp [V.tidy, hx, e], rfl, rfl⟩
        exact (((Keep.refl M).new hM).new gr.2.2).new g2.2.2
      · rw [m1, if_neg hx, if_neg hy] at hlen
        simp at hlen
  · have e : v.is1 = false ∧ ¬ v.nextR 0 < 0 := by
      rw [m1] at hlen
      split at hlen
      · simp at hlen
      · split at hlen
        · simp at hlen
        · rename_i hx hy
          exact ⟨by simp [V.is1, hy], hx⟩
    simp only [go_sem, reduceCtorEq, reduceIte, Nat.reduceEqDiff, Nat.reduceAdd, Nat.reduceLeDiff, Nat.reduceMul, Int.reduceLT, Int.reduceLE, Int.reduceAdd, Int.reduceSub, Int.reduceMul, Int.reduceNeg, Int.reduceToNat, Int.reduceEq, gr]
    exact endK_drop hM1 (endK_drop hM (endK_same ⟨by simp [V.tidy, e.1, e.2], rfl, rfl⟩))
end Go.Proofs.Try.K

/- Contracts: told to be in another one. -/
namespace Go.Proofs.Try.K
open Go Go.Ax Go.Proofs.Try.S
set_option maxRecDepth 100000
set_option linter.unusedSimpArgs false
set_option linter.unusedVariables false
variable (F : Fz) (M : Hp)

def underI (b : V) (l : List Int) (cap : Nat) (F0 : Fz) (M0 : Hp) (r1 g : Nat) (m : Nat) (σ : Env) (F' : Fz) (M' : Hp) : Prop :=
  F' = F0 ∧ M' = M0 ∧ Ax.look σ 3 = some (.pointer (some ⟨r1, 0, none⟩)) ∧ Ax.look σ 25 = some (.slice (some ⟨g, 0, none⟩) l.length cap) ∧ Ax.look σ 26 = some (.int .i64 l.length) ∧
  ∃ i : Nat, i + m = l.length ∧ Ax.look σ 27 = some (.int .i64 i) ∧ (l.all b.has = (l.drop i).all b.has)

theorem k130 (a b : V) (ha : a.ok = true) (hb : b.ok = true) : CallsA Try.prog 130 [a.val, b.val] F M (Same F M (.bool (a.under b))) := by
  refine callsA_of hm Try.func130 e130 (Nat.le_of_ble_eq_true rfl) ?_
  have lb := isW_le (ok_in hb).w
  simp only [c130, go_sem, reduceCtorEq, reduceIte, Nat.reduceEqDiff, Nat.reduceAdd, Nat.reduceLeDiff, Nat.reduceMul, Int.reduceLT, Int.reduceLE, Int.reduceAdd, Int.reduceSub, Int.reduceMul, Int.reduceNeg, Int.reduceToNat, Int.reduceEq]
  intro r hF hM
  simp only [go_sem, reduceCtorEq, reduceIte, Nat.reduceEqDiff, Nat.reduceAdd, Nat.reduceLeDiff, Nat.reduceMul, Int.reduceLT, Int.reduceLE, Int.reduceAdd, Int.reduceSub, Int.reduceMul, Int.reduceNeg, Int.reduceToNat, Int.reduceEq]
  intro r1 hF1 hM1
  have gr := fresh_of hM1
  simp only [go_sem, reduceCtorEq, reduceIte, Nat.reduceEqDiff, Nat.reduceAdd, Nat.reduceLeDiff, Nat.reduceMul, Int.reduceLT, Int.reduceLE, Int.reduceAdd, Int.reduceSub, Int.reduceMul, Int.reduceNeg, Int.reduceToNat, Int.reduceEq, gr]
  by_cases c1 : a = b
  · subst c1
    simp only [go_sem, reduceCtorEq, reduceIte, Nat.reduceEqDiff, Nat.reduceAdd, Nat.reduceLeDiff, Nat.reduceMul, Int.reduceLT, Int.reduceLE, Int.reduceAdd, Int.reduceSub, Int.reduceMul, Int.reduceNeg, Int.reduceToNat, Int.reduceEq, gr, eq_self]
    exact endK_drop hM1 (endK_drop hM (endK_same ⟨by simp [V.under], rfl, rfl⟩))
  simp only [go_sem, reduceCtorEq, reduceIte, Nat.reduceEqDiff, Nat.reduceAdd, Nat.reduceLeDiff, Nat.reduceMul, Int.reduceLT, Int.reduceLE, Int.reduceAdd, Int.reduceSub, Int.reduceMul, Int.reduceNeg, Int.reduceToNat, Int.reduceEq, gr, c1]
  refine callK_same (k102 F _ b.w lb.1 lb.2) ?_
  by_cases c2 : b = V.whole b.w
  · have e2 : decide (b = V.whole b.w) = true := by simpa using c2
    simp only [go_sem, reduceCtorEq, reduceIte, Nat.reduceEqDiff, Nat.reduceAdd, Nat.reduceLeDiff, Nat.reduceMul, Int.reduceLT, Int.reduceLE, Int.reduceAdd, Int.reduceSub, Int.reduceMul, Int.reduceNeg, Int.reduceToNat, Int.reduceEq, gr, c1, e2]
    exact endK_drop hM1 (endK_drop hM (endK_same ⟨by simp [V.under, e2], rfl, rfl⟩))
  have e2 : decide (b = V.whole b.w) = false := by simpa using c2
  simp only [go_sem, reduceCtorEq, reduceIte, Nat.reduceEqDiff, Nat.reduceAdd, Nat.reduceLeDiff, Nat.reduceMul, Int.reduceLT, Int.reduceLE, Int.reduceAdd, Int.reduceSub, Int.reduceMul, Int.reduceNeg, Int.reduceToNat, Int.reduceEq, gr, c1, e2]
  refine callK_of (k123 F _ a 16 ha (by omega)) ?_
  rintro u G M' ⟨hG, ⟨hlen, ⟨hnil, rfl, rfl⟩ | ⟨g, cap, hFg, hMg, rfl, rfl⟩⟩ | ⟨hlen, rfl, rfl⟩⟩ <;> rw [hG] <;> refine ⟨(fun h => by cases h), ?_⟩
  · have e : a.under b = true := by simp [V.under, c1, e2, hnil]
    simp only [go_sem, reduceCtorEq, reduceIte, Nat.reduceEqDiff, Nat.reduceAdd, Nat.reduceLeDiff, Nat.reduceMul, Int.reduceLT, Int.reduceLE, Int.reduceAdd, Int.reduceSub, Int.reduceMul, Int.reduceNeg, Int.reduceToNat, Int.reduceEq, gr]
    refine loop_of (fun m σ F' M' => F' = F ∧ M' = (M.upd r ⟨a.cs, 34, 6⟩).upd r1 ⟨b.cs, 34, 6⟩ ∧ Ax.look σ 26 = some (.int .i64 0) ∧ Ax.look σ 27 = some (.int .i64 0)) 0 ?_ ?_
    · exact ⟨rfl, rfl, by simp only [go_sem, reduceCtorEq, reduceIte, Nat.reduceEqDiff, Nat.reduceAdd, Nat.reduceLeDiff, Nat.reduceMul, Int.reduceLT, Int.reduceLE, Int.reduceAdd, Int.reduceSub, Int.reduceMul, Int.reduceNeg, Int.reduceToNat, Int.reduceEq], by simp only [go_sem, reduceCtorEq, reduceIte, Nat.reduceEqDiff, Nat.reduceAdd, Nat.reduceLeDiff, Nat.reduceMul, Int.reduceLT, Int.reduceLE, Int.reduceAdd, Int.reduceSub, Int.reduceMul, Int.reduceNeg, Int.reduceToNat, Int.reduceEq]⟩
    · rintro m σ F' M' ⟨rfl, rfl, h26, h27⟩
      simp only [go_sem, reduceCtorEq, reduceIte, Nat.reduceEqDiff, Nat.reduceAdd, Nat.reduceLeDiff, Nat.reduceMul, Int.reduceLT, Int.reduceLE, Int.reduceAdd, Int.reduceSub, Int.reduceMul, Int.reduceNeg, Int.reduceToNat, Int.reduceEq, h26, h27, Int.lt_irrefl]
      exact endK_drop hM1 (endK_drop hM (endK_same ⟨by rw [e], rfl, rfl⟩))
  · have g1 := fresh_of hMg
    have g2 := fresh_of g1.2.2
    have e : a.under b = (a.members 16).all b.has := by simp [V.under, c1, e2, hlen]
    rw [e]
    generalize a.members 16 = l at *
    simp only [go_sem, reduceCtorEq, reduceIte, Nat.reduceEqDiff, Nat.reduceAdd, Nat.reduceLeDiff, Nat.reduceMul, Int.reduceLT, Int.reduceLE, Int.reduceAdd, Int.reduceSub, Int.reduceMul, Int.reduceNeg, Int.reduceToNat, Int.reduceEq, gr]
    refine loop_of (underI b l cap F (((M.upd r ⟨a.cs, 34, 6⟩).upd r1 ⟨b.cs, 34, 6⟩).upd g ⟨l.map intV, 3, cap * 1⟩) r1 g) l.length ?_ ?_
    · exact ⟨rfl, rfl, by simp only [go_sem, reduceCtorEq, reduceIte, Nat.reduceEqDiff, Nat.reduceAdd, Nat.reduceLeDiff, Nat.reduceMul, Int.reduceLT, Int.reduceLE, Int.reduceAdd, Int.reduceSub, Int.reduceMul, Int.reduceNeg, Int.reduceToNat, Int.reduceEq], by simp only [go_sem, reduceCtorEq, reduceIte, Nat.reduceEqDiff, Nat.reduceAdd, Nat.reduceLeDiff, Nat.reduceMul, Int.reduceLT, Int.reduceLE, Int.reduceAdd, Int.reduceSub, Int.reduceMul, Int.reduceNeg, Int.reduceToNat, Int.reduceEq], by simp only [go_sem, reduceCtorEq, reduceIte, Nat.reduceEqDiff, Nat.reduceAdd, Nat.reduceLeDiff, Nat.reduceMul, Int.reduceLT, Int.reduceLE, Int.reduceAdd, Int.reduceSub, Int.reduceMul, Int.reduceNeg, Int.reduceToNat, Int.reduceEq], 0, by omega, by simp only [go_sem, reduceCtorEq, reduceIte, Nat.reduceEqDiff, Nat.reduceAdd, Nat.reduceLeDiff, Nat.reduceMul, Int.reduceLT, Int.reduceLE, Int.reduceAdd, Int.reduceSub, Int.reduceMul, Int.reduceNeg, Int.reduceToNat, Int.reduceEq] <;> rfl, rfl⟩
    · rintro m σ F' M' ⟨rfl, rfl, h3, h25, h26, i, hi, h27, hall⟩
      by_cases hil : (i : Int) < l.length
      · have hi0 : (0 : Int) ≤ i := by omega
        have hil' : i < l.length := by omega
        have hget := get_ints hil'
        have ei : IntKind.i64.wrap ((i : Int) + 1) = i + 1 := w64 (by omega) (by omega)
        have hd : (l.drop i).all b.has = (b.has l[i] && (l.drop (i + 1)).all b.has) := by rw [List.drop_eq_getElem_cons hil']; rfl
        simp only [go_sem, reduceCtorEq, reduceIte, Nat.reduceEqDiff, Nat.reduceAdd, Nat.reduceLeDiff, Nat.reduceMul, Int.reduceLT, Int.reduceLE, Int.reduceAdd, Int.reduceSub, Int.reduceMul, Int.reduceNeg, Int.reduceToNat, Int.reduceEq, h3, h25, h26, h27, hil, hi0, Int.toNat_natCast, Nat.mul_one, hget, gr, g1, g2]
        refine callK_same (k113 F' _ b l[i]) ?_
        cases hh : b.has l[i]
        · rw [hh, Bool.false_and] at hd
          simp only [go_sem, reduceCtorEq, reduceIte, Nat.reduceEqDiff, Nat.reduceAdd, Nat.reduceLeDiff, Nat.reduceMul, Int.reduceLT, Int.reduceLE, Int.reduceAdd, Int.reduceSub, Int.reduceMul, Int.reduceNeg, Int.reduceToNat, Int.reduceEq, h3, h25, h26, h27]
          exact endK_keep ((((Keep.refl M).new hM).new gr.2.2).new g2.2.2) ⟨by rw [hall, hd], rfl, rfl⟩
        · rw [hh, Bool.true_and] at hd
          simp only [go_sem, reduceCtorEq, reduceIte, Nat.reduceEqDiff, Nat.reduceAdd, Nat.reduceLeDiff, Nat.reduceMul, Int.reduceLT, Int.reduceLE, Int.reduceAdd, Int.reduceSub, Int.reduceMul, Int.reduceNeg, Int.reduceToNat, Int.reduceEq, h3, h25, h26, h27, ei]
          exact ⟨m - 1, by omega, rfl, rfl, by simp only [go_sem, reduceCtorEq, reduceIte, Nat.reduceEqDiff, Nat.reduceAdd, Nat.reduceLeDiff, Nat.reduceMul, Int.reduceLT, Int.reduceLE, Int.reduceAdd, Int.reduceSub, Int.reduceMul, Int.reduceNeg, Int.reduceToNat, Int.reduceEq, h3], by simp only [go_sem, reduceCtorEq, reduceIte, Nat.reduceEqDiff, Nat.reduceAdd, Nat.reduceLeDiff, Nat.reduceMul, Int.reduceLT, Int.reduceLE, Int.reduceAdd, Int.reduceSub, Int.reduceMul, Int.reduceNeg, Int.reduceToNat, Int.reduceEq, h25], by simp only [go_sem, reduceCtorEq, reduceIte, Nat.reduceEqDiff, Nat.reduceAdd, Nat.reduceLeDiff, Nat.reduceMul, Int.reduceLT, Int.reduceLE, Int.reduceAdd, Int.reduceSub, Int.reduceMul, Int.reduceNeg, Int.reduceToNat, Int.reduceEq, h26], i + 1, by omega, by simp only [go_sem, reduceCtorEq, reduceIte, Nat.reduceEqDiff, Nat.reduceAdd, Nat.reduceLeDiff, Nat.reduceMul, Int.reduceLT, Int.reduceLE, Int.reduceAdd, Int.reduceSub, Int.reduceMul, Int.reduceNeg, Int.reduceToNat, Int.reduceEq]; rfl, by rw [hall, hd]⟩
      · simp only [go_sem, reduceCtorEq, reduceIte, Nat.reduceEqDiff, Nat.reduceAdd, Nat.reduceLeDiff, Nat.reduceMul, Int.reduceLT, Int.reduceLE, Int.reduceAdd, Int.reduceSub, Int.reduceMul, Int.reduceNeg, Int.reduceToNat, Int.reduceEq, h3, h25, h26, h27, hil]
        have : l.drop i = [] := List.drop_eq_nil_of_le (by omega)
        rw [this] at hall
        exact endK_keep ((((Keep.refl M).new hM).new gr.2.2).new g2.2.2) ⟨by rw [hall]; rfl, rfl, rfl⟩
  · have hl : ¬ (a.members 16).length ≤ 16 := by omega
    have e : a.under b = (!b.no && a.inside b && decide (bclr .i64 a.free b.free = 0) && decide (bclr .i64 a.bits b.free = b.bits)) := by simp [V.under, c1, e2, hl]
    rw [e]
    simp only [go_sem, reduceCtorEq, reduceIte, Nat.reduceEqDiff, Nat.reduceAdd, Nat.reduceLeDiff, Nat.reduceMul, Int.reduceLT, Int.reduceLE, Int.reduceAdd, Int.reduceSub, Int.reduceMul, Int.reduceNeg, Int.reduceToNat, Int.reduceEq, gr]
    cases hno : b.no
    rotate_left
    · simp only [go_sem, reduceCtorEq, reduceIte, Nat.reduceEqDiff, Nat.reduceAdd, Nat.reduceLeDiff, Nat.reduceMul, Int.reduceLT, Int.reduceLE, Int.reduceAdd, Int.reduceSub, Int.reduceMul, Int.reduceNeg, Int.reduceToNat, Int.reduceEq, gr]
      exact endK_drop hM1 (endK_drop hM (endK_same ⟨rfl, rfl, rfl⟩))
    simp only [go_sem, reduceCtorEq, reduceIte, Nat.reduceEqDiff, Nat.reduceAdd, Nat.reduceLeDiff, Nat.reduceMul, Int.reduceLT, Int.reduceLE, Int.reduceAdd, Int.reduceSub, Int.reduceMul, Int.reduceNeg, Int.reduceToNat, Int.reduceEq, gr]
    refine callK_same (k152 F _ a b (ok_in ha) (ok_in hb)) ?_
    cases hin : a.inside b
    · simp only [go_sem, reduceCtorEq, reduceIte, Nat.reduceEqDiff, Nat.reduceAdd, Nat.reduceLeDiff, Nat.reduceMul, Int.reduceLT, Int.reduceLE, Int.reduceAdd, Int.reduceSub, Int.reduceMul, Int.reduceNeg, Int.reduceToNat, Int.reduceEq, gr]
      exact endK_drop hM1 (endK_drop hM (endK_same ⟨rfl, rfl, rfl⟩))
    by_cases d1 : bclr .i64 a.free b.free = 0
    · simp only [go_sem, reduceCtorEq, reduceIte, Nat.reduceEqDiff, Nat.reduceAdd, Nat.reduceLeDiff, Nat.reduceMul, Int.reduceLT, Int.reduceLE, Int.reduceAdd, Int.reduceSub, Int.reduceMul, Int.reduceNeg, Int.reduceToNat, Int.reduceEq, gr, d1]
      exact endK_drop hM1 (endK_drop hM (endK_same ⟨by simp [d1], rfl, rfl⟩))
    · simp only [go_sem, reduceCtorEq, reduceIte, Nat.reduceEqDiff, Nat.reduceAdd, Nat.reduceLeDiff, Nat.reduceMul, Int.reduceLT, Int.reduceLE, Int.reduceAdd, Int.reduceSub, Int.reduceMul, Int.reduceNeg, Int.reduceToNat, Int.reduceEq, gr, d1]
      exact endK_drop hM1 (endK_drop hM (endK_same ⟨by simp [d1], rfl, rfl⟩))

end Go.Proofs.Try.K

/- Contract: a range that both lie in. -/
namespace Go.Proofs.Try.K
open Go Go.Ax Go.Proofs.Try.S
set_option maxRecDepth 100000
set_option linter.unusedSimpArgs false
set_option linter.unusedVariables false
set_option maxHeartbeats 4000000
variable (F : Fz) (M : Hp)

/-- What stays through the rounds: the two sets, the best range so far. -/
structure CovM (a b : V) (M : Hp) (ra rb rz : Nat) (M' : Hp) (l h : Int) : Prop where
  keep : Keep M M'
  fa : M' ra = some ⟨a.cs, 34, 6⟩
  fb : M' rb = some ⟨b.cs, 34, 6⟩
  fz : M' rz = some ⟨(V.mk a.w false l h 0 0).cs, 34, 6⟩
  nz : M rz = none
  na : ¬ ra = rz
  nb : ¬ rb = rz
  cov : Cov a b l h
theorem CovM.new {a b : V} {M M' : Hp} {ra rb rz : Nat} {l h : Int} (c : CovM a b M ra rb rz M' l h) {r : Nat} {e : Ent} (hr : M' r = none) : CovM a b M ra rb rz (M'.upd r e) l h :=
  ⟨c.keep.new (c.keep.free hr), by rw [Hp.upd_ne' (ne_of_none hr c.fa).1]; exact c.fa, by rw [Hp.upd_ne' (ne_of_none hr c.fb).1]; exact c.fb, by rw [Hp.upd_ne' (ne_of_none hr c.fz).1]; exact c.fz, c.nz, c.na, c.nb, c.cov⟩
theorem CovM.set {a b : V} {M M' : Hp} {ra rb rz : Nat} {l h l' h' : Int} (c : CovM a b M ra rb rz M' l h) (k : Cov a b l' h') : CovM a b M ra rb rz (M'.upd rz ⟨(V.mk a.w false l' h' 0 0).cs, 34, 6⟩) l' h' :=
  ⟨c.keep.new c.nz, by rw [Hp.upd_ne' c.na]; exact c.fa, by rw [Hp.upd_ne' c.nb]; exact c.fb, Hp.upd_same _ _ _, c.nz, c.na, c.nb, k⟩
def outI (a b : V) (F0 : Fz) (M : Hp) (ra rb rz r20 : Nat) (m : Nat) (σ : Env) (F' : Fz) (M' : Hp) : Prop :=
  F' = F0 ∧ ¬ r20 = rz ∧ M' r20 = some ⟨a.cs ++ b.cs, 34, 12⟩ ∧ (∃ l h, CovM a b M ra rb rz M' l h) ∧
  Ax.look σ 2 = some (.pointer (some ⟨ra, 0, none⟩)) ∧ Ax.look σ 3 = some (.pointer (some ⟨rb, 0, none⟩)) ∧ Ax.look σ 6 = some (.pointer (some ⟨rz, 0, none⟩)) ∧
  Ax.look σ 20 = some (.slice (some ⟨r20, 0, none⟩) 2 2) ∧ Ax.look σ 21 = some (.int .i64 2) ∧ (m = 2 ∧ Ax.look σ 22 = some (.int .i64 0) ∨ m = 1 ∧ Ax.look σ 22 = some (.int .i64 1) ∨ m = 0 ∧ Ax.look σ 22 = some (.int .i64 2))
def inI (a b x : V) (i : Int) (F0 : Fz) (M : Hp) (ra rb rz r20 rx r28 : Nat) (m : Nat) (σ : Env) (F' : Fz) (M' : Hp) : Prop :=
  F' = F0 ∧ (¬ r20 = rz ∧ ¬ r28 = rz ∧ ¬ rx = rz) ∧ M' r20 = some ⟨a.cs ++ b.cs, 34, 12⟩ ∧ M' r28 = some ⟨a.cs ++ b.cs, 34, 12⟩ ∧ M' rx = some ⟨x.cs, 34, 6⟩ ∧ (∃ l h, CovM a b M ra rb rz M' l h) ∧
  Ax.look σ 2 = some (.pointer (some ⟨ra, 0, none⟩)) ∧ Ax.look σ 3 = some (.pointer (some ⟨rb, 0, none⟩)) ∧ Ax.look σ 6 = some (.pointer (some ⟨rz, 0, none⟩)) ∧
  Ax.look σ 20 = some (.slice (some ⟨r20, 0, none⟩) 2 2) ∧ Ax.look σ 21 = some (.int .i64 2) ∧ Ax.look σ 22 = some (.int .i64 i) ∧ Ax.look σ 8 = some (.pointer (some ⟨rx, 0, none⟩)) ∧
  Ax.look σ 28 = some (.slice (some ⟨r28, 0, none⟩) 2 2) ∧ Ax.look σ 29 = some (.int .i64 2) ∧ (m = 2 ∧ Ax.look σ 30 = some (.int .i64 0) ∨ m = 1 ∧ Ax.look σ 30 = some (.int .i64 1) ∨ m = 0 ∧ Ax.look σ 30 = some (.int .i64 2))

theorem k150 (a b : V) (ha : a.In) (hb : b.In) (hw : b.w = a.w) : CallsA Try.prog 150 [a.val, b.val] F M fun u F' M' => F' = F ∧ M' = M ∧ ∃ l h, u = .tuple #[.int .i64 l, .int .i64 h] ∧ Cov a b l h := by
  refine callsA_of hm Try.func150 e150 (Nat.le_of_ble_eq_true rfl) ?_
  have la := isW_le ha.w
  simp only [c150, go_sem, reduceCtorEq, reduceIte, Nat.reduceEqDiff, Nat.reduceAdd, Nat.reduceLeDiff, Nat.reduceMul, Int.reduceLT, Int.reduceLE, Int.reduceAdd, Int.reduceSub, Int.reduceMul, Int.reduceNeg, Int.reduceToNat, Int.reduceEq]
  intro ra hFa hMa
  simp only [go_sem, reduceCtorEq, reduceIte, Nat.reduceEqDiff, Nat.reduceAdd, Nat.reduceLeDiff, Nat.reduceMul, Int.reduceLT, Int.reduceLE, Int.reduceAdd, Int.reduceSub, Int.reduceMul, Int.reduceNeg, Int.reduceToNat, Int.reduceEq]
  intro rb hFb hMb
  have gb := fresh_of hMb
  simp only [go_sem, reduceCtorEq, reduceIte, Nat.reduceEqDiff, Nat.reduceAdd, Nat.reduceLeDiff, Nat.reduceMul, Int.reduceLT, Int.reduceLE, Int.reduceAdd, Int.reduceSub, Int.reduceMul, Int.reduceNeg, Int.reduceToNat, Int.reduceEq, gb]
  refine callK_same (k137 F _ a.w la.1 la.2) ?_
  simp only [go_sem, reduceCtorEq, reduceIte, Nat.reduceEqDiff, Nat.reduceAdd, Nat.reduceLeDiff, Nat.reduceMul, Int.reduceLT, Int.reduceLE, Int.reduceAdd, Int.reduceSub, Int.reduceMul, Int.reduceNeg, Int.reduceToNat, Int.reduceEq, gb]
  intro rz hFz hMz
  have gz := fresh_of hMz
  have gz2 := fresh_of gz.2.2
  simp only [go_sem, reduceCtorEq, reduceIte, Nat.reduceEqDiff, Nat.reduceAdd, Nat.reduceLeDiff, Nat.reduceMul, Int.reduceLT, Int.reduceLE, Int.reduceAdd, Int.reduceSub, Int.reduceMul, Int.reduceNeg, Int.reduceToNat, Int.reduceEq, gb, gz, gz2]
  intro r20 hF20 hM20
  have g20 := fresh_of hM20
  have c0 : CovM a b M ra rb rz (((M.upd ra ⟨a.cs, 34, 6⟩).upd rb ⟨b.cs, 34, 6⟩).upd rz ⟨(V.mk a.w false 0 (mostV a.w) 0 0).cs, 34, 6⟩) 0 (mostV a.w) := by
    refine ⟨(((Keep.refl M).new hMa).new gb.2.2).new gz2.2.2, ?_, ?_, Hp.upd_same _ _ _, gz2.2.2, gz2.2.1, gz.2.1, cov_all ha⟩
    · rw [Hp.upd_ne' gz2.2.1, Hp.upd_ne' gb.2.1]; exact Hp.upd_same _ _ _
    · rw [Hp.upd_ne' gz.2.1]; exact Hp.upd_same _ _ _
  simp only [go_sem, reduceCtorEq, reduceIte, Nat.reduceEqDiff, Nat.reduceAdd, Nat.reduceLeDiff, Nat.reduceMul, Int.reduceLT, Int.reduceLE, Int.reduceAdd, Int.reduceSub, Int.reduceMul, Int.reduceNeg, Int.reduceToNat, Int.reduceEq, gb, gz, gz2]
  refine loop_of (outI a b F M ra rb rz r20) 2 ?_ ?_
  · exact ⟨rfl, g20.1, Hp.upd_same _ _ _, ⟨_, _, c0.new hM20⟩, by simp only [go_sem, reduceCtorEq, reduceIte, Nat.reduceEqDiff, Nat.reduceAdd, Nat.reduceLeDiff, Nat.reduceMul, Int.reduceLT, Int.reduceLE, Int.reduceAdd, Int.reduceSub, Int.reduceMul, Int.reduceNeg, Int.reduceToNat, Int.reduceEq], by simp only [go_sem, reduceCtorEq, reduceIte, Nat.reduceEqDiff, Nat.reduceAdd, Nat.reduceLeDiff, Nat.reduceMul, Int.reduceLT, Int.reduceLE, Int.reduceAdd, Int.reduceSub, Int.reduceMul, Int.reduceNeg, Int.reduceToNat, Int.reduceEq], by simp only [go_sem, reduceCtorEq, reduceIte, Nat.reduceEqDiff, Nat.reduceAdd, Nat.reduceLeDiff, Nat.reduceMul, Int.reduceLT, Int.reduceLE, Int.reduceAdd, Int.reduceSub, Int.reduceMul, Int.reduceNeg, Int.reduceToNat, Int.reduceEq], by simp only [go_sem, reduceCtorEq, reduceIte, Nat.reduceEqDiff, Nat.reduceAdd, Nat.reduceLeDiff, Nat.reduceMul, Int.reduceLT, Int.reduceLE, Int.reduceAdd, Int.reduceSub, Int.reduceMul, Int.reduceNeg, Int.reduceToNat, Int.reduceEq], by simp only [go_sem, reduceCtorEq, reduceIte, Nat.reduceEqDiff, Nat.reduceAdd, Nat.reduceLeDiff, Nat.reduceMul, Int.reduceLT, Int.reduceLE, Int.reduceAdd, Int.reduceSub, Int.reduceMul, Int.reduceNeg, Int.reduceToNat, Int.reduceEq], .inl ⟨rfl, by simp only [go_sem, reduceCtorEq, reduceIte, Nat.reduceEqDiff, Nat.reduceAdd, Nat.reduceLeDiff, Nat.reduceMul, Int.reduceLT, Int.reduceLE, Int.reduceAdd, Int.reduceSub, Int.reduceMul, Int.reduceNeg, Int.reduceToNat, Int.reduceEq]⟩⟩
  clear c0 hM20 g20 hMz gz gz2 hFz hF20
  rintro mo σ F' M' ⟨rfl, n20, f20, ⟨l, h, c⟩, h2, h3, h6, h20, h21, h22⟩
  have b2 := blk_M (F := F') c.fa
  have b3 := blk_M (F := F') c.fb
  have b6 := blk_M (F := F') c.fz
  have b20 := blk_M (F := F') f20
  rcases h22 with ⟨rfl, h22⟩ | ⟨rfl, h22⟩ | ⟨rfl, h22⟩
  · simp only [go_sem, reduceCtorEq, reduceIte, Nat.reduceEqDiff, Nat.reduceAdd, Nat.reduceLeDiff, Nat.reduceMul, Int.reduceLT, Int.reduceLE, Int.reduceAdd, Int.reduceSub, Int.reduceMul, Int.reduceNeg, Int.reduceToNat, Int.reduceEq, h2, h3, h6, h20, h21, h22, b2, b3, b6, b20]
    intro rx hFx hMx
    have o1 := ne_of_none hMx c.fa
    have o2 := ne_of_none hMx c.fb
    have o3 := ne_of_none hMx c.fz
    have o4 := ne_of_none hMx f20
    simp only [go_sem, reduceCtorEq, reduceIte, Nat.reduceEqDiff, Nat.reduceAdd, Nat.reduceLeDiff, Nat.reduceMul, Int.reduceLT, Int.reduceLE, Int.reduceAdd, Int.reduceSub, Int.reduceMul, Int.reduceNeg, Int.reduceToNat, Int.reduceEq, h2, h3, h6, h20, h21, h22, o1, o2, o3, o4, b2, b3, b6, b20]
    intro r28 hF28 hM28
    have p1 := fresh_of hM28
    have p4 := ne_of_none p1.2.2 f20
    have p3 := ne_of_none p1.2.2 c.fz
    simp only [go_sem, reduceCtorEq, reduceIte, Nat.reduceEqDiff, Nat.reduceAdd, Nat.reduceLeDiff, Nat.reduceMul, Int.reduceLT, Int.reduceLE, Int.reduceAdd, Int.reduceSub, Int.reduceMul, Int.reduceNeg, Int.reduceToNat, Int.reduceEq, h2, h3, h6, h20, h21, h22, o1, o2, o3, o4, p1, p3, p4, b2, b3, b6, b20]
    refine loop_of (inI a b a 0 F' M ra rb rz r20 rx r28) 2 ?_ ?_
    · exact ⟨rfl, ⟨n20, p3.2, o3.2⟩, by rw [Hp.upd_ne' p4.1, Hp.upd_ne' o4.1]; exact f20, Hp.upd_same _ _ _, by rw [Hp.upd_ne' p1.2.1]; exact Hp.upd_same _ _ _, ⟨_, _, (c.new hMx).new hM28⟩,
        by simp only [go_sem, reduceCtorEq, reduceIte, Nat.reduceEqDiff, Nat.reduceAdd, Nat.reduceLeDiff, Nat.reduceMul, Int.reduceLT, Int.reduceLE, Int.reduceAdd, Int.reduceSub, Int.reduceMul, Int.reduceNeg, Int.reduceToNat, Int.reduceEq, h2], by simp only [go_sem, reduceCtorEq, reduceIte, Nat.reduceEqDiff, Nat.reduceAdd, Nat.reduceLeDiff, Nat.reduceMul, Int.reduceLT, Int.reduceLE, Int.reduceAdd, Int.reduceSub, Int.reduceMul, Int.reduceNeg, Int.reduceToNat, Int.reduceEq, h3], by simp only [go_sem, reduceCtorEq, reduceIte, Nat.reduceEqDiff, Nat.reduceAdd, Nat.reduceLeDiff, Nat.reduceMul, Int.reduceLT, Int.reduceLE, Int.reduceAdd, Int.reduceSub, Int.reduceMul, Int.reduceNeg, Int.reduceToNat, Int.reduceEq, h6], by simp only [go_sem, reduceCtorEq, reduceIte, Nat.reduceEqDiff, Nat.reduceAdd, Nat.reduceLeDiff, Nat.reduceMul, Int.reduceLT, Int.reduceLE, Int.reduceAdd, Int.reduceSub, Int.reduceMul, Int.reduceNeg, Int.reduceToNat, Int.reduceEq, h20], by simp only [go_sem, reduceCtorEq, reduceIte, Nat.reduceEqDiff, Nat.reduceAdd, Nat.reduceLeDiff, Nat.reduceMul, Int.reduceLT, Int.reduceLE, Int.reduceAdd, Int.reduceSub, Int.reduceMul, Int.reduceNeg, Int.reduceToNat, Int.reduceEq, h21], by simp only [go_sem, reduceCtorEq, reduceIte, Nat.reduceEqDiff, Nat.reduceAdd, Nat.reduceLeDiff, Nat.reduceMul, Int.reduceLT, Int.reduceLE, Int.reduceAdd, Int.reduceSub, Int.reduceMul, Int.reduceNeg, Int.reduceToNat, Int.reduceEq, h22], by simp only [go_sem, reduceCtorEq, reduceIte, Nat.reduceEqDiff, Nat.reduceAdd, Nat.reduceLeDiff, Nat.reduceMul, Int.reduceLT, Int.reduceLE, Int.reduceAdd, Int.reduceSub, Int.reduceMul, Int.reduceNeg, Int.reduceToNat, Int.reduceEq], by simp only [go_sem, reduceCtorEq, reduceIte, Nat.reduceEqDiff, Nat.reduceAdd, Nat.reduceLeDiff, Nat.reduceMul, Int.reduceLT, Int.reduceLE, Int.reduceAdd, Int.reduceSub, Int.reduceMul, Int.reduceNeg, Int.reduceToNat, Int.reduceEq], by simp only [go_sem, reduceCtorEq, reduceIte, Nat.reduceEqDiff, Nat.reduceAdd, Nat.reduceLeDiff, Nat.reduceMul, Int.reduceLT, Int.reduceLE, Int.reduceAdd, Int.reduceSub, Int.reduceMul, Int.reduceNeg, Int.reduceToNat, Int.reduceEq], .inl ⟨rfl, by simp only [go_sem, reduceCtorEq, reduceIte, Nat.reduceEqDiff, Nat.reduceAdd, Nat.reduceLeDiff, Nat.reduceMul, Int.reduceLT, Int.reduceLE, Int.reduceAdd, Int.reduceSub, Int.reduceMul, Int.reduceNeg, Int.reduceToNat, Int.reduceEq]⟩⟩
    have hx : a.In := ha
    have hxw : a.w = a.w := rfl
    clear h2 h3 h6 h20 h21 h22 b2 b3 b6 b20 f20 hM28 p1 p3 p4 o1 o2 o3 o4 hMx
    clear c
    clear l h
    clear hFx hF28
    rintro m σ F'' M'' ⟨rfl, nn, f20, f28, fx, ⟨l, h, c⟩, h2, h3, h6, h20, h21, h22, h8, h28, h29, h30⟩
    have b2 := blk_M (F := F'') c.fa
    have b3 := blk_M (F := F'') c.fb
    have b6 := blk_M (F := F'') c.fz
    have b8 := blk_M (F := F'') fx
    have b28 := blk_M (F := F'') f28
    rcases h30 with ⟨rfl, h30⟩ | ⟨rfl, h30⟩ | ⟨rfl, h30⟩
    · simp only [go_sem, reduceCtorEq, reduceIte, Nat.reduceEqDiff, Nat.reduceAdd, Nat.reduceLeDiff, Nat.reduceMul, Int.reduceLT, Int.reduceLE, Int.reduceAdd, Int.reduceSub, Int.reduceMul, Int.reduceNeg, Int.reduceToNat, Int.reduceEq, h2, h3, h6, h20, h21, h22, h8, h28, h29, h30, b2, b3, b6, b8, b28]
      intro ry hFy hMy
      have q1 := ne_of_none hMy c.fa
      have q2 := ne_of_none hMy c.fb
      have q3 := ne_of_none hMy c.fz
      have q4 := ne_of_none hMy fx
      have q5 := ne_of_none hMy f20
      have q6 := ne_of_none hMy f28
      simp only [go_sem, reduceCtorEq, reduceIte, Nat.reduceEqDiff, Nat.reduceAdd, Nat.reduceLeDiff, Nat.reduceMul, Int.reduceLT, Int.reduceLE, Int.reduceAdd, Int.reduceSub, Int.reduceMul, Int.reduceNeg, Int.reduceToNat, Int.reduceEq, h2, h3, h6, h20, h21, h22, h8, h28, h29, h30, b2, b3, b6, b8, b28, q1, q2, q3, q4, q5, q6]
      intro rw' hFw hMw
      have w1 := fresh_of hMw
      have u1 := ne_of_none w1.2.2 c.fa
      have u2 := ne_of_none w1.2.2 c.fb
      have u3 := ne_of_none w1.2.2 c.fz
      have ux := ne_of_none w1.2.2 fx
      have q7 := ne_of_none w1.2.2 f20
      have u28 := ne_of_none w1.2.2 f28
      have hz : (V.mk a.w false a.low a.high 0 0).In := span_in ha hx ha hxw rfl
      simp only [go_sem, reduceCtorEq, reduceIte, Nat.reduceEqDiff, Nat.reduceAdd, Nat.reduceLeDiff, Nat.reduceMul, Int.reduceLT, Int.reduceLE, Int.reduceAdd, Int.reduceSub, Int.reduceMul, Int.reduceNeg, Int.reduceToNat, Int.reduceEq, h2, h3, h6, h20, h21, h22, h8, h28, h29, h30, b2, b3, b6, b8, b28, q1, q2, q3, q4, q5, q6, q7, w1, u1, u2, u3, ux, u28]
      refine callK_same (k152 _ _ a (V.mk a.w false a.low a.high 0 0) ha hz) ?_
      cases i1 : a.inside (V.mk a.w false a.low a.high 0 0)
      · simp only [go_sem, reduceCtorEq, reduceIte, Nat.reduceEqDiff, Nat.reduceAdd, Nat.reduceLeDiff, Nat.reduceMul, Int.reduceLT, Int.reduceLE, Int.reduceAdd, Int.reduceSub, Int.reduceMul, Int.reduceNeg, Int.reduceToNat, Int.reduceEq, h2, h3, h6, h20, h21, h22, h8, h28, h29, h30, b2, b3, b6, b8, b28, q1, q2, q3, q4, q5, q6, q7, w1, u1, u2, u3, ux, u28]
        exact ⟨1, by omega, rfl, nn, by rw [Hp.upd_ne' q7.1, Hp.upd_ne' q5.1]; exact f20, by rw [Hp.upd_ne' u28.1, Hp.upd_ne' q6.1]; exact f28, by rw [Hp.upd_ne' ux.1, Hp.upd_ne' q4.1]; exact fx, ⟨_, _, (c.new hMy).new hMw⟩, by simp only [go_sem, reduceCtorEq, reduceIte, Nat.reduceEqDiff, Nat.reduceAdd, Nat.reduceLeDiff, Nat.reduceMul, Int.reduceLT, Int.reduceLE, Int.reduceAdd, Int.reduceSub, Int.reduceMul, Int.reduceNeg, Int.reduceToNat, Int.reduceEq, h2], by simp only [go_sem, reduceCtorEq, reduceIte, Nat.reduceEqDiff, Nat.reduceAdd, Nat.reduceLeDiff, Nat.reduceMul, Int.reduceLT, Int.reduceLE, Int.reduceAdd, Int.reduceSub, Int.reduceMul, Int.reduceNeg, Int.reduceToNat, Int.reduceEq, h3], by simp only [go_sem, reduceCtorEq, reduceIte, Nat.reduceEqDiff, Nat.reduceAdd, Nat.reduceLeDiff, Nat.reduceMul, Int.reduceLT, Int.reduceLE, Int.reduceAdd, Int.reduceSub, Int.reduceMul, Int.reduceNeg, Int.reduceToNat, Int.reduceEq, h6], by simp only [go_sem, reduceCtorEq, reduceIte, Nat.reduceEqDiff, Nat.reduceAdd, Nat.reduceLeDiff, Nat.reduceMul, Int.reduceLT, Int.reduceLE, Int.reduceAdd, Int.reduceSub, Int.reduceMul, Int.reduceNeg, Int.reduceToNat, Int.reduceEq, h20], by simp only [go_sem, reduceCtorEq, reduceIte, Nat.reduceEqDiff, Nat.reduceAdd, Nat.reduceLeDiff, Nat.reduceMul, Int.reduceLT, Int.reduceLE, Int.reduceAdd, Int.reduceSub, Int.reduceMul, Int.reduceNeg, Int.reduceToNat, Int.reduceEq, h21], by simp only [go_sem, reduceCtorEq, reduceIte, Nat.reduceEqDiff, Nat.reduceAdd, Nat.reduceLeDiff, Nat.reduceMul, Int.reduceLT, Int.reduceLE, Int.reduceAdd, Int.reduceSub, Int.reduceMul, Int.reduceNeg, Int.reduceToNat, Int.reduceEq, h22], by simp only [go_sem, reduceCtorEq, reduceIte, Nat.reduceEqDiff, Nat.reduceAdd, Nat.reduceLeDiff, Nat.reduceMul, Int.reduceLT, Int.reduceLE, Int.reduceAdd, Int.reduceSub, Int.reduceMul, Int.reduceNeg, Int.reduceToNat, Int.reduceEq, h8], by simp only [go_sem, reduceCtorEq, reduceIte, Nat.reduceEqDiff, Nat.reduceAdd, Nat.reduceLeDiff, Nat.reduceMul, Int.reduceLT, Int.reduceLE, Int.reduceAdd, Int.reduceSub, Int.reduceMul, Int.reduceNeg, Int.reduceToNat, Int.reduceEq, h28], by simp only [go_sem, reduceCtorEq, reduceIte, Nat.reduceEqDiff, Nat.reduceAdd, Nat.reduceLeDiff, Nat.reduceMul, Int.reduceLT, Int.reduceLE, Int.reduceAdd, Int.reduceSub, Int.reduceMul, Int.reduceNeg, Int.reduceToNat, Int.reduceEq, h29], (.inr (.inl ⟨rfl, by simp only [go_sem, reduceCtorEq, reduceIte, Nat.reduceEqDiff, Nat.reduceAdd, Nat.reduceLeDiff, Nat.reduceMul, Int.reduceLT, Int.reduceLE, Int.reduceAdd, Int.reduceSub, Int.reduceMul, Int.reduceNeg, Int.reduceToNat, Int.reduceEq]⟩))⟩
      simp only [go_sem, reduceCtorEq, reduceIte, Nat.reduceEqDiff, Nat.reduceAdd, Nat.reduceLeDiff, Nat.reduceMul, Int.reduceLT, Int.reduceLE, Int.reduceAdd, Int.reduceSub, Int.reduceMul, Int.reduceNeg, Int.reduceToNat, Int.reduceEq, h2, h3, h6, h20, h21, h22, h8, h28, h29, h30, b2, b3, b6, b8, b28, q1, q2, q3, q4, q5, q6, q7, w1, u1, u2, u3, ux, u28]
      refine callK_same (k152 _ _ b (V.mk a.w false a.low a.high 0 0) hb hz) ?_
      cases i2 : b.inside (V.mk a.w false a.low a.high 0 0)
      · simp only [go_sem, reduceCtorEq, reduceIte, Nat.reduceEqDiff, Nat.reduceAdd, Nat.reduceLeDiff, Nat.reduceMul, Int.reduceLT, Int.reduceLE, Int.reduceAdd, Int.reduceSub, Int.reduceMul, Int.reduceNeg, Int.reduceToNat, Int.reduceEq, h2, h3, h6, h20, h21, h22, h8, h28, h29, h30, b2, b3, b6, b8, b28, q1, q2, q3, q4, q5, q6, q7, w1, u1, u2, u3, ux, u28]
        exact ⟨1, by omega, rfl, nn, by rw [Hp.upd_ne' q7.1, Hp.upd_ne' q5.1]; exact f20, by rw [Hp.upd_ne' u28.1, Hp.upd_ne' q6.1]; exact f28, by rw [Hp.upd_ne' ux.1, Hp.upd_ne' q4.1]; exact fx, ⟨_, _, (c.new hMy).new hMw⟩, by simp only [go_sem, reduceCtorEq, reduceIte, Nat.reduceEqDiff, Nat.reduceAdd, Nat.reduceLeDiff, Nat.reduceMul, Int.reduceLT, Int.reduceLE, Int.reduceAdd, Int.reduceSub, Int.reduceMul, Int.reduceNeg, Int.reduceToNat, Int.reduceEq, h2], by simp only [go_sem, reduceCtorEq, reduceIte, Nat.reduceEqDiff, Nat.reduceAdd, Nat.reduceLeDiff, Nat.reduceMul, Int.reduceLT, Int.reduceLE, Int.reduceAdd, Int.reduceSub, Int.reduceMul, Int.reduceNeg, Int.reduceToNat, Int.reduceEq, h3], by simp only [go_sem, reduceCtorEq, reduceIte, Nat.reduceEqDiff, Nat.reduceAdd, Nat.reduceLeDiff, Nat.reduceMul, Int.reduceLT, Int.reduceLE, Int.reduceAdd, Int.reduceSub, Int.reduceMul, Int.reduceNeg, Int.reduceToNat, Int.reduceEq, h6], by simp only [go_sem, reduceCtorEq, reduceIte, Nat.reduceEqDiff, Nat.reduceAdd, Nat.reduceLeDiff, Nat.reduceMul, Int.reduceLT, Int.reduceLE, Int.reduceAdd, Int.reduceSub, Int.reduceMul, Int.reduceNeg, Int.reduceToNat, Int.reduceEq, h20], by simp only [go_sem, reduceCtorEq, reduceIte, Nat.reduceEqDiff, Nat.reduceAdd, Nat.reduceLeDiff, Nat.reduceMul, Int.reduceLT, Int.reduceLE, Int.reduceAdd, Int.reduceSub, Int.reduceMul, Int.reduceNeg, Int.reduceToNat, Int.reduceEq, h21], by simp only [go_sem, reduceCtorEq, reduceIte, Nat.reduceEqDiff, Nat.reduceAdd, Nat.reduceLeDiff, Nat.reduceMul, Int.reduceLT, Int.reduceLE, Int.reduceAdd, Int.reduceSub, Int.reduceMul, Int.reduceNeg, Int.reduceToNat, Int.reduceEq, h22], by simp only [go_sem, reduceCtorEq, reduceIte, Nat.reduceEqDiff, Nat.reduceAdd, Nat.reduceLeDiff, Nat.reduceMul, Int.reduceLT, Int.reduceLE, Int.reduceAdd, Int.reduceSub, Int.reduceMul, Int.reduceNeg, Int.reduceToNat, Int.reduceEq, h8], by simp only [go_sem, reduceCtorEq, reduceIte, Nat.reduceEqDiff, Nat.reduceAdd, Nat.reduceLeDiff, Nat.reduceMul, Int.reduceLT, Int.reduceLE, Int.reduceAdd, Int.reduceSub, Int.reduceMul, Int.reduceNeg, Int.reduceToNat, Int.reduceEq, h28], by simp only [go_sem, reduceCtorEq, reduceIte, Nat.reduceEqDiff, Nat.reduceAdd, Nat.reduceLeDiff, Nat.reduceMul, Int.reduceLT, Int.reduceLE, Int.reduceAdd, Int.reduceSub, Int.reduceMul, Int.reduceNeg, Int.reduceToNat, Int.reduceEq, h29], (.inr (.inl ⟨rfl, by simp only [go_sem, reduceCtorEq, reduceIte, Nat.reduceEqDiff, Nat.reduceAdd, Nat.reduceLeDiff, Nat.reduceMul, Int.reduceLT, Int.reduceLE, Int.reduceAdd, Int.reduceSub, Int.reduceMul, Int.reduceNeg, Int.reduceToNat, Int.reduceEq]⟩))⟩
      simp only [go_sem, reduceCtorEq, reduceIte, Nat.reduceEqDiff, Nat.reduceAdd, Nat.reduceLeDiff, Nat.reduceMul, Int.reduceLT, Int.reduceLE, Int.reduceAdd, Int.reduceSub, Int.reduceMul, Int.reduceNeg, Int.reduceToNat, Int.reduceEq, h2, h3, h6, h20, h21, h22, h8, h28, h29, h30, b2, b3, b6, b8, b28, q1, q2, q3, q4, q5, q6, q7, w1, u1, u2, u3, ux, u28]
      refine callK_same (k160 _ _ _ hz) ?_
      simp only [go_sem, reduceCtorEq, reduceIte, Nat.reduceEqDiff, Nat.reduceAdd, Nat.reduceLeDiff, Nat.reduceMul, Int.reduceLT, Int.reduceLE, Int.reduceAdd, Int.reduceSub, Int.reduceMul, Int.reduceNeg, Int.reduceToNat, Int.reduceEq, h2, h3, h6, h20, h21, h22, h8, h28, h29, h30, b2, b3, b6, b8, b28, q1, q2, q3, q4, q5, q6, q7, w1, u1, u2, u3, ux, u28]
      refine callK_same (k160 _ _ _ c.cov.1) ?_
      by_cases hlt : (V.mk a.w false a.low a.high 0 0).len < (V.mk a.w false l h 0 0).len
      · simp only [go_sem, reduceCtorEq, reduceIte, Nat.reduceEqDiff, Nat.reduceAdd, Nat.reduceLeDiff, Nat.reduceMul, Int.reduceLT, Int.reduceLE, Int.reduceAdd, Int.reduceSub, Int.reduceMul, Int.reduceNeg, Int.reduceToNat, Int.reduceEq, h2, h3, h6, h20, h21, h22, h8, h28, h29, h30, b2, b3, b6, b8, b28, q1, q2, q3, q4, q5, q6, q7, w1, u1, u2, u3, ux, u28, hlt, c.fz]
        exact ⟨1, by omega, rfl, nn, by rw [Hp.upd_ne' q7.1, Hp.upd_ne' q5.1, setH, Hp.upd_ne' nn.1]; exact f20, by rw [Hp.upd_ne' u28.1, Hp.upd_ne' q6.1, setH, Hp.upd_ne' nn.2.1]; exact f28, by rw [Hp.upd_ne' ux.1, Hp.upd_ne' q4.1, setH, Hp.upd_ne' nn.2.2]; exact fx, ⟨_, _, ((c.set ⟨hz, i1, i2⟩).new (by rw [upd_none]; exact ⟨q3.2, hMy⟩)).new (by rw [upd_none, upd_none]; exact ⟨w1.1, u3.2, w1.2.2⟩)⟩, by simp only [go_sem, reduceCtorEq, reduceIte, Nat.reduceEqDiff, Nat.reduceAdd, Nat.reduceLeDiff, Nat.reduceMul, Int.reduceLT, Int.reduceLE, Int.reduceAdd, Int.reduceSub, Int.reduceMul, Int.reduceNeg, Int.reduceToNat, Int.reduceEq, h2], by simp only [go_sem, reduceCtorEq, reduceIte, Nat.reduceEqDiff, Nat.reduceAdd, Nat.reduceLeDiff, Nat.reduceMul, Int.reduceLT, Int.reduceLE, Int.reduceAdd, Int.reduceSub, Int.reduceMul, Int.reduceNeg, Int.reduceToNat, Int.reduceEq, h3], by simp only [go_sem, reduceCtorEq, reduceIte, Nat.reduceEqDiff, Nat.reduceAdd, Nat.reduceLeDiff, Nat.reduceMul, Int.reduceLT, Int.reduceLE, Int.reduceAdd, Int.reduceSub, Int.reduceMul, Int.reduceNeg, Int.reduceToNat, Int.reduceEq, h6], by simp only [go_sem, reduceCtorEq, reduceIte, Nat.reduceEqDiff, Nat.reduceAdd, Nat.reduceLeDiff, Nat.reduceMul, Int.reduceLT, Int.reduceLE, Int.reduceAdd, Int.reduceSub, Int.reduceMul, Int.reduceNeg, Int.reduceToNat, Int.reduceEq, h20], by simp only [go_sem, reduceCtorEq, reduceIte, Nat.reduceEqDiff, Nat.reduceAdd, Nat.reduceLeDiff, Nat.reduceMul, Int.reduceLT, Int.reduceLE, Int.reduceAdd, Int.reduceSub, Int.reduceMul, Int.reduceNeg, Int.reduceToNat, Int.reduceEq, h21], by simp only [go_sem, reduceCtorEq, reduceIte, Nat.reduceEqDiff, Nat.reduceAdd, Nat.reduceLeDiff, Nat.reduceMul, Int.reduceLT, Int.reduceLE, Int.reduceAdd, Int.reduceSub, Int.reduceMul, Int.reduceNeg, Int.reduceToNat, Int.reduceEq, h22], by simp only [go_sem, reduceCtorEq, reduceIte, Nat.reduceEqDiff, Nat.reduceAdd, Nat.reduceLeDiff, Nat.reduceMul, Int.reduceLT, Int.reduceLE, Int.reduceAdd, Int.reduceSub, Int.reduceMul, Int.reduceNeg, Int.reduceToNat, Int.reduceEq, h8], by simp only [go_sem, reduceCtorEq, reduceIte, Nat.reduceEqDiff, Nat.reduceAdd, Nat.reduceLeDiff, Nat.reduceMul, Int.reduceLT, Int.reduceLE, Int.reduceAdd, Int.reduceSub, Int.reduceMul, Int.reduceNeg, Int.reduceToNat, Int.reduceEq, h28], by simp only [go_sem, reduceCtorEq, reduceIte, Nat.reduceEqDiff, Nat.reduceAdd, Nat.reduceLeDiff, Nat.reduceMul, Int.reduceLT, Int.reduceLE, Int.reduceAdd, Int.reduceSub, Int.reduceMul, Int.reduceNeg, Int.reduceToNat, Int.reduceEq, h29], (.inr (.inl ⟨rfl, by simp only [go_sem, reduceCtorEq, reduceIte, Nat.reduceEqDiff, Nat.reduceAdd, Nat.reduceLeDiff, Nat.reduceMul, Int.reduceLT, Int.reduceLE, Int.reduceAdd, Int.reduceSub, Int.reduceMul, Int.reduceNeg, Int.reduceToNat, Int.reduceEq]⟩))⟩
      · simp only [go_sem, reduceCtorEq, reduceIte, Nat.reduceEqDiff, Nat.reduceAdd, Nat.reduceLeDiff, Nat.reduceMul, Int.reduceLT, Int.reduceLE, Int.reduceAdd, Int.reduceSub, Int.reduceMul, Int.reduceNeg, Int.reduceToNat, Int.reduceEq, h2, h3, h6, h20, h21, h22, h8, h28, h29, h30, b2, b3, b6, b8, b28, q1, q2, q3, q4, q5, q6, q7, w1, u1, u2, u3, ux, u28, hlt]
        exact ⟨1, by omega, rfl, nn, by rw [Hp.upd_ne' q7.1, Hp.upd_ne' q5.1]; exact f20, by rw [Hp.upd_ne' u28.1, Hp.upd_ne' q6.1]; exact f28, by rw [Hp.upd_ne' ux.1, Hp.upd_ne' q4.1]; exact fx, ⟨_, _, (c.new hMy).new hMw⟩, by simp only [go_sem, reduceCtorEq, reduceIte, Nat.reduceEqDiff, Nat.reduceAdd, Nat.reduceLeDiff, Nat.reduceMul, Int.reduceLT, Int.reduceLE, Int.reduceAdd, Int.reduceSub, Int.reduceMul, Int.reduceNeg, Int.reduceToNat, Int.reduceEq, h2], by simp only [go_sem, reduceCtorEq, reduceIte, Nat.reduceEqDiff, Nat.reduceAdd, Nat.reduceLeDiff, Nat.reduceMul, Int.reduceLT, Int.reduceLE, Int.reduceAdd, Int.reduceSub, Int.reduceMul, Int.reduceNeg, Int.reduceToNat, Int.reduceEq, h3], by simp only [go_sem, reduceCtorEq, reduceIte, Nat.reduceEqDiff, Nat.reduceAdd, Nat.reduceLeDiff, Nat.reduceMul, Int.reduceLT, Int.reduceLE, Int.reduceAdd, Int.reduceSub, Int.reduceMul, Int.reduceNeg, Int.reduceToNat, Int.reduceEq, h6], by simp only [go_sem, reduceCtorEq, reduceIte, Nat.reduceEqDiff, Nat.reduceAdd, Nat.reduceLeDiff, Nat.reduceMul, Int.reduceLT, Int.reduceLE, Int.reduceAdd, Int.reduceSub, Int.reduceMul, Int.reduceNeg, Int.reduceToNat, Int.reduceEq, h20], by simp only [go_sem, reduceCtorEq, reduceIte, Nat.reduceEqDiff, Nat.reduceAdd, Nat.reduceLeDiff, Nat.reduceMul, Int.reduceLT, Int.reduceLE, Int.reduceAdd, Int.reduceSub, Int.reduceMul, Int.reduceNeg, Int.reduceToNat, Int.reduceEq, h21], by simp only [go_sem, reduceCtorEq, reduceIte, Nat.reduceEqDiff, Nat.reduceAdd, Nat.reduceLeDiff, Nat.reduceMul, Int.reduceLT, Int.reduceLE, Int.reduceAdd, Int.reduceSub, Int.reduceMul, Int.reduceNeg, Int.reduceToNat, Int.reduceEq, h22], by simp only [go_sem, reduceCtorEq, reduceIte, Nat.reduceEqDiff, Nat.reduceAdd, Nat.reduceLeDiff, Nat.reduceMul, Int.reduceLT, Int.reduceLE, Int.reduceAdd, Int.reduceSub, Int.reduceMul, Int.reduceNeg, Int.reduceToNat, Int.reduceEq, h8], by simp only [go_sem, reduceCtorEq, reduceIte, Nat.reduceEqDiff, Nat.reduceAdd, Nat.reduceLeDiff, Nat.reduceMul, Int.reduceLT, Int.reduceLE, Int.reduceAdd, Int.reduceSub, Int.reduceMul, Int.reduceNeg, Int.reduceToNat, Int.reduceEq, h28], by simp only [go_sem, reduceCtorEq, reduceIte, Nat.reduceEqDiff, Nat.reduceAdd, Nat.reduceLeDiff, Nat.reduceMul, Int.reduceLT, Int.reduceLE, Int.reduceAdd, Int.reduceSub, Int.reduceMul, Int.reduceNeg, Int.reduceToNat, Int.reduceEq, h29], (.inr (.inl ⟨rfl, by simp only [go_sem, reduceCtorEq, reduceIte, Nat.reduceEqDiff, Nat.reduceAdd, Nat.reduceLeDiff, Nat.reduceMul, Int.reduceLT, Int.reduceLE, Int.reduceAdd, Int.reduceSub, Int.reduceMul, Int.reduceNeg, Int.reduceToNat, Int.reduceEq]⟩))⟩
    · simp only [go_sem, reduceCtorEq, reduceIte, Nat.reduceEqDiff, Nat.reduceAdd, Nat.reduceLeDiff, Nat.reduceMul, Int.reduceLT, Int.reduceLE, Int.reduceAdd, Int.reduceSub, Int.reduceMul, Int.reduceNeg, Int.reduceToNat, Int.reduceEq, h2, h3, h6, h20, h21, h22, h8, h28, h29, h30, b2, b3, b6, b8, b28]
      intro ry hFy hMy
      have q1 := ne_of_none hMy c.fa
      have q2 := ne_of_none hMy c.fb
      have q3 := ne_of_none hMy c.fz
      have q4 := ne_of_none hMy fx
      have q5 := ne_of_none hMy f20
      have q6 := ne_of_none hMy f28
      simp only [go_sem, reduceCtorEq, reduceIte, Nat.reduceEqDiff, Nat.reduceAdd, Nat.reduceLeDiff, Nat.reduceMul, Int.reduceLT, Int.reduceLE, Int.reduceAdd, Int.reduceSub, Int.reduceMul, Int.reduceNeg, Int.reduceToNat, Int.reduceEq, h2, h3, h6, h20, h21, h22, h8, h28, h29, h30, b2, b3, b6, b8, b28, q1, q2, q3, q4, q5, q6]
      intro rw' hFw hMw
      have w1 := fresh_of hMw
      have u1 := ne_of_none w1.2.2 c.fa
      have u2 := ne_of_none w1.2.2 c.fb
      have u3 := ne_of_none w1.2.2 c.fz
      have ux := ne_of_none w1.2.2 fx
      have q7 := ne_of_none w1.2.2 f20
      have u28 := ne_of_none w1.2.2 f28
      have hz : (V.mk a.w false a.low b.high 0 0).In := span_in ha hx hb hxw hw
      simp only [go_sem, reduceCtorEq, reduceIte, Nat.reduceEqDiff, Nat.reduceAdd, Nat.reduceLeDiff, Nat.reduceMul, Int.reduceLT, Int.reduceLE, Int.reduceAdd, Int.reduceSub, Int.reduceMul, Int.reduceNeg, Int.reduceToNat, Int.reduceEq, h2, h3, h6, h20, h21, h22, h8, h28, h29, h30, b2, b3, b6, b8, b28, q1, q2, q3, q4, q5, q6, q7, w1, u1, u2, u3, ux, u28]
      refine callK_same (k152 _ _ a (V.mk a.w false a.low b.high 0 0) ha hz) ?_
      cases i1 : a.inside (V.mk a.w false a.low b.high 0 0)
      · simp only [go_sem, reduceCtorEq, reduceIte, Nat.reduceEqDiff, Nat.reduceAdd, Nat.reduceLeDiff, Nat.reduceMul, Int.reduceLT, Int.reduceLE, Int.reduceAdd, Int.reduceSub, Int.reduceMul, Int.reduceNeg, Int.reduceToNat, Int.reduceEq, h2, h3, h6, h20, h21, h22, h8, h28, h29, h30, b2, b3, b6, b8, b28, q1, q2, q3, q4, q5, q6, q7, w1, u1, u2, u3, ux, u28]
        exact ⟨0, by omega, rfl, nn, by rw [Hp.upd_ne' q7.1, Hp.upd_ne' q5.1]; exact f20, by rw [Hp.upd_ne' u28.1, Hp.upd_ne' q6.1]; exact f28, by rw [Hp.upd_ne' ux.1, Hp.upd_ne' q4.1]; exact fx, ⟨_, _, (c.new hMy).new hMw⟩, by simp only [go_sem, reduceCtorEq, reduceIte, Nat.reduceEqDiff, Nat.reduceAdd, Nat.reduceLeDiff, Nat.reduceMul, Int.reduceLT, Int.reduceLE, Int.reduceAdd, Int.reduceSub, Int.reduceMul, Int.reduceNeg, Int.reduceToNat, Int.reduceEq, h2], by simp only [go_sem, reduceCtorEq, reduceIte, Nat.reduceEqDiff, Nat.reduceAdd, Nat.reduceLeDiff, Nat.reduceMul, Int.reduceLT, Int.reduceLE, Int.reduceAdd, Int.reduceSub, Int.reduceMul, Int.reduceNeg, Int.reduceToNat, Int.reduceEq, h3], by simp only [go_sem, reduceCtorEq, reduceIte, Nat.reduceEqDiff, Nat.reduceAdd, Nat.reduceLeDiff, Nat.reduceMul, Int.reduceLT, Int.reduceLE, Int.reduceAdd, Int.reduceSub, Int.reduceMul, Int.reduceNeg, Int.reduceToNat, Int.reduceEq, h6], by simp only [go_sem, reduceCtorEq, reduceIte, Nat.reduceEqDiff, Nat.reduceAdd, Nat.reduceLeDiff, Nat.reduceMul, Int.reduceLT, Int.reduceLE, Int.reduceAdd, Int.reduceSub, Int.reduceMul, Int.reduceNeg, Int.reduceToNat, Int.reduceEq, h20], by simp only [go_sem, reduceCtorEq, reduceIte, Nat.reduceEqDiff, Nat.reduceAdd, Nat.reduceLeDiff, Nat.reduceMul, Int.reduceLT, Int.reduceLE, Int.reduceAdd, Int.reduceSub, Int.reduceMul, Int.reduceNeg, Int.reduceToNat, Int.reduceEq, h21], by simp only [go_sem, reduceCtorEq, reduceIte, Nat.reduceEqDiff, Nat.reduceAdd, Nat.reduceLeDiff, Nat.reduceMul, Int.reduceLT, Int.reduceLE, Int.reduceAdd, Int.reduceSub, Int.reduceMul, Int.reduceNeg, Int.reduceToNat, Int.reduceEq, h22], by simp only [go_sem, reduceCtorEq, reduceIte, Nat.reduceEqDiff, Nat.reduceAdd, Nat.reduceLeDiff, Nat.reduceMul, Int.reduceLT, Int.reduceLE, Int.reduceAdd, Int.reduceSub, Int.reduceMul, Int.reduceNeg, Int.reduceToNat, Int.reduceEq, h8], by simp only [go_sem, reduceCtorEq, reduceIte, Nat.reduceEqDiff, Nat.reduceAdd, Nat.reduceLeDiff, Nat.reduceMul, Int.reduceLT, Int.reduceLE, Int.reduceAdd, Int.reduceSub, Int.reduceMul, Int.reduceNeg, Int.reduceToNat, Int.reduceEq, h28], by simp only [go_sem, reduceCtorEq, reduceIte, Nat.reduceEqDiff, Nat.reduceAdd, Nat.reduceLeDiff, Nat.reduceMul, Int.reduceLT, Int.reduceLE, Int.reduceAdd, Int.reduceSub, Int.reduceMul, Int.reduceNeg, Int.reduceToNat, Int.reduceEq, h29], (.inr (.inr ⟨rfl, by simp only [go_sem, reduceCtorEq, reduceIte, Nat.reduceEqDiff, Nat.reduceAdd, Nat.reduceLeDiff, Nat.reduceMul, Int.reduceLT, Int.reduceLE, Int.reduceAdd, Int.reduceSub, Int.reduceMul, Int.reduceNeg, Int.reduceToNat, Int.reduceEq]⟩))⟩
      simp only [go_sem, reduceCtorEq, reduceIte, Nat.reduceEqDiff, Nat.reduceAdd, Nat.reduceLeDiff, Nat.reduceMul, Int.reduceLT, Int.reduceLE, Int.reduceAdd, Int.reduceSub, Int.reduceMul, Int.reduceNeg, Int.reduceToNat, Int.reduceEq, h2, h3, h6, h20, h21, h22, h8, h28, h29, h30, b2, b3, b6, b8, b28, q1, q2, q3, q4, q5, q6, q7, w1, u1, u2, u3, ux, u28]
      refine callK_same (k152 _ _ b (V.mk a.w false a.low b.high 0 0) hb hz) ?_
      cases i2 : b.inside (V.mk a.w false a.low b.high 0 0)
      · simp only [go_sem, reduceCtorEq, reduceIte, Nat.reduceEqDiff, Nat.reduceAdd, Nat.reduceLeDiff, Nat.reduceMul, Int.reduceLT, Int.reduceLE, Int.reduceAdd, Int.reduceSub, Int.reduceMul, Int.reduceNeg, Int.reduceToNat, Int.reduceEq, h2, h3, h6, h20, h21, h22, h8, h28, h29, h30, b2, b3, b6, b8, b28, q1, q2, q3, q4, q5, q6, q7, w1, u1, u2, u3, ux, u28]
        exact ⟨0, by omega, rfl, nn, by rw [Hp.upd_ne' q7.1, Hp.upd_ne' q5.1]; exact f20, by rw [Hp.upd_ne' u28.1, Hp.upd_ne' q6.1]; exact f28, by rw [Hp.upd_ne' ux.1, Hp.upd_ne' q4.1]; exact fx, ⟨_, _, (c.new hMy).new hMw⟩, by simp only [go_sem, reduceCtorEq, reduceIte, Nat.reduceEqDiff, Nat.reduceAdd, Nat.reduceLeDiff, Nat.reduceMul, Int.reduceLT, Int.reduceLE, Int.reduceAdd, Int.reduceSub, Int.reduceMul, Int.reduceNeg, Int.reduceToNat, Int.reduceEq, h2], by simp only [go_sem, reduceCtorEq, reduceIte, Nat.reduceEqDiff, Nat.reduceAdd, Nat.reduceLeDiff, Nat.reduceMul, Int.reduceLT, Int.reduceLE, Int.reduceAdd, Int.reduceSub, Int.reduceMul, Int.reduceNeg, Int.reduceToNat, Int.reduceEq, h3], by simp only [go_sem, reduceCtorEq, reduceIte, Nat.reduceEqDiff, Nat.reduceAdd, Nat.reduceLeDiff, Nat.reduceMul, Int.reduceLT, Int.reduceLE, Int.reduceAdd, Int.reduceSub, Int.reduceMul, Int.reduceNeg, Int.reduceToNat, Int.reduceEq, h6], by simp only [go_sem, reduceCtorEq, reduceIte, Nat.reduceEqDiff, Nat.reduceAdd, Nat.reduceLeDiff, Nat.reduceMul, Int.reduceLT, Int.reduceLE, Int.reduceAdd, Int.reduceSub, Int.reduceMul, Int.reduceNeg, Int.reduceToNat, Int.reduceEq, h20], by simp only [go_sem, reduceCtorEq, reduceIte, Nat.reduceEqDiff, Nat.reduceAdd, Nat.reduceLeDiff, Nat.reduceMul, Int.reduceLT, Int.reduceLE, Int.reduceAdd, Int.reduceSub, Int.reduceMul, Int.reduceNeg, Int.reduceToNat, Int.reduceEq, h21], by simp only [go_sem, reduceCtorEq, reduceIte, Nat.reduceEqDiff, Nat.reduceAdd, Nat.reduceLeDiff, Nat.reduceMul, Int.reduceLT, Int.reduceLE, Int.reduceAdd, Int.reduceSub, Int.reduceMul, Int.reduceNeg, Int.reduceToNat, Int.reduceEq, h22], by simp only [go_sem, reduceCtorEq, reduceIte, Nat.reduceEqDiff, Nat.reduceAdd, Nat.reduceLeDiff, Nat.reduceMul, Int.reduceLT, Int.reduceLE, Int.reduceAdd, Int.reduceSub, Int.reduceMul, Int.reduceNeg, Int.reduceToNat, Int.reduceEq, h8], by simp only [go_sem, reduceCtorEq, reduceIte, Nat.reduceEqDiff, Nat.reduceAdd, Nat.reduceLeDiff, Nat.reduceMul, Int.reduceLT, Int.reduceLE, Int.reduceAdd, Int.reduceSub, Int.reduceMul, Int.reduceNeg, Int.reduceToNat, Int.reduceEq, h28], by simp only [go_sem, reduceCtorEq, reduceIte, Nat.reduceEqDiff, Nat.reduceAdd, Nat.reduceLeDiff, Nat.reduceMul, Int.reduceLT, Int.reduceLE, Int.reduceAdd, Int.reduceSub, Int.reduceMul, Int.reduceNeg, Int.reduceToNat, Int.reduceEq, h29], (.inr (.inr ⟨rfl, by simp only [go_sem, reduceCtorEq, reduceIte, Nat.reduceEqDiff, Nat.reduceAdd, Nat.reduceLeDiff, Nat.reduceMul, Int.reduceLT, Int.reduceLE, Int.reduceAdd, Int.reduceSub, Int.reduceMul, Int.reduceNeg, Int.reduceToNat, Int.reduceEq]⟩))⟩
      simp only [go_sem, reduceCtorEq, reduceIte, Nat.reduceEqDiff, Nat.reduceAdd, Nat.reduceLeDiff, Nat.reduceMul, Int.reduceLT, Int.reduceLE, Int.reduceAdd, Int.reduceSub, Int.reduceMul, Int.reduceNeg, Int.reduceToNat, Int.reduceEq, h2, h3, h6, h20, h21, h22, h8, h28, h29, h30, b2, b3, b6, b8, b28, q1, q2, q3, q4, q5, q6, q7, w1, u1, u2, u3, ux, u28]
      refine callK_same (k160 _ _ _ hz) ?_
      simp only [go_sem, reduceCtorEq, reduceIte, Nat.reduceEqDiff, Nat.reduceAdd, Nat.reduceLeDiff, Nat.reduceMul, Int.reduceLT, Int.reduceLE, Int.reduceAdd, Int.reduceSub, Int.reduceMul, Int.reduceNeg, Int.reduceToNat, Int.reduceEq, h2, h3, h6, h20, h21, h22, h8, h28, h29, h30, b2, b3, b6, b8, b28, q1, q2, q3, q4, q5, q6, q7, w1, u1, u2, u3, ux, u28]
      refine callK_same (k160 _ _ _ c.cov.1) ?_
      by_cases hlt : (V.mk a.w false a.low b.high 0 0).len < (V.mk a.w false l h 0 0).len
      · simp only [go_sem, reduceCtorEq, reduceIte, Nat.reduceEqDiff, Nat.reduceAdd, Nat.reduceLeDiff, Nat.reduceMul, Int.reduceLT, Int.reduceLE, Int.reduceAdd, Int.reduceSub, Int.reduceMul, Int.reduceNeg, Int.reduceToNat, Int.reduceEq, h2, h3, h6, h20, h21, h22, h8, h28, h29, h30, b2, b3, b6, b8, b28, q1, q2, q3, q4, q5, q6, q7, w1, u1, u2, u3, ux, u28, hlt, c.fz]
        exact ⟨0, by omega, rfl, nn, by rw [Hp.upd_ne' q7.1, Hp.upd_ne' q5.1, setH, Hp.upd_ne' nn.1]; exact f20, by rw [Hp.upd_ne' u28.1, Hp.upd_ne' q6.1, setH, Hp.upd_ne' nn.2.1]; exact f28, by rw [Hp.upd_ne' ux.1, Hp.upd_ne' q4.1, setH, Hp.upd_ne' nn.2.2]; exact fx, ⟨_, _, ((c.set ⟨hz, i1, i2⟩).new (by rw [upd_none]; exact ⟨q3.2, hMy⟩)).new (by rw [upd_none, upd_none]; exact ⟨w1.1, u3.2, w1.2.2⟩)⟩, by simp only [go_sem, reduceCtorEq, reduceIte, Nat.reduceEqDiff, Nat.reduceAdd, Nat.reduceLeDiff, Nat.reduceMul, Int.reduceLT, Int.reduceLE, Int.reduceAdd, Int.reduceSub, Int.reduceMul, Int.reduceNeg, Int.reduceToNat, Int.reduceEq, h2], by simp only [go_sem, reduceCtorEq, reduceIte, Nat.reduceEqDiff, Nat.reduceAdd, Nat.reduceLeDiff, Nat.reduceMul, Int.reduceLT, Int.reduceLE, Int.reduceAdd, Int.reduceSub, Int.reduceMul, Int.reduceNeg, Int.reduceToNat, Int.reduceEq, h3], by simp only [go_sem, reduceCtorEq, reduceIte, Nat.reduceEqDiff, Nat.reduceAdd, Nat.reduceLeDiff, Nat.reduceMul, Int.reduceLT, Int.reduceLE, Int.reduceAdd, Int.reduceSub, Int.reduceMul, Int.reduceNeg, Int.reduceToNat, Int.reduceEq, h6], by simp only [go_sem, reduceCtorEq, reduceIte, Nat.reduceEqDiff, Nat.reduceAdd, Nat.reduceLeDiff, Nat.reduceMul, Int.reduceLT, Int.reduceLE, Int.reduceAdd, Int.reduceSub, Int.reduceMul, Int.reduceNeg, Int.reduceToNat, Int.reduceEq, h20], by simp only [go_sem, reduceCtorEq, reduceIte, Nat.reduceEqDiff, Nat.reduceAdd, Nat.reduceLeDiff, Nat.reduceMul, Int.reduceLT, Int.reduceLE, Int.reduceAdd, Int.reduceSub, Int.reduceMul, Int.reduceNeg, Int.reduceToNat, Int.reduceEq, h21], by simp only [go_sem, reduceCtorEq, reduceIte, Nat.reduceEqDiff, Nat.reduceAdd, Nat.reduceLeDiff, Nat.reduceMul, Int.reduceLT, Int.reduceLE, Int.reduceAdd, Int.reduceSub, Int.reduceMul, Int.reduceNeg, Int.reduceToNat, Int.reduceEq, h22], by simp only [go_sem, reduceCtorEq, reduceIte, Nat.reduceEqDiff, Nat.reduceAdd, Nat.reduceLeDiff, Nat.reduceMul, Int.reduceLT, Int.reduceLE, Int.reduceAdd, Int.reduceSub, Int.reduceMul, Int.reduceNeg, Int.reduceToNat, Int.reduceEq, h8], by simp only [go_sem, reduceCtorEq, reduceIte, Nat.reduceEqDiff, Nat.reduceAdd, Nat.reduceLeDiff, Nat.reduceMul, Int.reduceLT, Int.reduceLE, Int.reduceAdd, Int.reduceSub, Int.reduceMul, Int.reduceNeg, Int.reduceToNat, Int.reduceEq, h28], by simp only [go_sem, reduceCtorEq, reduceIte, Nat.reduceEqDiff, Nat.reduceAdd, Nat.reduceLeDiff, Nat.reduceMul, Int.reduceLT, Int.reduceLE, Int.reduceAdd, Int.reduceSub, Int.reduceMul, Int.reduceNeg, Int.reduceToNat, Int.reduceEq, h29], (.inr (.inr ⟨rfl, by simp only [go_sem, reduceCtorEq, reduceIte, Nat.reduceEqDiff, Nat.reduceAdd, Nat.reduceLeDiff, Nat.reduceMul, Int.reduceLT, Int.reduceLE, Int.reduceAdd, Int.reduceSub, Int.reduceMul, Int.reduceNeg, Int.reduceToNat, Int.reduceEq]⟩))⟩
      · simp only [go_sem, reduceCtorEq, reduceIte, Nat.reduceEqDiff, Nat.reduceAdd, Nat.reduceLeDiff, Nat.reduceMul, Int.reduceLT, Int.reduceLE, Int.reduceAdd, Int.reduceSub, Int.reduceMul, Int.reduceNeg, Int.reduceToNat, Int.reduceEq, h2, h3, h6, h20, h21, h22, h8, h28, h29, h30, b2, b3, b6, b8, b28, q1, q2, q3, q4, q5, q6, q7, w1, u1, u2, u3, ux, u28, hlt]
        exact ⟨0, by omega, rfl, nn, by rw [Hp.upd_ne' q7.1, Hp.upd_ne' q5.1]; exact f20, by rw [Hp.upd_ne' u28.1, Hp.upd_ne' q6.1]; exact f28, by rw [Hp.upd_ne' ux.1, Hp.upd_ne' q4.1]; exact fx, ⟨_, _, (c.new hMy).new hMw⟩, by simp only [go_sem, reduceCtorEq, reduceIte, Nat.reduceEqDiff, Nat.reduceAdd, Nat.reduceLeDiff, Nat.reduceMul, Int.reduceLT, Int.reduceLE, Int.reduceAdd, Int.reduceSub, Int.reduceMul, Int.reduceNeg, Int.reduceToNat, Int.reduceEq, h2], by simp only [go_sem, reduceCtorEq, reduceIte, Nat.reduceEqDiff, Nat.reduceAdd, Nat.reduceLeDiff, Nat.reduceMul, Int.reduceLT, Int.reduceLE, Int.reduceAdd, Int.reduceSub, Int.reduceMul, Int.reduceNeg, Int.reduceToNat, Int.reduceEq, h3], by simp only [go_sem, reduceCtorEq, reduceIte, Nat.reduceEqDiff, Nat.reduceAdd, Nat.reduceLeDiff, Nat.reduceMul, Int.reduceLT, Int.reduceLE, Int.reduceAdd, Int.reduceSub, Int.reduceMul, Int.reduceNeg, Int.reduceToNat, Int.reduceEq, h6], by simp only [go_sem, reduceCtorEq, reduceIte, Nat.reduceEqDiff, Nat.reduceAdd, Nat.reduceLeDiff, Nat.reduceMul, Int.reduceLT, Int.reduceLE, Int.reduceAdd, Int.reduceSub, Int.reduceMul, Int.reduceNeg, Int.reduceToNat, Int.reduceEq, h20], by simp only [go_sem, reduceCtorEq, reduceIte, Nat.reduceEqDiff, Nat.reduceAdd, Nat.reduceLeDiff, Nat.reduceMul, Int.reduceLT, Int.reduceLE, Int.reduceAdd, Int.reduceSub, Int.reduceMul, Int.reduceNeg, Int.reduceToNat, Int.reduceEq, h21], by simp only [go_sem, reduceCtorEq, reduceIte, Nat.reduceEqDiff, Nat.reduceAdd, Nat.reduceLeDiff, Nat.reduceMul, Int.reduceLT, Int.reduceLE, Int.reduceAdd, Int.reduceSub, Int.reduceMul, Int.reduceNeg, Int.reduceToNat, Int.reduceEq, h22], by simp only [go_sem, reduceCtorEq, reduceIte, Nat.reduceEqDiff, Nat.reduceAdd, Nat.reduceLeDiff, Nat.reduceMul, Int.reduceLT, Int.reduceLE, Int.reduceAdd, Int.reduceSub, Int.reduceMul, Int.reduceNeg, Int.reduceToNat, Int.reduceEq, h8], by simp only [go_sem, reduceCtorEq, reduceIte, Nat.reduceEqDiff, Nat.reduceAdd, Nat.reduceLeDiff, Nat.reduceMul, Int.reduceLT, Int.reduceLE, Int.reduceAdd, Int.reduceSub, Int.reduceMul, Int.reduceNeg, Int.reduceToNat, Int.reduceEq, h28], by simp only [go_sem, reduceCtorEq, reduceIte, Nat.reduceEqDiff, Nat.reduceAdd, Nat.reduceLeDiff, Nat.reduceMul, Int.reduceLT, Int.reduceLE, Int.reduceAdd, Int.reduceSub, Int.reduceMul, Int.reduceNeg, Int.reduceToNat, Int.reduceEq, h29], (.inr (.inr ⟨rfl, by simp only [go_sem, reduceCtorEq, reduceIte, Nat.reduceEqDiff, Nat.reduceAdd, Nat.reduceLeDiff, Nat.reduceMul, Int.reduceLT, Int.reduceLE, Int.reduceAdd, Int.reduceSub, Int.reduceMul, Int.reduceNeg, Int.reduceToNat, Int.reduceEq]⟩))⟩
    · simp only [go_sem, reduceCtorEq, reduceIte, Nat.reduceEqDiff, Nat.reduceAdd, Nat.reduceLeDiff, Nat.reduceMul, Int.reduceLT, Int.reduceLE, Int.reduceAdd, Int.reduceSub, Int.reduceMul, Int.reduceNeg, Int.reduceToNat, Int.reduceEq, h2, h3, h6, h20, h21, h22, h8, h28, h29, h30]
      exact ⟨1, by omega, rfl, nn.1, f20, ⟨_, _, c⟩, by simp only [go_sem, reduceCtorEq, reduceIte, Nat.reduceEqDiff, Nat.reduceAdd, Nat.reduceLeDiff, Nat.reduceMul, Int.reduceLT, Int.reduceLE, Int.reduceAdd, Int.reduceSub, Int.reduceMul, Int.reduceNeg, Int.reduceToNat, Int.reduceEq, h2], by simp only [go_sem, reduceCtorEq, reduceIte, Nat.reduceEqDiff, Nat.reduceAdd, Nat.reduceLeDiff, Nat.reduceMul, Int.reduceLT, Int.reduceLE, Int.reduceAdd, Int.reduceSub, Int.reduceMul, Int.reduceNeg, Int.reduceToNat, Int.reduceEq, h3], by simp only [go_sem, reduceCtorEq, reduceIte, Nat.reduceEqDiff, Nat.reduceAdd, Nat.reduceLeDiff, Nat.reduceMul, Int.reduceLT, Int.reduceLE, Int.reduceAdd, Int.reduceSub, Int.reduceMul, Int.reduceNeg, Int.reduceToNat, Int.reduceEq, h6], by simp only [go_sem, reduceCtorEq, reduceIte, Nat.reduceEqDiff, Nat.reduceAdd, Nat.reduceLeDiff, Nat.reduceMul, Int.reduceLT, Int.reduceLE, Int.reduceAdd, Int.reduceSub, Int.reduceMul, Int.reduceNeg, Int.reduceToNat, Int.reduceEq, h20], by simp only [go_sem, reduceCtorEq, reduceIte, Nat.reduceEqDiff, Nat.reduceAdd, Nat.reduceLeDiff, Nat.reduceMul, Int.reduceLT, Int.reduceLE, Int.reduceAdd, Int.reduceSub, Int.reduceMul, Int.reduceNeg, Int.reduceToNat, Int.reduceEq, h21], .inr (.inl ⟨rfl, by simp only [go_sem, reduceCtorEq, reduceIte, Nat.reduceEqDiff, Nat.reduceAdd, Nat.reduceLeDiff, Nat.reduceMul, Int.reduceLT, Int.reduceLE, Int.reduceAdd, Int.reduceSub, Int.reduceMul, Int.reduceNeg, Int.reduceToNat, Int.reduceEq]⟩)⟩
  · simp only [go_sem, reduceCtorEq, reduceIte, Nat.reduceEqDiff, Nat.reduceAdd, Nat.reduceLeDiff, Nat.reduceMul, Int.reduceLT, Int.reduceLE, Int.reduceAdd, Int.reduceSub, Int.reduceMul, Int.reduceNeg, Int.reduceToNat, Int.reduceEq, h2, h3, h6, h20, h21, h22, b2, b3, b6, b20]
    intro rx hFx hMx
    have o1 := ne_of_none hMx c.fa
    have o2 := ne_of_none hMx c.fb
    have o3 := ne_of_none hMx c.fz
    have o4 := ne_of_none hMx f20
    simp only [go_sem, reduceCtorEq, reduceIte, Nat.reduceEqDiff, Nat.reduceAdd, Nat.reduceLeDiff, Nat.reduceMul, Int.reduceLT, Int.reduceLE, Int.reduceAdd, Int.reduceSub, Int.reduceMul, Int.reduceNeg, Int.reduceToNat, Int.reduceEq, h2, h3, h6, h20, h21, h22, o1, o2, o3, o4, b2, b3, b6, b20]
    intro r28 hF28 hM28
    have p1 := fresh_of hM28
    have p4 := ne_of_none p1.2.2 f20
    have p3 := ne_of_none p1.2.2 c.fz
    simp only [go_sem, reduceCtorEq, reduceIte, Nat.reduceEqDiff, Nat.reduceAdd, Nat.reduceLeDiff, Nat.reduceMul, Int.reduceLT, Int.reduceLE, Int.reduceAdd, Int.reduceSub, Int.reduceMul, Int.reduceNeg, Int.reduceToNat, Int.reduceEq, h2, h3, h6, h20, h21, h22, o1, o2, o3, o4, p1, p3, p4, b2, b3, b6, b20]
    refine loop_of (inI a b b 1 F' M ra rb rz r20 rx r28) 2 ?_ ?_
    · exact ⟨rfl, ⟨n20, p3.2, o3.2⟩, by rw [Hp.upd_ne' p4.1, Hp.upd_ne' o4.1]; exact f20, Hp.upd_same _ _ _, by rw [Hp.upd_ne' p1.2.1]; exact Hp.upd_same _ _ _, ⟨_, _, (c.new hMx).new hM28⟩,
        by simp only [go_sem, reduceCtorEq, reduceIte, Nat.reduceEqDiff, Nat.reduceAdd, Nat.reduceLeDiff, Nat.reduceMul, Int.reduceLT, Int.reduceLE, Int.reduceAdd, Int.reduceSub, Int.reduceMul, Int.reduceNeg, Int.reduceToNat, Int.reduceEq, h2], by simp only [go_sem, reduceCtorEq, reduceIte, Nat.reduceEqDiff, Nat.reduceAdd, Nat.reduceLeDiff, Nat.reduceMul, Int.reduceLT, Int.reduceLE, Int.reduceAdd, Int.reduceSub, Int.reduceMul, Int.reduceNeg, Int.reduceToNat, Int.reduceEq, h3], by simp only [go_sem, reduceCtorEq, reduceIte, Nat.reduceEqDiff, Nat.reduceAdd, Nat.reduceLeDiff, Nat.reduceMul, Int.reduceLT, Int.reduceLE, Int.reduceAdd, Int.reduceSub, Int.reduceMul, Int.reduceNeg, Int.reduceToNat, Int.reduceEq, h6], by simp only [go_sem, reduceCtorEq, reduceIte, Nat.reduceEqDiff, Nat.reduceAdd, Nat.reduceLeDiff, Nat.reduceMul, Int.reduceLT, Int.reduceLE, Int.reduceAdd, Int.reduceSub, Int.reduceMul, Int.reduceNeg, Int.reduceToNat, Int.reduceEq, h20], by simp only [go_sem, reduceCtorEq, reduceIte, Nat.reduceEqDiff, Nat.reduceAdd, Nat.reduceLeDiff, Nat.reduceMul, Int.reduceLT, Int.reduceLE, Int.reduceAdd, Int.reduceSub, Int.reduceMul, Int.reduceNeg, Int.reduceToNat, Int.reduceEq, h21], by simp only [go_sem, reduceCtorEq, reduceIte, Nat.reduceEqDiff, Nat.reduceAdd, Nat.reduceLeDiff, Nat.reduceMul, Int.reduceLT, Int.reduceLE, Int.reduceAdd, Int.reduceSub, Int.reduceMul, Int.reduceNeg, Int.reduceToNat, Int.reduceEq, h22], by simp only [go_sem, reduceCtorEq, reduceIte, Nat.reduceEqDiff, Nat.reduceAdd, Nat.reduceLeDiff, Nat.reduceMul, Int.reduceLT, Int.reduceLE, Int.reduceAdd, Int.reduceSub, Int.reduceMul, Int.reduceNeg, Int.reduceToNat, Int.reduceEq], by simp only [go_sem, reduceCtorEq, reduceIte, Nat.reduceEqDiff, Nat.reduceAdd, Nat.reduceLeDiff, Nat.reduceMul, Int.reduceLT, Int.reduceLE, Int.reduceAdd, Int.reduceSub, Int.reduceMul, Int.reduceNeg, Int.reduceToNat, Int.reduceEq], by simp only [go_sem, reduceCtorEq, reduceIte, Nat.reduceEqDiff, Nat.reduceAdd, Nat.reduceLeDiff, Nat.reduceMul, Int.reduceLT, Int.reduceLE, Int.reduceAdd, Int.reduceSub, Int.reduceMul, Int.reduceNeg, Int.reduceToNat, Int.reduceEq], .inl ⟨rfl, by simp only [go_sem, reduceCtorEq, reduceIte, Nat.reduceEqDiff, Nat.reduceAdd, Nat.reduceLeDiff, Nat.reduceMul, Int.reduceLT, Int.reduceLE, Int.reduceAdd, Int.reduceSub, Int.reduceMul, Int.reduceNeg, Int.reduceToNat, Int.reduceEq]⟩⟩
    have hx : b.In := hb
    have hxw : b.w = a.w := hw
    clear h2 h3 h6 h20 h21 h22 b2 b3 b6 b20 f20 hM28 p1 p3 p4 o1 o2 o3 o4 hMx
    clear c
    clear l h
    clear hFx hF28
    rintro m σ F'' M'' ⟨rfl, nn, f20, f28, fx, ⟨l, h, c⟩, h2, h3, h6, h20, h21, h22, h8, h28, h29, h30⟩
    have b2 := blk_M (F := F'') c.fa
    have b3 := blk_M (F := F'') c.fb
    have b6 := blk_M (F := F'') c.fz
    have b8 := blk_M (F := F'') fx
    have b28 := blk_M (F := F'') f28
    rcases h30 with ⟨rfl, h30⟩ | ⟨rfl, h30⟩ | ⟨rfl, h30⟩
    · simp only [go_sem, reduceCtorEq, reduceIte, Nat.reduceEqDiff, Nat.reduceAdd, Nat.reduceLeDiff, Nat.reduceMul, Int.reduceLT, Int.reduceLE, Int.reduceAdd, Int.reduceSub, Int.reduceMul, Int.reduceNeg, Int.reduceToNat, Int.reduceEq, h2, h3, h6, h20, h21, h22, h8, h28, h29, h30, b2, b3, b6, b8, b28]
      intro ry hFy hMy
      have q1 := ne_of_none hMy c.fa
      have q2 := ne_of_none hMy c.fb
      have q3 := ne_of_none hMy c.fz
      have q4 := ne_of_none hMy fx
      have q5 := ne_of_none hMy f20
      have q6 := ne_of_none hMy f28
      simp only [go_sem, reduceCtorEq, reduceIte, Nat.reduceEqDiff, Nat.reduceAdd, Nat.reduceLeDiff, Nat.reduceMul, Int.reduceLT, Int.reduceLE, Int.reduceAdd, Int.reduceSub, Int.reduceMul, Int.reduceNeg, Int.reduceToNat, Int.reduceEq, h2, h3, h6, h20, h21, h22, h8, h28, h29, h30, b2, b3, b6, b8, b28, q1, q2, q3, q4, q5, q6]
      intro rw' hFw hMw
      have w1 := fresh_of hMw
      have u1 := ne_of_none w1.2.2 c.fa
      have u2 := ne_of_none w1.2.2 c.fb
      have u3 := ne_of_none w1.2.2 c.fz
      have ux := ne_of_none w1.2.2 fx
      have q7 := ne_of_none w1.2.2 f20
      have u28 := ne_of_none w1.2.2 f28
      have hz : (V.mk a.w false b.low a.high 0 0).In := span_in ha hx ha hxw rfl
      simp only [go_sem, reduceCtorEq, reduceIte, Nat.reduceEqDiff, Nat.reduceAdd, Nat.reduceLeDiff, Nat.reduceMul, Int.reduceLT, Int.reduceLE, Int.reduceAdd, Int.reduceSub, Int.reduceMul, Int.reduceNeg, Int.reduceToNat, Int.reduceEq, h2, h3, h6, h20, h21, h22, h8, h28, h29, h30, b2, b3, b6, b8, b28, q1, q2, q3, q4, q5, q6, q7, w1, u1, u2, u3, ux, u28]
      refine callK_same (k152 _ _ a (V.mk a.w false b.low a.high 0 0) ha hz) ?_
      cases i1 : a.inside (V.mk a.w false b.low a.high 0 0)
      · simp only [go_sem, reduceCtorEq, reduceIte, Nat.reduceEqDiff, Nat.reduceAdd, Nat.reduceLeDiff, Nat.reduceMul, Int.reduceLT, Int.reduceLE, Int.reduceAdd, Int.reduceSub, Int.reduceMul, Int.reduceNeg, Int.reduceToNat, Int.reduceEq, h2, h3, h6, h20, h21, h22, h8, h28, h29, h30, b2, b3, b6, b8, b28, q1, q2, q3, q4, q5, q6, q7, w1, u1, u2, u3, ux, u28]
        exact ⟨1, by omega, rfl, nn, by rw [Hp.upd_ne' q7.1, Hp.upd_ne' q5.1]; exact f20, by rw [Hp.upd_ne' u28.1, Hp.upd_ne' q6.1]; exact f28, by rw [Hp.upd_ne' ux.1, Hp.upd_ne' q4.1]; exact fx, ⟨_, _, (c.new hMy).new hMw⟩, by simp only [go_sem, reduceCtorEq, reduceIte, Nat.reduceEqDiff, Nat.reduceAdd, Nat.reduceLeDiff, Nat.reduceMul, Int.reduceLT, Int.reduceLE, Int.reduceAdd, Int.reduceSub, Int.reduceMul, Int.reduceNeg, Int.reduceToNat, Int.reduceEq, h2], by simp only [go_sem, reduceCtorEq, reduceIte, Nat.reduceEqDiff, Nat.reduceAdd, Nat.reduceLeDiff, Nat.reduceMul, Int.reduceLT, Int.reduceLE, Int.reduceAdd, Int.reduceSub, Int.reduceMul, Int.reduceNeg, Int.reduceToNat, Int.reduceEq, h3], by simp only [go_sem, reduceCtorEq, reduceIte, Nat.reduceEqDiff, Nat.reduceAdd, Nat.reduceLeDiff, Nat.reduceMul, Int.reduceLT, Int.reduceLE, Int.reduceAdd, Int.reduceSub, Int.reduceMul, Int.reduceNeg, Int.reduceToNat, Int.reduceEq, h6], by simp only [go_sem, reduceCtorEq, reduceIte, Nat.reduceEqDiff, Nat.reduceAdd, Nat.reduceLeDiff, Nat.reduceMul, Int.reduceLT, Int.reduceLE, Int.reduceAdd, Int.reduceSub, Int.reduceMul, Int.reduceNeg, Int.reduceToNat, Int.reduceEq, h20], by simp only [go_sem, reduceCtorEq, reduceIte, Nat.reduceEqDiff, Nat.reduceAdd, Nat.reduceLeDiff, Nat.reduceMul, Int.reduceLT, Int.reduceLE, Int.reduceAdd, Int.reduceSub, Int.reduceMul, Int.reduceNeg, Int.reduceToNat, Int.reduceEq, h21], by simp only [go_sem, reduceCtorEq, reduceIte, Nat.reduceEqDiff, Nat.reduceAdd, Nat.reduceLeDiff, Nat.reduceMul, Int.reduceLT, Int.reduceLE, Int.reduceAdd, Int.reduceSub, Int.reduceMul, Int.reduceNeg, Int.reduceToNat, Int.reduceEq, h22], by simp only [go_sem, reduceCtorEq, reduceIte, Nat.reduceEqDiff, Nat.reduceAdd, Nat.reduceLeDiff, Nat.reduceMul, Int.reduceLT, Int.reduceLE, Int.reduceAdd, Int.reduceSub, Int.reduceMul, Int.reduceNeg, Int.reduceToNat, Int.reduceEq, h8], by simp only [go_sem, reduceCtorEq, reduceIte, Nat.reduceEqDiff, Nat.reduceAdd, Nat.reduceLeDiff, Nat.reduceMul, Int.reduceLT, Int.reduceLE, Int.reduceAdd, Int.reduceSub, Int.reduceMul, Int.reduceNeg, Int.reduceToNat, Int.reduceEq, h28], by simp only [go_sem, reduceCtorEq, reduceIte, Nat.reduceEqDiff, Nat.reduceAdd, Nat.reduceLeDiff, Nat.reduceMul, Int.reduceLT, Int.reduceLE, Int.reduceAdd, Int.reduceSub, Int.reduceMul, Int.reduceNeg, Int.reduceToNat, Int.reduceEq, h29], (.inr (.inl ⟨rfl, by simp only [go_sem, reduceCtorEq, reduceIte, Nat.reduceEqDiff, Nat.reduceAdd, Nat.reduceLeDiff, Nat.reduceMul, Int.reduceLT, Int.reduceLE, Int.reduceAdd, Int.reduceSub, Int.reduceMul, Int.reduceNeg, Int.reduceToNat, Int.reduceEq]⟩))⟩
      simp only [go_sem, reduceCtorEq, reduceIte, Nat.reduceEqDiff, Nat.reduceAdd, Nat.reduceLeDiff, Nat.reduceMul, Int.reduceLT, Int.reduceLE, Int.reduceAdd, Int.reduceSub, Int.reduceMul, Int.reduceNeg, Int.reduceToNat, Int.reduceEq, h2, h3, h6, h20, h21, h22, h8, h28, h29, h30, b2, b3, b6, b8, b28, q1, q2, q3, q4, q5, q6, q7, w1, u1, u2, u3, ux, u28]
      refine callK_same (k152 _ _ b (V.mk a.w false b.low a.high 0 0) hb hz) ?_
      cases i2 : b.inside (V.mk a.w false b.low a.high 0 0)
      · simp only [go_sem, reduceCtorEq, reduceIte, Nat.reduceEqDiff, Nat.reduceAdd, Nat.reduceLeDiff, Nat.reduceMul, Int.reduceLT, Int.reduceLE, Int.reduceAdd, Int.reduceSub, Int.reduceMul, Int.reduceNeg, Int.reduceToNat, Int.reduceEq, h2, h3, h6, h20, h21, h22, h8, h28, h29, h30, b2, b3, b6, b8, b28, q1, q2, q3, q4, q5, q6, q7, w1, u1, u2, u3, ux, u28]
        exact ⟨1, by omega, rfl, nn, by rw [Hp.upd_ne' q7.1, Hp.upd_ne' q5.1]; exact f20, by rw [Hp.upd_ne' u28.1, Hp.upd_ne' q6.1]; exact f28, by rw [Hp.upd_ne' ux.1, Hp.upd_ne' q4.1]; exact fx, ⟨_, _, (c.new hMy).new hMw⟩, by simp only [go_sem, reduceCtorEq, reduceIte, Nat.reduceEqDiff, Nat.reduceAdd, Nat.reduceLeDiff, Nat.reduceMul, Int.reduceLT, Int.reduceLE, Int.reduceAdd, Int.reduceSub, Int.reduceMul, Int.reduceNeg, Int.reduceToNat, Int.reduceEq, h2], by simp only [go_sem, reduceCtorEq, reduceIte, Nat.reduceEqDiff, Nat.reduceAdd, Nat.reduceLeDiff, Nat.reduceMul, Int.reduceLT, Int.reduceLE, Int.reduceAdd, Int.reduceSub, Int.reduceMul, Int.reduceNeg, Int.reduceToNat, Int.reduceEq, h3], by simp only [go_sem, reduceCtorEq, reduceIte, Nat.reduceEqDiff, Nat.reduceAdd, Nat.reduceLeDiff, Nat.reduceMul, Int.reduceLT, Int.reduceLE, Int.reduceAdd, Int.reduceSub, Int.reduceMul, Int.reduceNeg, Int.reduceToNat, Int.reduceEq, h6], by simp only [go_sem, reduceCtorEq, reduceIte, Nat.reduceEqDiff, Nat.reduceAdd, Nat.reduceLeDiff, Nat.reduceMul, Int.reduceLT, Int.reduceLE, Int.reduceAdd, Int.reduceSub, Int.reduceMul, Int.reduceNeg, Int.reduceToNat, Int.reduceEq, h20], by simp only [go_sem, reduceCtorEq, reduceIte, Nat.reduceEqDiff, Nat.reduceAdd, Nat.reduceLeDiff, Nat.reduceMul, Int.reduceLT, Int.reduceLE, Int.reduceAdd, Int.reduceSub, Int.reduceMul, Int.reduceNeg, Int.reduceToNat, Int.reduceEq, h21], by simp only [go_sem, reduceCtorEq, reduceIte, Nat.reduceEqDiff, Nat.reduceAdd, Nat.reduceLeDiff, Nat.reduceMul, Int.reduceLT, Int.reduceLE, Int.reduceAdd, Int.reduceSub, Int.reduceMul, Int.reduceNeg, Int.reduceToNat, Int.reduceEq, h22], by simp only [go_sem, reduceCtorEq, reduceIte, Nat.reduceEqDiff, Nat.reduceAdd, Nat.reduceLeDiff, Nat.reduceMul, Int.reduceLT, Int.reduceLE, Int.reduceAdd, Int.reduceSub, Int.reduceMul, Int.reduceNeg, Int.reduceToNat, Int.reduceEq, h8], by simp only [go_sem, reduceCtorEq, reduceIte, Nat.reduceEqDiff, Nat.reduceAdd, Nat.reduceLeDiff, Nat.reduceMul, Int.reduceLT, Int.reduceLE, Int.reduceAdd, Int.reduceSub, Int.reduceMul, Int.reduceNeg, Int.reduceToNat, Int.reduceEq, h28], by simp only [go_sem, reduceCtorEq, reduceIte, Nat.reduceEqDiff, Nat.reduceAdd, Nat.reduceLeDiff, Nat.reduceMul, Int.reduceLT, Int.reduceLE, Int.reduceAdd, Int.reduceSub, Int.reduceMul, Int.reduceNeg, Int.reduceToNat, Int.reduceEq, h29], (.inr (.inl ⟨rfl, by simp only [go_sem, reduceCtorEq, reduceIte, Nat.reduceEqDiff, Nat.reduceAdd, Nat.reduceLeDiff, Nat.reduceMul, Int.reduceLT, Int.reduceLE, Int.reduceAdd, Int.reduceSub, Int.reduceMul, Int.reduceNeg, Int.reduceToNat, Int.reduceEq]⟩))⟩
      simp only [go_sem, reduceCtorEq, reduceIte, Nat.reduceEqDiff, Nat.reduceAdd, Nat.reduceLeDiff, Nat.reduceMul, Int.reduceLT, Int.reduceLE, Int.reduceAdd, Int.reduceSub, Int.reduceMul, Int.reduceNeg, Int.reduceToNat, Int.reduceEq, h2, h3, h6, h20, h21, h22, h8, h28, h29, h30, b2, b3, b6, b8, b28, q1, q2, q3, q4, q5, q6, q7, w1, u1, u2, u3, ux, u28]
      refine callK_same (k160 _ _ _ hz) ?_
      simp only [go_sem, reduceCtorEq, reduceIte, Nat.reduceEqDiff, Nat.reduceAdd, Nat.reduceLeDiff, Nat.reduceMul, Int.reduceLT, Int.reduceLE, Int.reduceAdd, Int.reduceSub, Int.reduceMul, Int.reduceNeg, Int.reduceToNat, Int.reduceEq, h2, h3, h6, h20, h21, h22, h8, h28, h29, h30, b2, b3, b6, b8, b28, q1, q2, q3, q4, q5, q6, q7, w1, u1, u2, u3, ux, u28]
      refine callK_same (k160 _ _ _ c.cov.1) ?_
      by_cases hlt : (V.mk a.w false b.low a.high 0 0).len < (V.mk a.w false l h 0 0).len
      · simp only [go_sem, reduceCtorEq, reduceIte, Nat.reduceEqDiff, Nat.reduceAdd, Nat.reduceLeDiff, Nat.reduceMul, Int.reduceLT, Int.reduceLE, Int.reduceAdd, Int.reduceSub, Int.reduceMul, Int.reduceNeg, Int.reduceToNat, Int.reduceEq, h2, h3, h6, h20, h21, h22, h8, h28, h29, h30, b2, b3, b6, b8, b28, q1, q2, q3, q4, q5, q6, q7, w1, u1, u2, u3, ux, u28, hlt, c.fz]
        exact ⟨1, by omega, rfl, nn, by rw [Hp.upd_ne' q7.1, Hp.upd_ne' q5.1, setH, Hp.upd_ne' nn.1]; exact f20, by rw [Hp.upd_ne' u28.1, Hp.upd_ne' q6.1, setH, Hp.upd_ne' nn.2.1]; exact f28, by rw [Hp.upd_ne' ux.1, Hp.upd_ne' q4.1, setH, Hp.upd_ne' nn.2.2]; exact fx, ⟨_, _, ((c.set ⟨hz, i1, i2⟩).new (by rw [upd_none]; exact ⟨q3.2, hMy⟩)).new (by rw [upd_none, upd_none]; exact ⟨w1.1, u3.2, w1.2.2⟩)⟩, by simp only [go_sem, reduceCtorEq, reduceIte, Nat.reduceEqDiff, Nat.reduceAdd, Nat.reduceLeDiff, Nat.reduceMul, Int.reduceLT, Int.reduceLE, Int.reduceAdd, Int.reduceSub, Int.reduceMul, Int.reduceNeg, Int.reduceToNat, Int.reduceEq, h2], by simp only [go_sem, reduceCtorEq, reduceIte, Nat.reduceEqDiff, Nat.reduceAdd, Nat.reduceLeDiff, Nat.reduceMul, Int.reduceLT, Int.reduceLE, Int.reduceAdd, Int.reduceSub, Int.reduceMul, Int.reduceNeg, Int.reduceToNat, Int.reduceEq, h3], by simp only [go_sem, reduceCtorEq, reduceIte, Nat.reduceEqDiff, Nat.reduceAdd, Nat.reduceLeDiff, Nat.reduceMul, Int.reduceLT, Int.reduceLE, Int.reduceAdd, Int.reduceSub, Int.reduceMul, Int.reduceNeg, Int.reduceToNat, Int.reduceEq, h6], by simp only [go_sem, reduceCtorEq, reduceIte, Nat.reduceEqDiff, Nat.reduceAdd, Nat.reduceLeDiff, Nat.reduceMul, Int.reduceLT, Int.reduceLE, Int.reduceAdd, Int.reduceSub, Int.reduceMul, Int.reduceNeg, Int.reduceToNat, Int.reduceEq, h20], by simp only [go_sem, reduceCtorEq, reduceIte, Nat.reduceEqDiff, Nat.reduceAdd, Nat.reduceLeDiff, Nat.reduceMul, Int.reduceLT, Int.reduceLE, Int.reduceAdd, Int.reduceSub, Int.reduceMul, Int.reduceNeg, Int.reduceToNat, Int.reduceEq, h21], by simp only [go_sem, reduceCtorEq, reduceIte, Nat.reduceEqDiff, Nat.reduceAdd, Nat.reduceLeDiff, Nat.reduceMul, Int.reduceLT, Int.reduceLE, Int.reduceAdd, Int.reduceSub, Int.reduceMul, Int.reduceNeg, Int.reduceToNat, Int.reduceEq, h22], by simp only [go_sem, reduceCtorEq, reduceIte, Nat.reduceEqDiff, Nat.reduceAdd, Nat.reduceLeDiff, Nat.reduceMul, Int.reduceLT, Int.reduceLE, Int.reduceAdd, Int.reduceSub, Int.reduceMul, Int.reduceNeg, Int.reduceToNat, Int.reduceEq, h8], by simp only [go_sem, reduceCtorEq, reduceIte, Nat.reduceEqDiff, Nat.reduceAdd, Nat.reduceLeDiff, Nat.reduceMul, Int.reduceLT, Int.reduceLE, Int.reduceAdd, Int.reduceSub, Int.reduceMul, Int.reduceNeg, Int.reduceToNat, Int.reduceEq, h28], by simp only [go_sem, reduceCtorEq, reduceIte, Nat.reduceEqDiff, Nat.reduceAdd, Nat.reduceLeDiff, Nat.reduceMul, Int.reduceLT, Int.reduceLE, Int.reduceAdd, Int.reduceSub, Int.reduceMul, Int.reduceNeg, Int.reduceToNat, Int.reduceEq, h29], (.inr (.inl ⟨rfl, by simp only [go_sem, reduceCtorEq, reduceIte, Nat.reduceEqDiff, Nat.reduceAdd, Nat.reduceLeDiff, Nat.reduceMul, Int.reduceLT, Int.reduceLE, Int.reduceAdd, Int.reduceSub, Int.reduceMul, Int.reduceNeg, Int.reduceToNat, Int.reduceEq]⟩))⟩
      · simp only [go_sem, reduceCtorEq, reduceIte, Nat.reduceEqDiff, Nat.reduceAdd, Nat.reduceLeDiff, Nat.reduceMul, Int.reduceLT, Int.reduceLE, Int.reduceAdd, Int.reduceSub, Int.reduceMul, Int.reduceNeg, Int.reduceToNat, Int.reduceEq, h2, h3, h6, h20, h21, h22, h8, h28, h29, h30, b2, b3, b6, b8, b28, q1, q2, q3, q4, q5, q6, q7, w1, u1, u2, u3, ux, u28, hlt]
        exact ⟨1, by omega, rfl, nn, by rw [Hp.upd_ne' q7.1, Hp.upd_ne' q5.1]; exact f20, by rw [Hp.upd_ne' u28.1, Hp.upd_ne' q6.1]; exact f28, by rw [Hp.upd_ne' ux.1, Hp.upd_ne' q4.1]; exact fx, ⟨_, _, (c.new hMy).new hMw⟩, by simp only [go_sem, reduceCtorEq, reduceIte, Nat.reduceEqDiff, Nat.reduceAdd, Nat.reduceLeDiff, Nat.reduceMul, Int.reduceLT, Int.reduceLE, Int.reduceAdd, Int.reduceSub, Int.reduceMul, Int.reduceNeg, Int.reduceToNat, Int.reduceEq, h2], by simp only [go_sem, reduceCtorEq, reduceIte, Nat.reduceEqDiff, Nat.reduceAdd, Nat.reduceLeDiff, Nat.reduceMul, Int.reduceLT, Int.reduceLE, Int.reduceAdd, Int.reduceSub, Int.reduceMul, Int.reduceNeg, Int.reduceToNat, Int.reduceEq, h3], by simp only [go_sem, reduceCtorEq, reduceIte, Nat.reduceEqDiff, Nat.reduceAdd, Nat.reduceLeDiff, Nat.reduceMul, Int.reduceLT, Int.reduceLE, Int.reduceAdd, Int.reduceSub, Int.reduceMul, Int.reduceNeg, Int.reduceToNat, Int.reduceEq, h6], by simp only [go_sem, reduceCtorEq, reduceIte, Nat.reduceEqDiff, Nat.reduceAdd, Nat.reduceLeDiff, Nat.reduceMul, Int.reduceLT, Int.reduceLE, Int.reduceAdd, Int.reduceSub, Int.reduceMul, Int.reduceNeg, Int.reduceToNat, Int.reduceEq, h20], by simp only [go_sem, reduceCtorEq, reduceIte, Nat.reduceEqDiff, Nat.reduceAdd, Nat.reduceLeDiff, Nat.reduceMul, Int.reduceLT, Int.reduceLE, Int.reduceAdd, Int.reduceSub, Int.reduceMul, Int.reduceNeg, Int.reduceToNat, Int.reduceEq, h21], by simp only [go_sem, reduceCtorEq, reduceIte, Nat.reduceEqDiff, Nat.reduceAdd, Nat.reduceLeDiff, Nat.reduceMul, Int.reduceLT, Int.reduceLE, Int.reduceAdd, Int.reduceSub, Int.reduceMul, Int.reduceNeg, Int.reduceToNat, Int.reduceEq, h22], by simp only [go_sem, reduceCtorEq, reduceIte, Nat.reduceEqDiff, Nat.reduceAdd, Nat.reduceLeDiff, Nat.reduceMul, Int.reduceLT, Int.reduceLE, Int.reduceAdd, Int.reduceSub, Int.reduceMul, Int.reduceNeg, Int.reduceToNat, Int.reduceEq, h8], by simp only [go_sem, reduceCtorEq, reduceIte, Nat.reduceEqDiff, Nat.reduceAdd, Nat.reduceLeDiff, Nat.reduceMul, Int.reduceLT, Int.reduceLE, Int.reduceAdd, Int.reduceSub, Int.reduceMul, Int.reduceNeg, Int.reduceToNat, Int.reduceEq, h28], by simp only [go_sem, reduceCtorEq, reduceIte, Nat.reduceEqDiff, Nat.reduceAdd, Nat.reduceLeDiff, Nat.reduceMul, Int.reduceLT, Int.reduceLE, Int.reduceAdd, Int.reduceSub, Int.reduceMul, Int.reduceNeg, Int.reduceToNat, Int.reduceEq, h29], (.inr (.inl ⟨rfl, by simp only [go_sem, reduceCtorEq, reduceIte, Nat.reduceEqDiff, Nat.reduceAdd, Nat.reduceLeDiff, Nat.reduceMul, Int.reduceLT, Int.reduceLE, Int.reduceAdd, Int.reduceSub, Int.reduceMul, Int.reduceNeg, Int.reduceToNat, Int.reduceEq]⟩))⟩
    · simp only [go_sem, reduceCtorEq, reduceIte, Nat.reduceEqDiff, Nat.reduceAdd, Nat.reduceLeDiff, Nat.reduceMul, Int.reduceLT, Int.reduceLE, Int.reduceAdd, Int.reduceSub, Int.reduceMul, Int.reduceNeg, Int.reduceToNat, Int.reduceEq, h2, h3, h6, h20, h21, h22, h8, h28, h29, h30, b2, b3, b6, b8, b28]
      intro ry hFy hMy
      have q1 := ne_of_none hMy c.fa
      have q2 := ne_of_none hMy c.fb
      have q3 := ne_of_none hMy c.fz
      have q4 := ne_of_none hMy fx
      have q5 := ne_of_none hMy f20
      have q6 := ne_of_none hMy f28
      simp only [go_sem, reduceCtorEq, reduceIte, Nat.reduceEqDiff, Nat.reduceAdd, Nat.reduceLeDiff, Nat.reduceMul, Int.reduceLT, Int.reduceLE, Int.reduceAdd, Int.reduceSub, Int.reduceMul, Int.reduceNeg, Int.reduceToNat, Int.reduceEq, h2, h3, h6, h20, h21, h22, h8, h28, h29, h30, b2, b3, b6, b8, b28, q1, q2, q3, q4, q5, q6]
      intro rw' hFw hMw
      have w1 := fresh_of hMw
      have u1 := ne_of_none w1.2.2 c.fa
      have u2 := ne_of_none w1.2.2 c.fb
      have u3 := ne_of_none w1.2.2 c.fz
      have ux := ne_of_none w1.2.2 fx
      have q7 := ne_of_none w1.2.2 f20
      have u28 := ne_of_none w1.2.2 f28
      have hz : (V.mk a.w false b.low b.high 0 0).In := span_in ha hx hb hxw hw
      simp only [go_sem, reduceCtorEq, reduceIte, Nat.reduceEqDiff, Nat.reduceAdd, Nat.reduceLeDiff, Nat.reduceMul, Int.reduceLT, Int.reduceLE, Int.reduceAdd, Int.reduceSub, Int.reduceMul, Int.reduceNeg, Int.reduceToNat, Int.reduceEq, h2, h3, h6, h20, h21, h22, h8, h28, h29, h30, b2, b3, b6, b8, b28, q1, q2, q3, q4, q5, q6, q7, w1, u1, u2, u3, ux, u28]
      refine callK_same (k152 _ _ a (V.mk a.w false b.low b.high 0 0) ha hz) ?_
      cases i1 : a.inside (V.mk a.w false b.low b.high 0 0)
      · simp only [go_sem, reduceCtorEq, reduceIte, Nat.reduceEqDiff, Nat.reduceAdd, Nat.reduceLeDiff, Nat.reduceMul, Int.reduceLT, Int.reduceLE, Int.reduceAdd, Int.reduceSub, Int.reduceMul, Int.reduceNeg, Int.reduceToNat, Int.reduceEq, h2, h3, h6, h20, h21, h22, h8, h28, h29, h30, b2, b3, b6, b8, b28, q1, q2, q3, q4, q5, q6, q7, w1, u1, u2, u3, ux, u28]
        exact ⟨0, by omega, rfl, nn, by rw [Hp.upd_ne' q7.1, Hp.upd_ne' q5.1]; exact f20, by rw [Hp.upd_ne' u28.1, Hp.upd_ne' q6.1]; exact f28, by rw [Hp.upd_ne' ux.1, Hp.upd_ne' q4.1]; exact fx, ⟨_, _, (c.new hMy).new hMw⟩, by simp only [go_sem, reduceCtorEq, reduceIte, Nat.reduceEqDiff, Nat.reduceAdd, Nat.reduceLeDiff, Nat.reduceMul, Int.reduceLT, Int.reduceLE, Int.reduceAdd, Int.reduceSub, Int.reduceMul, Int.reduceNeg, Int.reduceToNat, Int.reduceEq, h2], by simp only [go_sem, reduceCtorEq, reduceIte, Nat.reduceEqDiff, Nat.reduceAdd, Nat.reduceLeDiff, Nat.reduceMul, Int.reduceLT, Int.reduceLE, Int.reduceAdd, Int.reduceSub, Int.reduceMul, Int.reduceNeg, Int.reduceToNat, Int.reduceEq, h3], by simp only [go_sem, reduceCtorEq, reduceIte, Nat.reduceEqDiff, Nat.reduceAdd, Nat.reduceLeDiff, Nat.reduceMul, Int.reduceLT, Int.reduceLE, Int.reduceAdd, Int.reduceSub, Int.reduceMul, Int.reduceNeg, Int.reduceToNat, Int.reduceEq, h6], by simp only [go_sem, reduceCtorEq, reduceIte, Nat.reduceEqDiff, Nat.reduceAdd, Nat.reduceLeDiff, Nat.reduceMul, Int.reduceLT, Int.reduceLE, Int.reduceAdd, Int.reduceSub, Int.reduceMul, Int.reduceNeg, Int.reduceToNat, Int.reduceEq, h20], by simp only [go_sem, reduceCtorEq, reduceIte, Nat.reduceEqDiff, Nat.reduceAdd, Nat.reduceLeDiff, Nat.reduceMul, Int.reduceLT, Int.reduceLE, Int.reduceAdd, Int.reduceSub, Int.reduceMul, Int.reduceNeg, Int.reduceToNat, Int.reduceEq, h21], by simp only [go_sem, reduceCtorEq, reduceIte, Nat.reduceEqDiff, Nat.reduceAdd, Nat.reduceLeDiff, Nat.reduceMul, Int.reduceLT, Int.reduceLE, Int.reduceAdd, Int.reduceSub, Int.reduceMul, Int.reduceNeg, Int.reduceToNat, Int.reduceEq, h22], by simp only [go_sem, reduceCtorEq, reduceIte, Nat.reduceEqDiff, Nat.reduceAdd, Nat.reduceLeDiff, Nat.reduceMul, Int.reduceLT, Int.reduceLE, Int.reduceAdd, Int.reduceSub, Int.reduceMul, Int.reduceNeg, Int.reduceToNat, Int.reduceEq, h8], by simp only [go_sem, reduceCtorEq, reduceIte, Nat.reduceEqDiff, Nat.reduceAdd, Nat.reduceLeDiff, Nat.reduceMul, Int.reduceLT, Int.reduceLE, Int.reduceAdd, Int.reduceSub, Int.reduceMul, Int.reduceNeg, Int.reduceToNat, Int.reduceEq, h28], by simp only [go_sem, reduceCtorEq, reduceIte, Nat.reduceEqDiff, Nat.reduceAdd, Nat.reduceLeDiff, Nat.reduceMul, Int.reduceLT, Int.reduceLE, Int.reduceAdd, Int.reduceSub, Int.reduceMul, Int.reduceNeg, Int.reduceToNat, Int.reduceEq, h29], (.inr (.inr ⟨rfl, by simp only [go_sem, reduceCtorEq, reduceIte, Nat.reduceEqDiff, Nat.reduceAdd, Nat.reduceLeDiff, Nat.reduceMul, Int.reduceLT, Int.reduceLE, Int.reduceAdd, Int.reduceSub, Int.reduceMul, Int.reduceNeg, Int.reduceToNat, Int.reduceEq]⟩))⟩
      simp only [go_sem, reduceCtorEq, reduceIte, Nat.reduceEqDiff, Nat.reduceAdd, Nat.reduceLeDiff, Nat.reduceMul, Int.reduceLT, Int.reduceLE, Int.reduceAdd, Int.reduceSub, Int.reduceMul, Int.reduceNeg, Int.reduceToNat, Int.reduceEq, h2, h3, h6, h20, h21, h22, h8, h28, h29, h30, b2, b3, b6, b8, b28, q1, q2, q3, q4, q5, q6, q7, w1, u1, u2, u3, ux, u28]
      refine callK_same (k152 _ _ b (V.mk a.w false b.low b.high 0 0) hb hz) ?_
      cases i2 : b.inside (V.mk a.w false b.low b.high 0 0)
      · simp only [go_sem, reduceCtorEq, reduceIte, Nat.reduceEqDiff, Nat.reduceAdd, Nat.reduceLeDiff, Nat.reduceMul, Int.reduceLT, Int.reduceLE, Int.reduceAdd, Int.reduceSub, Int.reduceMul, Int.reduceNeg, Int.reduceToNat, Int.reduceEq, h2, h3, h6, h20, h21, h22, h8, h28, h29, h30, b2, b3, b6, b8, b28, q1, q2, q3, q4, q5, q6, q7, w1, u1, u2, u3, ux, u28]
        exact ⟨0, by omega, rfl, nn, by rw [Hp.upd_ne' q7.1, Hp.upd_ne' q5.1]; exact f20, by rw [Hp.upd_ne' u28.1, Hp.upd_ne' q6.1]; exact f28, by rw [Hp.upd_ne' ux.1, Hp.upd_ne' q4.1]; exact fx, ⟨_, _, (c.new hMy).new hMw⟩, by simp only [go_sem, reduceCtorEq, reduceIte, Nat.reduceEqDiff, Nat.reduceAdd, Nat.reduceLeDiff, Nat.reduceMul, Int.reduceLT, Int.reduceLE, Int.reduceAdd, Int.reduceSub, Int.reduceMul, Int.reduceNeg, Int.reduceToNat, Int.reduceEq, h2], by simp only [go_sem, reduceCtorEq, reduceIte, Nat.reduceEqDiff, Nat.reduceAdd, Nat.reduceLeDiff, Nat.reduceMul, Int.reduceLT, Int.reduceLE, Int.reduceAdd, Int.reduceSub, Int.reduceMul, Int.reduceNeg, Int.reduceToNat, Int.reduceEq, h3], by simp only [go_sem, reduceCtorEq, reduceIte, Nat.reduceEqDiff, Nat.reduceAdd, Nat.reduceLeDiff, Nat.reduceMul, Int.reduceLT, Int.reduceLE, Int.reduceAdd, Int.reduceSub, Int.reduceMul, Int.reduceNeg, Int.reduceToNat, Int.reduceEq, h6], by simp only [go_sem, reduceCtorEq, reduceIte, Nat.reduceEqDiff, Nat.reduceAdd, Nat.reduceLeDiff, Nat.reduceMul, Int.reduceLT, Int.reduceLE, Int.reduceAdd, Int.reduceSub, Int.reduceMul, Int.reduceNeg, Int.reduceToNat, Int.reduceEq, h20], by simp only [go_sem, reduceCtorEq, reduceIte, Nat.reduceEqDiff, Nat.reduceAdd, Nat.reduceLeDiff, Nat.reduceMul, Int.reduceLT, Int.reduceLE, Int.reduceAdd, Int.reduceSub, Int.reduceMul, Int.reduceNeg, Int.reduceToNat, Int.reduceEq, h21], by simp only [go_sem, reduceCtorEq, reduceIte, Nat.reduceEqDiff, Nat.reduceAdd, Nat.reduceLeDiff, Nat.reduceMul, Int.reduceLT, Int.reduceLE, Int.reduceAdd, Int.reduceSub, Int.reduceMul, Int.reduceNeg, Int.reduceToNat, Int.reduceEq, h22], by simp only [go_sem, reduceCtorEq, reduceIte, Nat.reduceEqDiff, Nat.reduceAdd, Nat.reduceLeDiff, Nat.reduceMul, Int.reduceLT, Int.reduceLE, Int.reduceAdd, Int.reduceSub, Int.reduceMul, Int.reduceNeg, Int.reduceToNat, Int.reduceEq, h8], by simp only [go_sem, reduceCtorEq, reduceIte, Nat.reduceEqDiff, Nat.reduceAdd, Nat.reduceLeDiff, Nat.reduceMul, Int.reduceLT, Int.reduceLE, Int.reduceAdd, Int.reduceSub, Int.reduceMul, Int.reduceNeg, Int.reduceToNat, Int.reduceEq, h28], by simp only [go_sem, reduceCtorEq, reduceIte, Nat.reduceEqDiff, Nat.reduceAdd, Nat.reduceLeDiff, Nat.reduceMul, Int.reduceLT, Int.reduceLE, Int.reduceAdd, Int.reduceSub, Int.reduceMul, Int.reduceNeg, Int.reduceToNat, Int.reduceEq, h29], (.inr (.inr ⟨rfl, by simp only [go_sem, reduceCtorEq, reduceIte, Nat.reduceEqDiff, Nat.reduceAdd, Nat.reduceLeDiff, Nat.reduceMul, Int.reduceLT, Int.reduceLE, Int.reduceAdd, Int.reduceSub, Int.reduceMul, Int.reduceNeg, Int.reduceToNat, Int.reduceEq]⟩))⟩
      simp only [go_sem, reduceCtorEq, reduceIte, Nat.reduceEqDiff, Nat.reduceAdd, Nat.reduceLeDiff, Nat.reduceMul, Int.reduceLT, Int.reduceLE, Int.reduceAdd, Int.reduceSub, Int.reduceMul, Int.reduceNeg, Int.reduceToNat, Int.reduceEq, h2, h3, h6, h20, h21, h22, h8, h28, h29, h30, b2, b3, b6, b8, b28, q1, q2, q3, q4, q5, q6, q7, w1, u1, u2, u3, ux, u28]
      refine callK_same (k160 _ _ _ hz) ?_
      simp only [go_sem, reduceCtorEq, reduceIte, Nat.reduceEqDiff, Nat.reduceAdd, Nat.reduceLeDiff, Nat.reduceMul, Int.reduceLT, Int.reduceLE, Int.reduceAdd, Int.reduceSub, Int.reduceMul, Int.reduceNeg, Int.reduceToNat, Int.reduceEq, h2, h3, h6, h20, h21, h22, h8, h28, h29, h30, b2, b3, b6, b8, b28, q1, q2, q3, q4, q5, q6, q7, w1, u1, u2, u3, ux, u28]
      refine callK_same (k160 _ _ _ c.cov.1) ?_
      by_cases hlt : (V.mk a.w false b.low b.high 0 0).len < (V.mk a.w false l h 0 0).len
      · simp only [go_sem, reduceCtorEq, reduceIte, Nat.reduceEqDiff, Nat.reduceAdd, Nat.reduceLeDiff, Nat.reduceMul, Int.reduceLT, Int.reduceLE, Int.reduceAdd, Int.reduceSub, Int.reduceMul, Int.reduceNeg, Int.reduceToNat, Int.reduceEq, h2, h3, h6, h20, h21, h22, h8, h28, h29, h30, b2, b3, b6, b8, b28, q1, q2, q3, q4, q5, q6, q7, w1, u1, u2, u3, ux, u28, hlt, c.fz]
        exact ⟨0, by omega, rfl, nn, by rw [Hp.upd_ne' q7.1, Hp.upd_ne' q5.1, setH, Hp.upd_ne' nn.1]; exact f20, by rw [Hp.upd_ne' u28.1, Hp.upd_ne' q6.1, setH, Hp.upd_ne' nn.2.1]; exact f28, by rw [Hp.upd_ne' ux.1, Hp.upd_ne' q4.1, setH, Hp.upd_ne' nn.2.2]; exact fx, ⟨_, _, ((c.set ⟨hz, i1, i2⟩).new (by rw [upd_none]; exact ⟨q3.2, hMy⟩)).new (by rw [upd_none, upd_none]; exact ⟨w1.1, u3.2, w1.2.2⟩)⟩, by simp only [go_sem, reduceCtorEq, reduceIte, Nat.reduceEqDiff, Nat.reduceAdd, Nat.reduceLeDiff, Nat.reduceMul, Int.reduceLT, Int.reduceLE, Int.reduceAdd, Int.reduceSub, Int.reduceMul, Int.reduceNeg, Int.reduceToNat, Int.reduceEq, h2], by simp only [go_sem, reduceCtorEq, reduceIte, Nat.reduceEqDiff, Nat.reduceAdd, Nat.reduceLeDiff, Nat.reduceMul, Int.reduceLT, Int.reduceLE, Int.reduceAdd, Int.reduceSub, Int.reduceMul, Int.reduceNeg, Int.reduceToNat, Int.reduceEq, h3], by simp only [go_sem, reduceCtorEq, reduceIte, Nat.reduceEqDiff, Nat.reduceAdd, Nat.reduceLeDiff, Nat.reduceMul, Int.reduceLT, Int.reduceLE, Int.reduceAdd, Int.reduceSub, Int.reduceMul, Int.reduceNeg, Int.reduceToNat, Int.reduceEq, h6], by simp only [go_sem, reduceCtorEq, reduceIte, Nat.reduceEqDiff, Nat.reduceAdd, Nat.reduceLeDiff, Nat.reduceMul, Int.reduceLT, Int.reduceLE, Int.reduceAdd, Int.reduceSub, Int.reduceMul, Int.reduceNeg, Int.reduceToNat, Int.reduceEq, h20], by simp only [go_sem, reduceCtorEq, reduceIte, Nat.reduceEqDiff, Nat.reduceAdd, Nat.reduceLeDiff, Nat.reduceMul, Int.reduceLT, Int.reduceLE, Int.reduceAdd, Int.reduceSub, Int.reduceMul, Int.reduceNeg, Int.reduceToNat, Int.reduceEq, h21], by simp only [go_sem, reduceCtorEq, reduceIte, Nat.reduceEqDiff, Nat.reduceAdd, Nat.reduceLeDiff, Nat.reduceMul, Int.reduceLT, Int.reduceLE, Int.reduceAdd, Int.reduceSub, Int.reduceMul, Int.reduceNeg, Int.reduceToNat, Int.reduceEq, h22], by simp only [go_sem, reduceCtorEq, reduceIte, Nat.reduceEqDiff, Nat.reduceAdd, Nat.reduceLeDiff, Nat.reduceMul, Int.reduceLT, Int.reduceLE, Int.reduceAdd, Int.reduceSub, Int.reduceMul, Int.reduceNeg, Int.reduceToNat, Int.reduceEq, h8], by simp only [go_sem, reduceCtorEq, reduceIte, Nat.reduceEqDiff, Nat.reduceAdd, Nat.reduceLeDiff, Nat.reduceMul, Int.reduceLT, Int.reduceLE, Int.reduceAdd, Int.reduceSub, Int.reduceMul, Int.reduceNeg, Int.reduceToNat, Int.reduceEq, h28], by simp only [go_sem, reduceCtorEq, reduceIte, Nat.reduceEqDiff, Nat.reduceAdd, Nat.reduceLeDiff, Nat.reduceMul, Int.reduceLT, Int.reduceLE, Int.reduceAdd, Int.reduceSub, Int.reduceMul, Int.reduceNeg, Int.reduceToNat, Int.reduceEq, h29], (.inr (.inr ⟨rfl, by simp only [go_sem, reduceCtorEq, reduceIte, Nat.reduceEqDiff, Nat.reduceAdd, Nat.reduceLeDiff, Nat.reduceMul, Int.reduceLT, Int.reduceLE, Int.reduceAdd, Int.reduceSub, Int.reduceMul, Int.reduceNeg, Int.reduceToNat, Int.reduceEq]⟩))⟩
      · simp only [go_sem, reduceCtorEq, reduceIte, Nat.reduceEqDiff, Nat.reduceAdd, Nat.reduceLeDiff, Nat.reduceMul, Int.reduceLT, Int.reduceLE, Int.reduceAdd, Int.reduceSub, Int.reduceMul, Int.reduceNeg, Int.reduceToNat, Int.reduceEq, h2, h3, h6, h20, h21, h22, h8, h28, h29, h30, b2, b3, b6, b8, b28, q1, q2, q3, q4, q5, q6, q7, w1, u1, u2, u3, ux, u28, hlt]
        exact ⟨0, by omega, rfl, nn, by rw [Hp.upd_ne' q7.1, Hp.upd_ne' q5.1]; exact f20, by rw [Hp.upd_ne' u28.1, Hp.upd_ne' q6.1]; exact f28, by rw [Hp.upd_ne' ux.1, Hp.upd_ne' q4.1]; exact fx, ⟨_, _, (c.new hMy).new hMw⟩, by simp only [go_sem, reduceCtorEq, reduceIte, Nat.reduceEqDiff, Nat.reduceAdd, Nat.reduceLeDiff, Nat.reduceMul, Int.reduceLT, Int.reduceLE, Int.reduceAdd, Int.reduceSub, Int.reduceMul, Int.reduceNeg, Int.reduceToNat, Int.reduceEq, h2], by simp only [go_sem, reduceCtorEq, reduceIte, Nat.reduceEqDiff, Nat.reduceAdd, Nat.reduceLeDiff, Nat.reduceMul, Int.reduceLT, Int.reduceLE, Int.reduceAdd, Int.reduceSub, Int.reduceMul, Int.reduceNeg, Int.reduceToNat, Int.reduceEq, h3], by simp only [go_sem, reduceCtorEq, reduceIte, Nat.reduceEqDiff, Nat.reduceAdd, Nat.reduceLeDiff, Nat.reduceMul, Int.reduceLT, Int.reduceLE, Int.reduceAdd, Int.reduceSub, Int.reduceMul, Int.reduceNeg, Int.reduceToNat, Int.reduceEq, h6], by simp only [go_sem, reduceCtorEq, reduceIte, Nat.reduceEqDiff, Nat.reduceAdd, Nat.reduceLeDiff, Nat.reduceMul, Int.reduceLT, Int.reduceLE, Int.reduceAdd, Int.reduceSub, Int.reduceMul, Int.reduceNeg, Int.reduceToNat, Int.reduceEq, h20], by simp only [go_sem, reduceCtorEq, reduceIte, Nat.reduceEqDiff, Nat.reduceAdd, Nat.reduceLeDiff, Nat.reduceMul, Int.reduceLT, Int.reduceLE, Int.reduceAdd, Int.reduceSub, Int.reduceMul, Int.reduceNeg, Int.reduceToNat, Int.reduceEq, h21], by simp only [go_sem, reduceCtorEq, reduceIte, Nat.reduceEqDiff, Nat.reduceAdd, Nat.reduceLeDiff, Nat.reduceMul, Int.reduceLT, Int.reduceLE, Int.reduceAdd, Int.reduceSub, Int.reduceMul, Int.reduceNeg, Int.reduceToNat, Int.reduceEq, h22], by simp only [go_sem, reduceCtorEq, reduceIte, Nat.reduceEqDiff, Nat.reduceAdd, Nat.reduceLeDiff, Nat.reduceMul, Int.reduceLT, Int.reduceLE, Int.reduceAdd, Int.reduceSub, Int.reduceMul, Int.reduceNeg, Int.reduceToNat, Int.reduceEq, h8], by simp only [go_sem, reduceCtorEq, reduceIte, Nat.reduceEqDiff, Nat.reduceAdd, Nat.reduceLeDiff, Nat.reduceMul, Int.reduceLT, Int.reduceLE, Int.reduceAdd, Int.reduceSub, Int.reduceMul, Int.reduceNeg, Int.reduceToNat, Int.reduceEq, h28], by simp only [go_sem, reduceCtorEq, reduceIte, Nat.reduceEqDiff, Nat.reduceAdd, Nat.reduceLeDiff, Nat.reduceMul, Int.reduceLT, Int.reduceLE, Int.reduceAdd, Int.reduceSub, Int.reduceMul, Int.reduceNeg, Int.reduceToNat, Int.reduceEq, h29], (.inr (.inr ⟨rfl, by simp only [go_sem, reduceCtorEq, reduceIte, Nat.reduceEqDiff, Nat.reduceAdd, Nat.reduceLeDiff, Nat.reduceMul, Int.reduceLT, Int.reduceLE, Int.reduceAdd, Int.reduceSub, Int.reduceMul, Int.reduceNeg, Int.reduceToNat, Int.reduceEq]⟩))⟩
    · simp only [go_sem, reduceCtorEq, reduceIte, Nat.reduceEqDiff, Nat.reduceAdd, Nat.reduceLeDiff, Nat.reduceMul, Int.reduceLT, Int.reduceLE, Int.reduceAdd, Int.reduceSub, Int.reduceMul, Int.reduceNeg, Int.reduceToNat, Int.reduceEq, h2, h3, h6, h20, h21, h22, h8, h28, h29, h30]
      exact ⟨0, by omega, rfl, nn.1, f20, ⟨_, _, c⟩, by simp only [go_sem, reduceCtorEq, reduceIte, Nat.reduceEqDiff, Nat.reduceAdd, Nat.reduceLeDiff, Nat.reduceMul, Int.reduceLT, Int.reduceLE, Int.reduceAdd, Int.reduceSub, Int.reduceMul, Int.reduceNeg, Int.reduceToNat, Int.reduceEq, h2], by simp only [go_sem, reduceCtorEq, reduceIte, Nat.reduceEqDiff, Nat.reduceAdd, Nat.reduceLeDiff, Nat.reduceMul, Int.reduceLT, Int.reduceLE, Int.reduceAdd, Int.reduceSub, Int.reduceMul, Int.reduceNeg, Int.reduceToNat, Int.reduceEq, h3], by simp only [go_sem, reduceCtorEq, reduceIte, Nat.reduceEqDiff, Nat.reduceAdd, Nat.reduceLeDiff, Nat.reduceMul, Int.reduceLT, Int.reduceLE, Int.reduceAdd, Int.reduceSub, Int.reduceMul, Int.reduceNeg, Int.reduceToNat, Int.reduceEq, h6], by simp only [go_sem, reduceCtorEq, reduceIte, Nat.reduceEqDiff, Nat.reduceAdd, Nat.reduceLeDiff, Nat.reduceMul, Int.reduceLT, Int.reduceLE, Int.reduceAdd, Int.reduceSub, Int.reduceMul, Int.reduceNeg, Int.reduceToNat, Int.reduceEq, h20], by simp only [go_sem, reduceCtorEq, reduceIte, Nat.reduceEqDiff, Nat.reduceAdd, Nat.reduceLeDiff, Nat.reduceMul, Int.reduceLT, Int.reduceLE, Int.reduceAdd, Int.reduceSub, Int.reduceMul, Int.reduceNeg, Int.reduceToNat, Int.reduceEq, h21], .inr (.inr ⟨rfl, by simp only [go_sem, reduceCtorEq, reduceIte, Nat.reduceEqDiff, Nat.reduceAdd, Nat.reduceLeDiff, Nat.reduceMul, Int.reduceLT, Int.reduceLE, Int.reduceAdd, Int.reduceSub, Int.reduceMul, Int.reduceNeg, Int.reduceToNat, Int.reduceEq]⟩)⟩
  · simp only [go_sem, reduceCtorEq, reduceIte, Nat.reduceEqDiff, Nat.reduceAdd, Nat.reduceLeDiff, Nat.reduceMul, Int.reduceLT, Int.reduceLE, Int.reduceAdd, Int.reduceSub, Int.reduceMul, Int.reduceNeg, Int.reduceToNat, Int.reduceEq, h2, h3, h6, h20, h21, h22, b2, b3, b6, b20]
    exact endK_keep c.keep ⟨rfl, rfl, l, h, rfl, c.cov⟩
end Go.Proofs.Try.K

/- Contracts: two sets together. -/
namespace Go.Proofs.Try.K
open Go Go.Ax Go.Proofs.Try.S
set_option maxRecDepth 100000
set_option linter.unusedSimpArgs false
set_option linter.unusedVariables false
variable (F : Fz) (M : Hp)

theorem k125 (a b : V) (ha : a.ok = true) (hb : b.ok = true) (hw : b.w = a.w) : CallsA Try.prog 125 [a.val, b.val] F M fun u F' M' => F' = F ∧ M' = M ∧ ∃ z, u = V.val z ∧ BothR a b z := by
  refine callsA_of hm Try.func125 e125 (Nat.le_of_ble_eq_true rfl) ?_
  simp only [c125, go_sem, reduceCtorEq, reduceIte, Nat.reduceEqDiff, Nat.reduceAdd, Nat.reduceLeDiff, Nat.reduceMul, Int.reduceLT, Int.reduceLE, Int.reduceAdd, Int.reduceSub, Int.reduceMul, Int.reduceNeg, Int.reduceToNat, Int.reduceEq]
  intro ra hFa hMa
  simp only [go_sem, reduceCtorEq, reduceIte, Nat.reduceEqDiff, Nat.reduceAdd, Nat.reduceLeDiff, Nat.reduceMul, Int.reduceLT, Int.reduceLE, Int.reduceAdd, Int.reduceSub, Int.reduceMul, Int.reduceNeg, Int.reduceToNat, Int.reduceEq]
  intro rb hFb hMb
  have gb := fresh_of hMb
  simp only [go_sem, reduceCtorEq, reduceIte, Nat.reduceEqDiff, Nat.reduceAdd, Nat.reduceLeDiff, Nat.reduceMul, Int.reduceLT, Int.reduceLE, Int.reduceAdd, Int.reduceSub, Int.reduceMul, Int.reduceNeg, Int.reduceToNat, Int.reduceEq, gb]
  intro rz hFz hMz
  have gz := fresh_of hMz
  have gz2 := fresh_of gz.2.2
  simp only [go_sem, reduceCtorEq, reduceIte, Nat.reduceEqDiff, Nat.reduceAdd, Nat.reduceLeDiff, Nat.reduceMul, Int.reduceLT, Int.reduceLE, Int.reduceAdd, Int.reduceSub, Int.reduceMul, Int.reduceNeg, Int.reduceToNat, Int.reduceEq, gb, gz, gz2]
  refine callK_same (k109 F _ a ha) ?_
  by_cases h0 : a.nextR 0 < 0
  · simp only [go_sem, reduceCtorEq, reduceIte, Nat.reduceEqDiff, Nat.reduceAdd, Nat.reduceLeDiff, Nat.reduceMul, Int.reduceLT, Int.reduceLE, Int.reduceAdd, Int.reduceSub, Int.reduceMul, Int.reduceNeg, Int.reduceToNat, Int.reduceEq, gb, gz, gz2, h0]
    refine callK_same (k143 F _ b hb) ?_
    simp only [go_sem, reduceCtorEq, reduceIte, Nat.reduceEqDiff, Nat.reduceAdd, Nat.reduceLeDiff, Nat.reduceMul, Int.reduceLT, Int.reduceLE, Int.reduceAdd, Int.reduceSub, Int.reduceMul, Int.reduceNeg, Int.reduceToNat, Int.reduceEq, gb, gz, gz2]
    exact endK_keep ((((Keep.refl M).new hMa).new gb.2.2).new gz2.2.2) ⟨rfl, rfl, _, rfl, both_void ha hb hw h0⟩
  simp only [go_sem, reduceCtorEq, reduceIte, Nat.reduceEqDiff, Nat.reduceAdd, Nat.reduceLeDiff, Nat.reduceMul, Int.reduceLT, Int.reduceLE, Int.reduceAdd, Int.reduceSub, Int.reduceMul, Int.reduceNeg, Int.reduceToNat, Int.reduceEq, gb, gz, gz2, h0]
  refine callK_same (k109 F _ b hb) ?_
  by_cases h1 : b.nextR 0 < 0
  · simp only [go_sem, reduceCtorEq, reduceIte, Nat.reduceEqDiff, Nat.reduceAdd, Nat.reduceLeDiff, Nat.reduceMul, Int.reduceLT, Int.reduceLE, Int.reduceAdd, Int.reduceSub, Int.reduceMul, Int.reduceNeg, Int.reduceToNat, Int.reduceEq, gb, gz, gz2, h1]
    refine callK_same (k143 F _ a ha) ?_
    simp only [go_sem, reduceCtorEq, reduceIte, Nat.reduceEqDiff, Nat.reduceAdd, Nat.reduceLeDiff, Nat.reduceMul, Int.reduceLT, Int.reduceLE, Int.reduceAdd, Int.reduceSub, Int.reduceMul, Int.reduceNeg, Int.reduceToNat, Int.reduceEq, gb, gz, gz2]
    exact endK_keep ((((Keep.refl M).new hMa).new gb.2.2).new gz2.2.2) ⟨rfl, rfl, _, rfl, both_void' ha hb hw h1⟩
  simp only [go_sem, reduceCtorEq, reduceIte, Nat.reduceEqDiff, Nat.reduceAdd, Nat.reduceLeDiff, Nat.reduceMul, Int.reduceLT, Int.reduceLE, Int.reduceAdd, Int.reduceSub, Int.reduceMul, Int.reduceNeg, Int.reduceToNat, Int.reduceEq, gb, gz, gz2, h1]
  by_cases hab : a = b
  · subst hab
    simp only [go_sem, reduceCtorEq, reduceIte, Nat.reduceEqDiff, Nat.reduceAdd, Nat.reduceLeDiff, Nat.reduceMul, Int.reduceLT, Int.reduceLE, Int.reduceAdd, Int.reduceSub, Int.reduceMul, Int.reduceNeg, Int.reduceToNat, Int.reduceEq, gb, gz, gz2, eq_self]
    exact endK_keep ((((Keep.refl M).new hMa).new gb.2.2).new gz2.2.2) ⟨rfl, rfl, _, rfl, both_same ha⟩
  simp only [go_sem, reduceCtorEq, reduceIte, Nat.reduceEqDiff, Nat.reduceAdd, Nat.reduceLeDiff, Nat.reduceMul, Int.reduceLT, Int.reduceLE, Int.reduceAdd, Int.reduceSub, Int.reduceMul, Int.reduceNeg, Int.reduceToNat, Int.reduceEq, gb, gz, gz2, hab]
  refine callK_same (k143 F _ a ha) ?_
  simp only [go_sem, reduceCtorEq, reduceIte, Nat.reduceEqDiff, Nat.reduceAdd, Nat.reduceLeDiff, Nat.reduceMul, Int.reduceLT, Int.reduceLE, Int.reduceAdd, Int.reduceSub, Int.reduceMul, Int.reduceNeg, Int.reduceToNat, Int.reduceEq, gb, gz, gz2]
  refine callK_same (k143 F _ b hb) ?_
  simp only [go_sem, reduceCtorEq, reduceIte, Nat.reduceEqDiff, Nat.reduceAdd, Nat.reduceLeDiff, Nat.reduceMul, Int.reduceLT, Int.reduceLE, Int.reduceAdd, Int.reduceSub, Int.reduceMul, Int.reduceNeg, Int.reduceToNat, Int.reduceEq, gb, gz, gz2]
  have ta := tidy_spec ha
  have tb := tidy_spec hb
  refine callK_of (k150 F _ a.tidy b.tidy (ok_in ta.ok) (ok_in tb.ok) (by rw [ta.w, tb.w, hw])) ?_
  rintro u G M' ⟨hG, rfl, l, h, rfl, c⟩
  rw [hG]
  refine ⟨(fun h => by cases h), ?_⟩
  have hz := both_mix ha hb hw h0 h1 c
  have em : bor .i64 (bor .i64 a.tidy.free b.tidy.free) (bxor .i64 a.tidy.bits b.tidy.bits) = a.tidy.mix b.tidy := rfl
  simp only [go_sem, reduceCtorEq, reduceIte, Nat.reduceEqDiff, Nat.reduceAdd, Nat.reduceLeDiff, Nat.reduceMul, Int.reduceLT, Int.reduceLE, Int.reduceAdd, Int.reduceSub, Int.reduceMul, Int.reduceNeg, Int.reduceToNat, Int.reduceEq, gb, gz, gz2, em]
  refine callK_same (k143 F _ _ hz.1) ?_
  simp only [go_sem, reduceCtorEq, reduceIte, Nat.reduceEqDiff, Nat.reduceAdd, Nat.reduceLeDiff, Nat.reduceMul, Int.reduceLT, Int.reduceLE, Int.reduceAdd, Int.reduceSub, Int.reduceMul, Int.reduceNeg, Int.reduceToNat, Int.reduceEq, gb, gz, gz2]
  exact endK_keep ((((Keep.refl M).new hMa).new gb.2.2).new gz2.2.2) ⟨rfl, rfl, _, rfl, hz.2⟩

end Go.Proofs.Try.K

/- Contracts: what two sets have both. -/
namespace Go.Proofs.Try.K
open Go Go.Ax Go.Proofs.Try.S
set_option maxRecDepth 100000
set_option linter.unusedSimpArgs false
set_option linter.unusedVariables false
variable (F : Fz) (M : Hp)

theorem k144 (a b : V) (ha : a.In) (hb : b.In) (hw : b.w = a.w) : CallsA Try.prog 144 [a.val, b.val] F M fun u F' M' => F' = F ∧ M' = M ∧ ∃ l h ok, u = .tuple #[.int .i64 l, .int .i64 h, .bool ok] ∧
    (ok = true ∧ CrossP a b l h ∨ ok = false ∧ ∀ n, 0 ≤ n → n ≤ mostV a.w → a.within n = true → b.within n = true → False) := by
  refine callsA_of hm Try.func144 e144 (Nat.le_of_ble_eq_true rfl) ?_
  simp only [c144, go_sem, reduceCtorEq, reduceIte, Nat.reduceEqDiff, Nat.reduceAdd, Nat.reduceLeDiff, Nat.reduceMul, Int.reduceLT, Int.reduceLE, Int.reduceAdd, Int.reduceSub, Int.reduceMul, Int.reduceNeg, Int.reduceToNat, Int.reduceEq]
  intro ra hFa hMa
  simp only [go_sem, reduceCtorEq, reduceIte, Nat.reduceEqDiff, Nat.reduceAdd, Nat.reduceLeDiff, Nat.reduceMul, Int.reduceLT, Int.reduceLE, Int.reduceAdd, Int.reduceSub, Int.reduceMul, Int.reduceNeg, Int.reduceToNat, Int.reduceEq]
  intro rb hFb hMb
  have gb := fresh_of hMb
  simp only [go_sem, reduceCtorEq, reduceIte, Nat.reduceEqDiff, Nat.reduceAdd, Nat.reduceLeDiff, Nat.reduceMul, Int.reduceLT, Int.reduceLE, Int.reduceAdd, Int.reduceSub, Int.reduceMul, Int.reduceNeg, Int.reduceToNat, Int.reduceEq, gb]
  refine callK_same (k142 F _ b a.low) ?_
  simp only [go_sem, reduceCtorEq, reduceIte, Nat.reduceEqDiff, Nat.reduceAdd, Nat.reduceLeDiff, Nat.reduceMul, Int.reduceLT, Int.reduceLE, Int.reduceAdd, Int.reduceSub, Int.reduceMul, Int.reduceNeg, Int.reduceToNat, Int.reduceEq, gb]
  refine callK_same (k142 F _ b a.high) ?_
  simp only [go_sem, reduceCtorEq, reduceIte, Nat.reduceEqDiff, Nat.reduceAdd, Nat.reduceLeDiff, Nat.reduceMul, Int.reduceLT, Int.reduceLE, Int.reduceAdd, Int.reduceSub, Int.reduceMul, Int.reduceNeg, Int.reduceToNat, Int.reduceEq, gb]
  refine callK_same (k152 F _ a b ha hb) ?_
  cases h1 : a.inside b
  rotate_left
  · simp only [go_sem, reduceCtorEq, reduceIte, Nat.reduceEqDiff, Nat.reduceAdd, Nat.reduceLeDiff, Nat.reduceMul, Int.reduceLT, Int.reduceLE, Int.reduceAdd, Int.reduceSub, Int.reduceMul, Int.reduceNeg, Int.reduceToNat, Int.reduceEq, gb]
    exact endK_keep (((Keep.refl M).new hMa).new gb.2.2) ⟨rfl, rfl, _, _, _, rfl, .inl ⟨rfl, cross_a ha hb hw h1⟩⟩
  simp only [go_sem, reduceCtorEq, reduceIte, Nat.reduceEqDiff, Nat.reduceAdd, Nat.reduceLeDiff, Nat.reduceMul, Int.reduceLT, Int.reduceLE, Int.reduceAdd, Int.reduceSub, Int.reduceMul, Int.reduceNeg, Int.reduceToNat, Int.reduceEq, gb]
  refine callK_same (k152 F _ b a hb ha) ?_
  cases h2 : b.inside a
  rotate_left
  · simp only [go_sem, reduceCtorEq, reduceIte, Nat.reduceEqDiff, Nat.reduceAdd, Nat.reduceLeDiff, Nat.reduceMul, Int.reduceLT, Int.reduceLE, Int.reduceAdd, Int.reduceSub, Int.reduceMul, Int.reduceNeg, Int.reduceToNat, Int.reduceEq, gb]
    exact endK_keep (((Keep.refl M).new hMa).new gb.2.2) ⟨rfl, rfl, _, _, _, rfl, .inl ⟨rfl, cross_b ha hb hw h2⟩⟩
  cases h3 : b.within a.low
  · cases h4 : b.within a.high
    · simp only [go_sem, reduceCtorEq, reduceIte, Nat.reduceEqDiff, Nat.reduceAdd, Nat.reduceLeDiff, Nat.reduceMul, Int.reduceLT, Int.reduceLE, Int.reduceAdd, Int.reduceSub, Int.reduceMul, Int.reduceNeg, Int.reduceToNat, Int.reduceEq, gb]
      exact endK_keep (((Keep.refl M).new hMa).new gb.2.2) ⟨rfl, rfl, _, _, _, rfl, .inr ⟨rfl, cross_f ha hb hw h2 h3 h4⟩⟩
    · simp only [go_sem, reduceCtorEq, reduceIte, Nat.reduceEqDiff, Nat.reduceAdd, Nat.reduceLeDiff, Nat.reduceMul, Int.reduceLT, Int.reduceLE, Int.reduceAdd, Int.reduceSub, Int.reduceMul, Int.reduceNeg, Int.reduceToNat, Int.reduceEq, gb]
      exact endK_keep (((Keep.refl M).new hMa).new gb.2.2) ⟨rfl, rfl, _, _, _, rfl, .inl ⟨rfl, cross_e ha hb hw h2 h3 h4⟩⟩
  · cases h4 : b.within a.high
    · simp only [go_sem, reduceCtorEq, reduceIte, Nat.reduceEqDiff, Nat.reduceAdd, Nat.reduceLeDiff, Nat.reduceMul, Int.reduceLT, Int.reduceLE, Int.reduceAdd, Int.reduceSub, Int.reduceMul, Int.reduceNeg, Int.reduceToNat, Int.reduceEq, gb]
      exact endK_keep (((Keep.refl M).new hMa).new gb.2.2) ⟨rfl, rfl, _, _, _, rfl, .inl ⟨rfl, cross_d ha hb hw h2 h3 h4⟩⟩
    · simp only [go_sem, reduceCtorEq, reduceIte, Nat.reduceEqDiff, Nat.reduceAdd, Nat.reduceLeDiff, Nat.reduceMul, Int.reduceLT, Int.reduceLE, Int.reduceAdd, Int.reduceSub, Int.reduceMul, Int.reduceNeg, Int.reduceToNat, Int.reduceEq, gb]
      exact endK_keep (((Keep.refl M).new hMa).new gb.2.2) ⟨rfl, rfl, _, _, _, rfl, .inl ⟨rfl, cross_c ha hb hw h3 h4⟩⟩

theorem k117 (a b : V) (ha : a.ok = true) (hb : b.ok = true) (hw : b.w = a.w) : CallsA Try.prog 117 [a.val, b.val] F M fun u F' M' => F' = F ∧ M' = M ∧ ∃ z, u = V.val z ∧ MeetR a b z := by
  refine callsA_of hm Try.func117 e117 (Nat.le_of_ble_eq_true rfl) ?_
  have ta := tidy_spec ha
  have tb := tidy_spec hb
  have hw' : b.tidy.w = a.tidy.w := by rw [ta.w, tb.w, hw]
  simp only [c117, go_sem, reduceCtorEq, reduceIte, Nat.reduceEqDiff, Nat.reduceAdd, Nat.reduceLeDiff, Nat.reduceMul, Int.reduceLT, Int.reduceLE, Int.reduceAdd, Int.reduceSub, Int.reduceMul, Int.reduceNeg, Int.reduceToNat, Int.reduceEq]
  intro ra hFa hMa
  simp only [go_sem, reduceCtorEq, reduceIte, Nat.reduceEqDiff, Nat.reduceAdd, Nat.reduceLeDiff, Nat.reduceMul, Int.reduceLT, Int.reduceLE, Int.reduceAdd, Int.reduceSub, Int.reduceMul, Int.reduceNeg, Int.reduceToNat, Int.reduceEq]
  intro rb hFb hMb
  have gb := fresh_of hMb
  simp only [go_sem, reduceCtorEq, reduceIte, Nat.reduceEqDiff, Nat.reduceAdd, Nat.reduceLeDiff, Nat.reduceMul, Int.reduceLT, Int.reduceLE, Int.reduceAdd, Int.reduceSub, Int.reduceMul, Int.reduceNeg, Int.reduceToNat, Int.reduceEq, gb]
  intro rz hFz hMz
  have gz := fresh_of hMz
  have gz2 := fresh_of gz.2.2
  simp only [go_sem, reduceCtorEq, reduceIte, Nat.reduceEqDiff, Nat.reduceAdd, Nat.reduceLeDiff, Nat.reduceMul, Int.reduceLT, Int.reduceLE, Int.reduceAdd, Int.reduceSub, Int.reduceMul, Int.reduceNeg, Int.reduceToNat, Int.reduceEq, gb, gz, gz2]
  refine callK_same (k143 F _ a ha) ?_
  simp only [go_sem, reduceCtorEq, reduceIte, Nat.reduceEqDiff, Nat.reduceAdd, Nat.reduceLeDiff, Nat.reduceMul, Int.reduceLT, Int.reduceLE, Int.reduceAdd, Int.reduceSub, Int.reduceMul, Int.reduceNeg, Int.reduceToNat, Int.reduceEq, gb, gz, gz2]
  refine callK_same (k143 F _ b hb) ?_
  simp only [go_sem, reduceCtorEq, reduceIte, Nat.reduceEqDiff, Nat.reduceAdd, Nat.reduceLeDiff, Nat.reduceMul, Int.reduceLT, Int.reduceLE, Int.reduceAdd, Int.reduceSub, Int.reduceMul, Int.reduceNeg, Int.reduceToNat, Int.reduceEq, gb, gz, gz2]
  cases na : a.tidy.no
  rotate_left
  · simp only [go_sem, reduceCtorEq, reduceIte, Nat.reduceEqDiff, Nat.reduceAdd, Nat.reduceLeDiff, Nat.reduceMul, Int.reduceLT, Int.reduceLE, Int.reduceAdd, Int.reduceSub, Int.reduceMul, Int.reduceNeg, Int.reduceToNat, Int.reduceEq, gb, gz, gz2]
    refine callK_same (k115 F _ a.tidy.w) ?_
    simp only [go_sem, reduceCtorEq, reduceIte, Nat.reduceEqDiff, Nat.reduceAdd, Nat.reduceLeDiff, Nat.reduceMul, Int.reduceLT, Int.reduceLE, Int.reduceAdd, Int.reduceSub, Int.reduceMul, Int.reduceNeg, Int.reduceToNat, Int.reduceEq, gb, gz, gz2]
    exact endK_keep ((((Keep.refl M).new hMa).new gb.2.2).new gz2.2.2) ⟨rfl, rfl, _, rfl, meet_of ha hb ta tb hw (meet_nothing ta.ok fun n _ _ q _ => by rw [(has_split.1 q).1] at na; cases na)⟩
  simp only [go_sem, reduceCtorEq, reduceIte, Nat.reduceEqDiff, Nat.reduceAdd, Nat.reduceLeDiff, Nat.reduceMul, Int.reduceLT, Int.reduceLE, Int.reduceAdd, Int.reduceSub, Int.reduceMul, Int.reduceNeg, Int.reduceToNat, Int.reduceEq, gb, gz, gz2]
  cases nb : b.tidy.no
  rotate_left
  · simp only [go_sem, reduceCtorEq, reduceIte, Nat.reduceEqDiff, Nat.reduceAdd, Nat.reduceLeDiff, Nat.reduceMul, Int.reduceLT, Int.reduceLE, Int.reduceAdd, Int.reduceSub, Int.reduceMul, Int.reduceNeg, Int.reduceToNat, Int.reduceEq, gb, gz, gz2]
    refine callK_same (k115 F _ a.tidy.w) ?_
    simp only [go_sem, reduceCtorEq, reduceIte, Nat.reduceEqDiff, Nat.reduceAdd, Nat.reduceLeDiff, Nat.reduceMul, Int.reduceLT, Int.reduceLE, Int.reduceAdd, Int.reduceSub, Int.reduceMul, Int.reduceNeg, Int.reduceToNat, Int.reduceEq, gb, gz, gz2]
    exact endK_keep ((((Keep.refl M).new hMa).new gb.2.2).new gz2.2.2) ⟨rfl, rfl, _, rfl, meet_of ha hb ta tb hw (meet_nothing ta.ok fun n _ _ _ q => by rw [(has_split.1 q).1] at nb; cases nb)⟩
  simp only [go_sem, reduceCtorEq, reduceIte, Nat.reduceEqDiff, Nat.reduceAdd, Nat.reduceLeDiff, Nat.reduceMul, Int.reduceLT, Int.reduceLE, Int.reduceAdd, Int.reduceSub, Int.reduceMul, Int.reduceNeg, Int.reduceToNat, Int.reduceEq, gb, gz, gz2]
  by_cases hc : bclr .i64 (bxor .i64 a.tidy.bits b.tidy.bits) (bor .i64 a.tidy.free b.tidy.free) = 0
  rotate_left
  · simp only [go_sem, reduceCtorEq, reduceIte, Nat.reduceEqDiff, Nat.reduceAdd, Nat.reduceLeDiff, Nat.reduceMul, Int.reduceLT, Int.reduceLE, Int.reduceAdd, Int.reduceSub, Int.reduceMul, Int.reduceNeg, Int.reduceToNat, Int.reduceEq, gb, gz, gz2, hc]
    refine callK_same (k115 F _ a.tidy.w) ?_
    simp only [go_sem, reduceCtorEq, reduceIte, Nat.reduceEqDiff, Nat.reduceAdd, Nat.reduceLeDiff, Nat.reduceMul, Int.reduceLT, Int.reduceLE, Int.reduceAdd, Int.reduceSub, Int.reduceMul, Int.reduceNeg, Int.reduceToNat, Int.reduceEq, gb, gz, gz2]
    exact endK_keep ((((Keep.refl M).new hMa).new gb.2.2).new gz2.2.2) ⟨rfl, rfl, _, rfl, meet_of ha hb ta tb hw (meet_nothing ta.ok fun n q0 q1 q2 q3 => hc (meet_masks ta.ok tb.ok hw' na nb q0 q1 q2 q3))⟩
  simp only [go_sem, reduceCtorEq, reduceIte, Nat.reduceEqDiff, Nat.reduceAdd, Nat.reduceLeDiff, Nat.reduceMul, Int.reduceLT, Int.reduceLE, Int.reduceAdd, Int.reduceSub, Int.reduceMul, Int.reduceNeg, Int.reduceToNat, Int.reduceEq, gb, gz, gz2, hc]
  refine callK_of (k144 F _ a.tidy b.tidy (ok_in ta.ok) (ok_in tb.ok) hw') ?_
  rintro u G M' ⟨hG, rfl, l, h, ok, rfl, ⟨rfl, c⟩ | ⟨rfl, c⟩⟩ <;> rw [hG] <;> refine ⟨(fun h => by cases h), ?_⟩
  · have hz := meet_fin ta.ok hb (hw.trans ta.w.symm) na nb (fun h => tidy_low h) hc c
    simp only [go_sem, reduceCtorEq, reduceIte, Nat.reduceEqDiff, Nat.reduceAdd, Nat.reduceLeDiff, Nat.reduceMul, Int.reduceLT, Int.reduceLE, Int.reduceAdd, Int.reduceSub, Int.reduceMul, Int.reduceNeg, Int.reduceToNat, Int.reduceEq, gb, gz, gz2]
    refine callK_same (k143 F _ _ hz.1) ?_
    simp only [go_sem, reduceCtorEq, reduceIte, Nat.reduceEqDiff, Nat.reduceAdd, Nat.reduceLeDiff, Nat.reduceMul, Int.reduceLT, Int.reduceLE, Int.reduceAdd, Int.reduceSub, Int.reduceMul, Int.reduceNeg, Int.reduceToNat, Int.reduceEq, gb, gz, gz2]
    exact endK_keep ((((Keep.refl M).new hMa).new gb.2.2).new gz2.2.2) ⟨rfl, rfl, _, rfl, meet_of ha hb ta tb hw hz.2⟩
  · simp only [go_sem, reduceCtorEq, reduceIte, Nat.reduceEqDiff, Nat.reduceAdd, Nat.reduceLeDiff, Nat.reduceMul, Int.reduceLT, Int.reduceLE, Int.reduceAdd, Int.reduceSub, Int.reduceMul, Int.reduceNeg, Int.reduceToNat, Int.reduceEq, gb, gz, gz2]
    refine callK_same (k115 F _ a.tidy.w) ?_
    simp only [go_sem, reduceCtorEq, reduceIte, Nat.reduceEqDiff, Nat.reduceAdd, Nat.reduceLeDiff, Nat.reduceMul, Int.reduceLT, Int.reduceLE, Int.reduceAdd, Int.reduceSub, Int.reduceMul, Int.reduceNeg, Int.reduceToNat, Int.reduceEq, gb, gz, gz2]
    exact endK_keep ((((Keep.refl M).new hMa).new gb.2.2).new gz2.2.2) ⟨rfl, rfl, _, rfl, meet_of ha hb ta tb hw (meet_nothing ta.ok fun n q0 q1 q2 q3 => c n q0 q1 (has_split.1 q2).2.2 (has_split.1 q3).2.2)⟩

end Go.Proofs.Try.K
