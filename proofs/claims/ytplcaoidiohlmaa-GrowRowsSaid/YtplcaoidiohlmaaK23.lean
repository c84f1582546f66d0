/- Contracts: growing by a row. -/
import Derived.Test.YtplcaoidiohlmaaK22
namespace Go.Proofs.Try.K
open Go Go.Ax Go.Proofs.Try.S
set_option maxRecDepth 100000
set_option linter.unusedSimpArgs false
set_option linter.unusedVariables false
variable (F : Fz) (M : Hp)

theorem blk_ne {F : Fz} {M : Hp} {b r : Nat} {c : List Value} (h : blk F M b = some c) (hF : F r = none) (hM : M r = none) : ¬ b = r := by
  rintro rfl; simp [blk, hM, hF] at h
def roI (v0 : V) (l : List V) (F0 : Fz) (M0 : Hp) (r2 r4 b cap : Nat) (ad : Option Addr) (cs : List Value) (m : Nat) (σ : Env) (F : Fz) (M : Hp) : Prop :=
  F = F0 ∧ Keep M0 M ∧ M0 r4 = none ∧ M0 r2 = none ∧ ¬ r2 = r4 ∧ ¬ b = r4 ∧ blk F0 M b = some cs ∧ M r2 = some ⟨V.zero.cs, 28, 6⟩ ∧
  Ax.look σ 2 = some (.pointer (some ⟨r2, 0, none⟩)) ∧ Ax.look σ 4 = some (.pointer (some ⟨r4, 0, none⟩)) ∧ Ax.look σ 13 = some (.slice ad l.length cap) ∧ Ax.look σ 14 = some (.int .i64 l.length) ∧
  ∃ (i n : Nat) (v : V), i + m = l.length ∧ Ax.look σ 15 = some (.int .i64 i) ∧ Ax.look σ 5 = some (.int .i64 n) ∧ M r4 = some ⟨v.cs, 28, 6⟩ ∧ v.ok = true ∧ v.w = v0.w ∧ n ≤ i ∧
    v0.rows l = ((v.rows (l.drop i)).1, n + (v.rows (l.drop i)).2)
theorem k62 (v0 : V) (l : List V) (u : Value) (h : RdV F M u (v0 :: l)) (h0 : v0.ok = true) (hl : ∀ x ∈ l, x.ok = true ∧ x.w = v0.w) :
    CallsA Try.prog 62 [u] F M (Same F M (.tuple #[(v0.rows l).1.val, .int .i64 (v0.rows l).2])) := by
  refine callsA_of hm Try.func62 e62 (Nat.le_of_ble_eq_true rfl) ?_
  obtain ⟨hle, ad, cap, hlc, rfl, h⟩ := h
  rcases h with h | ⟨b, o, cs, rfl, hb, hc⟩
  · cases h
  obtain ⟨d1, d2⟩ := hc 0 (by simp)
  simp only [List.getElem_cons_zero, Nat.zero_mul, Nat.add_zero] at d1 d2
  have hlc' : l.length + 1 ≤ cap := hlc
  have hn1 : (1 : Int) ≤ (l.length : Int) + 1 := by omega
  have hnl : l.length + 1 - 1 = l.length := rfl
  have hle' : l.length + 1 ≤ 4611686018427387904 := hle
  have hn : (0 : Int) < (l.length : Int) + 1 := by omega
  simp only [c62, go_sem, reduceCtorEq, reduceIte, Nat.reduceEqDiff, Nat.reduceAdd, Nat.reduceLeDiff, Nat.reduceMul, Int.reduceLT, Int.reduceLE, Int.reduceAdd, Int.reduceSub, Int.reduceMul, Int.reduceNeg, Int.reduceToNat, Int.reduceEq]
  intro r2 hF2 hM2
  have b2 := blk_ne hb hF2 hM2
  simp only [go_sem, reduceCtorEq, reduceIte, Nat.reduceEqDiff, Nat.reduceAdd, Nat.reduceLeDiff, Nat.reduceMul, Int.reduceLT, Int.reduceLE, Int.reduceAdd, Int.reduceSub, Int.reduceMul, Int.reduceNeg, Int.reduceToNat, Int.reduceEq, b2, hb, List.length_cons, Int.natCast_succ, hn, d1, d2, Nat.zero_mul, Nat.add_zero]
  intro r4 hF4 hM4
  have g4 := fresh_of hM4
  have b4 := blk_ne hb hF4 g4.2.2
  simp only [go_sem, reduceCtorEq, reduceIte, Nat.reduceEqDiff, Nat.reduceAdd, Nat.reduceLeDiff, Nat.reduceMul, Int.reduceLT, Int.reduceLE, Int.reduceAdd, Int.reduceSub, Int.reduceMul, Int.reduceNeg, Int.reduceToNat, Int.reduceEq, g4, b2, b4, hb, hn1, List.length_cons, Int.natCast_succ, hnl]
  have had : l = [] ∨ (if (cap : Int) = 1 then some (⟨b, o, none⟩ : Addr) else some ⟨b, o + 6, none⟩) = some ⟨b, o + 6, none⟩ := by
    by_cases hc1 : (cap : Int) = 1
    · exact .inl (List.length_eq_zero_iff.1 (by omega))
    · exact .inr (if_neg hc1)
  generalize (if (cap : Int) = 1 then some (⟨b, o, none⟩ : Addr) else some ⟨b, o + 6, none⟩) = ad at *
  refine loop_of (roI v0 l F M r2 r4 b (cap - 1) ad cs) l.length ?_ ?_
  · refine ⟨rfl, ((Keep.refl M).new hM2).new g4.2.2, g4.2.2, hM2, g4.2.1, b4, ?_, ?_, by simp only [go_sem, reduceCtorEq, reduceIte, Nat.reduceEqDiff, Nat.reduceAdd, Nat.reduceLeDiff, Nat.reduceMul, Int.reduceLT, Int.reduceLE, Int.reduceAdd, Int.reduceSub, Int.reduceMul, Int.reduceNeg, Int.reduceToNat, Int.reduceEq], by simp only [go_sem, reduceCtorEq, reduceIte, Nat.reduceEqDiff, Nat.reduceAdd, Nat.reduceLeDiff, Nat.reduceMul, Int.reduceLT, Int.reduceLE, Int.reduceAdd, Int.reduceSub, Int.reduceMul, Int.reduceNeg, Int.reduceToNat, Int.reduceEq], by simp only [go_sem, reduceCtorEq, reduceIte, Nat.reduceEqDiff, Nat.reduceAdd, Nat.reduceLeDiff, Nat.reduceMul, Int.reduceLT, Int.reduceLE, Int.reduceAdd, Int.reduceSub, Int.reduceMul, Int.reduceNeg, Int.reduceToNat, Int.reduceEq], by simp only [go_sem, reduceCtorEq, reduceIte, Nat.reduceEqDiff, Nat.reduceAdd, Nat.reduceLeDiff, Nat.reduceMul, Int.reduceLT, Int.reduceLE, Int.reduceAdd, Int.reduceSub, Int.reduceMul, Int.reduceNeg, Int.reduceToNat, Int.reduceEq], 0, 0, v0, by omega, by simp only [go_sem, reduceCtorEq, reduceIte, Nat.reduceEqDiff, Nat.reduceAdd, Nat.reduceLeDiff, Nat.reduceMul, Int.reduceLT, Int.reduceLE, Int.reduceAdd, Int.reduceSub, Int.reduceMul, Int.reduceNeg, Int.reduceToNat, Int.reduceEq] <;> rfl, by simp only [go_sem, reduceCtorEq, reduceIte, Nat.reduceEqDiff, Nat.reduceAdd, Nat.reduceLeDiff, Nat.reduceMul, Int.reduceLT, Int.reduceLE, Int.reduceAdd, Int.reduceSub, Int.reduceMul, Int.reduceNeg, Int.reduceToNat, Int.reduceEq] <;> rfl, Hp.upd_same _ _ _, h0, rfl, by omega, by simp⟩
    · rw [blk_upd_ne b4, blk_upd_ne b2]; exact hb
    · rw [Hp.upd_ne' g4.2.1]; exact Hp.upd_same _ _ _
  clear b2 b4 g4 hM4 hM2 hF2 hF4 hb
  rintro m σ F' M' ⟨rfl, kp, n4, n2, n24, nb4, hb, f2, q2, q4, q13, q14, i, n, v, hi, q15, q5, f4, hv, hvw, hni, hrow⟩
  have b4 := blk_M (F := F') f4
  by_cases hil : (i : Int) < l.length
  · have hi0 : (0 : Int) ≤ i := by omega
    have hil' : i < l.length := by omega
    have ei : IntKind.i64.wrap ((i : Int) + 1) = i + 1 := w64 (by omega) (by omega)
    have en : IntKind.i64.wrap ((n : Int) + 1) = n + 1 := w64 (by omega) (by omega)
    rcases had with had | rfl
    · rw [had] at hil'; simp at hil'
    obtain ⟨d1, d2⟩ := hc (i + 1) (by simpa using hil')
    simp only [List.getElem_cons_succ] at d2
    have d3 : o + 6 + i * 6 + 6 ≤ cs.length := by omega
    have d4 : o + 6 + i * 6 = o + (i + 1) * 6 := by omega
    rw [← d4] at d2
    obtain ⟨ox, wx⟩ := hl l[i] (List.getElem_mem _)
    rw [List.drop_eq_getElem_cons hil', V.rows] at hrow
    have os := out_spec hv ox (by rw [wx, hvw])
    generalize l[i] = x at *
    simp only [go_sem, reduceCtorEq, reduceIte, Nat.reduceEqDiff, Nat.reduceAdd, Nat.reduceLeDiff, Nat.reduceMul, Int.reduceLT, Int.reduceLE, Int.reduceAdd, Int.reduceSub, Int.reduceMul, Int.reduceNeg, Int.reduceToNat, Int.reduceEq, q2, q4, q13, q14, q15, q5, hil, hi0, Int.toNat_natCast, hb, d3, d2]
    intro r7 hF7 hM7
    have g7 := ne_of_none hM7 f4
    have b7 := blk_ne hb hF7 hM7
    simp only [go_sem, reduceCtorEq, reduceIte, Nat.reduceEqDiff, Nat.reduceAdd, Nat.reduceLeDiff, Nat.reduceMul, Int.reduceLT, Int.reduceLE, Int.reduceAdd, Int.reduceSub, Int.reduceMul, Int.reduceNeg, Int.reduceToNat, Int.reduceEq, q2, q4, q13, q14, q15, q5, g7, b4, f4]
    refine callK_same (k59 F' _ v x hv ox) ?_
    simp only [go_sem, reduceCtorEq, reduceIte, Nat.reduceEqDiff, Nat.reduceAdd, Nat.reduceLeDiff, Nat.reduceMul, Int.reduceLT, Int.reduceLE, Int.reduceAdd, Int.reduceSub, Int.reduceMul, Int.reduceNeg, Int.reduceToNat, Int.reduceEq, q2, q4, q13, q14, q15, q5, g7, b4, f4]
    intro r8 hF8 hM8
    have g8 := fresh_of hM8
    have g84 := ne_of_none g8.2.2 f4
    have b8 := blk_ne hb hF8 g8.2.2
    have next : ∀ σ (n' : Nat), Ax.look σ 2 = some (.pointer (some ⟨r2, 0, none⟩)) → Ax.look σ 4 = some (.pointer (some ⟨r4, 0, none⟩)) → Ax.look σ 13 = some (.slice (some ⟨b, o + 6, none⟩) l.length (cap - 1)) → Ax.look σ 14 = some (.int .i64 l.length) →
        Ax.look σ 15 = some (.int .i64 (i + 1)) → Ax.look σ 5 = some (.int .i64 n') → n' = n + (if v.out x = v then 0 else 1) →
        ∃ k, k < m ∧ roI v0 l F' M r2 r4 b (cap - 1) (some ⟨b, o + 6, none⟩) cs k σ F' (((M'.upd r4 ⟨(v.out x).cs, 28, 6⟩).upd r7 ⟨x.cs, 28, 6⟩).upd r8 ⟨(v.out x).cs, 28, 6⟩) := by
      intro σ n' p1 p2 p3 p4 p5 p6 p7
      refine ⟨m - 1, by omega, rfl, ((kp.new n4).new (kp.free hM7)).new (kp.free g8.2.2), n4, n2, n24, nb4, ?_, ?_, p1, p2, p3, p4, i + 1, n', v.out x, by omega, p5, p6, by rw [Hp.upd_ne' g84.1, Hp.upd_ne' g7.1]; exact Hp.upd_same _ _ _, os.ok, by rw [os.w, hvw], ?_, ?_⟩
      · rw [blk_upd_ne b8, blk_upd_ne b7, blk_upd_ne nb4]; exact hb
      · rw [Hp.upd_ne' (ne_of_none g8.2.2 f2).1, Hp.upd_ne' (ne_of_none hM7 f2).1, Hp.upd_ne' n24]; exact f2
      · rw [p7]; split <;> omega
      · rw [hrow, p7, Nat.add_assoc]
    cases e : decide (v.out x = v)
    · simp only [go_sem, reduceCtorEq, reduceIte, Nat.reduceEqDiff, Nat.reduceAdd, Nat.reduceLeDiff, Nat.reduceMul, Int.reduceLT, Int.reduceLE, Int.reduceAdd, Int.reduceSub, Int.reduceMul, Int.reduceNeg, Int.reduceToNat, Int.reduceEq, q2, q4, q13, q14, q15, q5, g7, g8, g84, b4, f4, en, ei, e]
      simp only [setH, go_sem, reduceCtorEq, reduceIte, Nat.reduceEqDiff, Nat.reduceAdd, Nat.reduceLeDiff, Nat.reduceMul, Int.reduceLT, Int.reduceLE, Int.reduceAdd, Int.reduceSub, Int.reduceMul, Int.reduceNeg, Int.reduceToNat, Int.reduceEq]
      refine next _ (n + 1) (by simp only [go_sem, reduceCtorEq, reduceIte, Nat.reduceEqDiff, Nat.reduceAdd, Nat.reduceLeDiff, Nat.reduceMul, Int.reduceLT, Int.reduceLE, Int.reduceAdd, Int.reduceSub, Int.reduceMul, Int.reduceNeg, Int.reduceToNat, Int.reduceEq, q2]) (by simp only [go_sem, reduceCtorEq, reduceIte, Nat.reduceEqDiff, Nat.reduceAdd, Nat.reduceLeDiff, Nat.reduceMul, Int.reduceLT, Int.reduceLE, Int.reduceAdd, Int.reduceSub, Int.reduceMul, Int.reduceNeg, Int.reduceToNat, Int.reduceEq, q4]) (by simp only [go_sem, reduceCtorEq, reduceIte, Nat.reduceEqDiff, Nat.reduceAdd, Nat.reduceLeDiff, Nat.reduceMul, Int.reduceLT, Int.reduceLE, Int.reduceAdd, Int.reduceSub, Int.reduceMul, Int.reduceNeg, Int.reduceToNat, Int.reduceEq, q13]) (by simp only [go_sem, reduceCtorEq, reduceIte, Nat.reduceEqDiff, Nat.reduceAdd, Nat.reduceLeDiff, Nat.reduceMul, Int.reduceLT, Int.reduceLE, Int.reduceAdd, Int.reduceSub, Int.reduceMul, Int.reduceNeg, Int.reduceToNat, Int.reduceEq, q14]) (by simp only [go_sem, reduceCtorEq, reduceIte, Nat.reduceEqDiff, Nat.reduceAdd, Nat.reduceLeDiff, Nat.reduceMul, Int.reduceLT, Int.reduceLE, Int.reduceAdd, Int.reduceSub, Int.reduceMul, Int.reduceNeg, Int.reduceToNat, Int.reduceEq]) (by simp only [go_sem, reduceCtorEq, reduceIte, Nat.reduceEqDiff, Nat.reduceAdd, Nat.reduceLeDiff, Nat.reduceMul, Int.reduceLT, Int.reduceLE, Int.reduceAdd, Int.reduceSub, Int.reduceMul, Int.reduceNeg, Int.reduceToNat, Int.reduceEq]; rfl) (by rw [if_neg (of_decide_eq_false e)])
    · simp only [go_sem, reduceCtorEq, reduceIte, Nat.reduceEqDiff, Nat.reduceAdd, Nat.reduceLeDiff, Nat.reduceMul, Int.reduceLT, Int.reduceLE, Int.reduceAdd, Int.reduceSub, Int.reduceMul, Int.reduceNeg, Int.reduceToNat, Int.reduceEq, q2, q4, q13, q14, q15, q5, g7, g8, g84, b4, f4, en, ei, e]
      simp only [setH, go_sem, reduceCtorEq, reduceIte, Nat.reduceEqDiff, Nat.reduceAdd, Nat.reduceLeDiff, Nat.reduceMul, Int.reduceLT, Int.reduceLE, Int.reduceAdd, Int.reduceSub, Int.reduceMul, Int.reduceNeg, Int.reduceToNat, Int.reduceEq]
      refine next _ n (by simp only [go_sem, reduceCtorEq, reduceIte, Nat.reduceEqDiff, Nat.reduceAdd, Nat.reduceLeDiff, Nat.reduceMul, Int.reduceLT, Int.reduceLE, Int.reduceAdd, Int.reduceSub, Int.reduceMul, Int.reduceNeg, Int.reduceToNat, Int.reduceEq, q2]) (by simp only [go_sem, reduceCtorEq, reduceIte, Nat.reduceEqDiff, Nat.reduceAdd, Nat.reduceLeDiff, Nat.reduceMul, Int.reduceLT, Int.reduceLE, Int.reduceAdd, Int.reduceSub, Int.reduceMul, Int.reduceNeg, Int.reduceToNat, Int.reduceEq, q4]) (by simp only [go_sem, reduceCtorEq, reduceIte, Nat.reduceEqDiff, Nat.reduceAdd, Nat.reduceLeDiff, Nat.reduceMul, Int.reduceLT, Int.reduceLE, Int.reduceAdd, Int.reduceSub, Int.reduceMul, Int.reduceNeg, Int.reduceToNat, Int.reduceEq, q13]) (by simp only [go_sem, reduceCtorEq, reduceIte, Nat.reduceEqDiff, Nat.reduceAdd, Nat.reduceLeDiff, Nat.reduceMul, Int.reduceLT, Int.reduceLE, Int.reduceAdd, Int.reduceSub, Int.reduceMul, Int.reduceNeg, Int.reduceToNat, Int.reduceEq, q14]) (by simp only [go_sem, reduceCtorEq, reduceIte, Nat.reduceEqDiff, Nat.reduceAdd, Nat.reduceLeDiff, Nat.reduceMul, Int.reduceLT, Int.reduceLE, Int.reduceAdd, Int.reduceSub, Int.reduceMul, Int.reduceNeg, Int.reduceToNat, Int.reduceEq]) (by simp only [go_sem, reduceCtorEq, reduceIte, Nat.reduceEqDiff, Nat.reduceAdd, Nat.reduceLeDiff, Nat.reduceMul, Int.reduceLT, Int.reduceLE, Int.reduceAdd, Int.reduceSub, Int.reduceMul, Int.reduceNeg, Int.reduceToNat, Int.reduceEq, q5]) (by rw [if_pos (of_decide_eq_true e)]; rfl)
  · have : l.drop i = [] := List.drop_eq_nil_of_le (by omega)
    rw [this] at hrow
    simp only [V.rows] at hrow
    simp only [go_sem, reduceCtorEq, reduceIte, Nat.reduceEqDiff, Nat.reduceAdd, Nat.reduceLeDiff, Nat.reduceMul, Int.reduceLT, Int.reduceLE, Int.reduceAdd, Int.reduceSub, Int.reduceMul, Int.reduceNeg, Int.reduceToNat, Int.reduceEq, q2, q4, q13, q14, q15, q5, hil, b4, f2]
    simp only [setH, go_sem, reduceCtorEq, reduceIte, Nat.reduceEqDiff, Nat.reduceAdd, Nat.reduceLeDiff, Nat.reduceMul, Int.reduceLT, Int.reduceLE, Int.reduceAdd, Int.reduceSub, Int.reduceMul, Int.reduceNeg, Int.reduceToNat, Int.reduceEq]
    exact endK_keep (M := M) (kp.new n2) ⟨by rw [hrow]; rfl, rfl, rfl⟩
end Go.Proofs.Try.K
