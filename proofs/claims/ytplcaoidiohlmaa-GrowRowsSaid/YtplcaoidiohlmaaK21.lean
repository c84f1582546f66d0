/- Contracts: growing. -/
import Derived.Test.YtplcaoidiohlmaaK20
namespace Go.Proofs.Try.K
open Go Go.Ax Go.Proofs.Try.S
set_option maxRecDepth 100000
set_option linter.unusedSimpArgs false
set_option linter.unusedVariables false
variable (F : Fz) (M : Hp)

def ouI (a b : V) (l : List V) (F0 : Fz) (M0 : Hp) (ra rb rz g cap : Nat) (m : Nat) (σ : Env) (F : Fz) (M : Hp) : Prop :=
  F = F0 ∧ Keep M0 M ∧ M0 rz = none ∧ M ra = some ⟨a.cs, 28, 6⟩ ∧ M rb = some ⟨b.cs, 28, 6⟩ ∧ M rz = some ⟨V.zero.cs, 28, 6⟩ ∧ blk F0 M g = some (l.flatMap V.cs) ∧ M g ≠ none ∧
  Ax.look σ 2 = some (.pointer (some ⟨ra, 0, none⟩)) ∧ Ax.look σ 3 = some (.pointer (some ⟨rb, 0, none⟩)) ∧ Ax.look σ 4 = some (.pointer (some ⟨rz, 0, none⟩)) ∧
  Ax.look σ 18 = some (.slice (some ⟨g, 0, none⟩) l.length cap) ∧ Ax.look σ 19 = some (.int .i64 l.length) ∧
  ∃ i : Nat, i + m = l.length ∧ Ax.look σ 20 = some (.int .i64 i) ∧ (l.find? (fun x => a.under x && b.under x) = (l.drop i).find? (fun x => a.under x && b.under x))
theorem steps_few {w : Int} (h : isW w = true) : (growSteps w).length ≤ 13 := by
  rcases isW_cases h with rfl | rfl | rfl <;> decide +kernel
theorem k59 (a b : V) (ha : a.ok = true) (hb : b.ok = true) : CallsA Try.prog 59 [a.val, b.val] F M (Same F M (a.out b).val) := by
  refine callsA_of hm Try.func59 e59 (Nat.le_of_ble_eq_true rfl) ?_
  have la := isW_le (ok_in ha).w
  have isw := (ok_in ha).w
  simp only [c59, go_sem, reduceCtorEq, reduceIte, Nat.reduceEqDiff, Nat.reduceAdd, Nat.reduceLeDiff, Nat.reduceMul, Int.reduceLT, Int.reduceLE, Int.reduceAdd, Int.reduceSub, Int.reduceMul, Int.reduceNeg, Int.reduceToNat, Int.reduceEq]
  intro ra hFa hMa
  simp only [go_sem, reduceCtorEq, reduceIte, Nat.reduceEqDiff, Nat.reduceAdd, Nat.reduceLeDiff, Nat.reduceMul, Int.reduceLT, Int.reduceLE, Int.reduceAdd, Int.reduceSub, Int.reduceMul, Int.reduceNeg, Int.reduceToNat, Int.reduceEq]
  intro rb hFb hMb
  have gb := fresh_of hMb
  simp only [go_sem, reduceCtorEq, reduceIte, Nat.reduceEqDiff, Nat.reduceAdd, Nat.reduceLeDiff, Nat.reduceMul, Int.reduceLT, Int.reduceLE, Int.reduceAdd, Int.reduceSub, Int.reduceMul, Int.reduceNeg, Int.reduceToNat, Int.reduceEq, gb]
  intro rz hFz hMz
  have gz := fresh_of hMz
  have gz2 := fresh_of gz.2.2
  have kp : Keep M (((M.upd ra ⟨a.cs, 28, 6⟩).upd rb ⟨b.cs, 28, 6⟩).upd rz ⟨V.zero.cs, 28, 6⟩) := (((Keep.refl M).new hMa).new gb.2.2).new gz2.2.2
  have kz : ∀ e, Keep M (((M.upd ra ⟨a.cs, 28, 6⟩).upd rb ⟨b.cs, 28, 6⟩).upd rz e) := fun e => (((Keep.refl M).new hMa).new gb.2.2).new gz2.2.2
  simp only [go_sem, reduceCtorEq, reduceIte, Nat.reduceEqDiff, Nat.reduceAdd, Nat.reduceLeDiff, Nat.reduceMul, Int.reduceLT, Int.reduceLE, Int.reduceAdd, Int.reduceSub, Int.reduceMul, Int.reduceNeg, Int.reduceToNat, Int.reduceEq, gb, gz, gz2]
  refine callK_same (k61 F _ b a hb ha) ?_
  cases h1 : b.under a
  rotate_left
  · simp only [go_sem, reduceCtorEq, reduceIte, Nat.reduceEqDiff, Nat.reduceAdd, Nat.reduceLeDiff, Nat.reduceMul, Int.reduceLT, Int.reduceLE, Int.reduceAdd, Int.reduceSub, Int.reduceMul, Int.reduceNeg, Int.reduceToNat, Int.reduceEq, gb, gz, gz2]
    exact endK_keep (kz _) ⟨by rw [V.out, if_pos h1], rfl, rfl⟩
  simp only [go_sem, reduceCtorEq, reduceIte, Nat.reduceEqDiff, Nat.reduceAdd, Nat.reduceLeDiff, Nat.reduceMul, Int.reduceLT, Int.reduceLE, Int.reduceAdd, Int.reduceSub, Int.reduceMul, Int.reduceNeg, Int.reduceToNat, Int.reduceEq, gb, gz, gz2]
  refine callK_same (k55 F _ a ha) ?_
  by_cases h2 : a.nextR 0 < 0
  · simp only [go_sem, reduceCtorEq, reduceIte, Nat.reduceEqDiff, Nat.reduceAdd, Nat.reduceLeDiff, Nat.reduceMul, Int.reduceLT, Int.reduceLE, Int.reduceAdd, Int.reduceSub, Int.reduceMul, Int.reduceNeg, Int.reduceToNat, Int.reduceEq, gb, gz, gz2, h2]
    exact endK_keep (kz _) ⟨by rw [V.out, if_neg (by simp [h1]), if_pos h2], rfl, rfl⟩
  simp only [go_sem, reduceCtorEq, reduceIte, Nat.reduceEqDiff, Nat.reduceAdd, Nat.reduceLeDiff, Nat.reduceMul, Int.reduceLT, Int.reduceLE, Int.reduceAdd, Int.reduceSub, Int.reduceMul, Int.reduceNeg, Int.reduceToNat, Int.reduceEq, gb, gz, gz2, h2]
  have eo : a.out b = ((growSteps a.w).find? fun x => a.under x && b.under x).getD (V.whole a.w) := by rw [V.out, if_neg (by simp [h1]), if_neg h2]
  refine callK_of (k74 F _ a.w isw) ?_
  rintro u G M' ⟨hG, g, cap, hFg, hMg, rfl, rfl⟩
  rw [hG]
  refine ⟨(fun h => by cases h), ?_⟩
  have g1 := fresh_of hMg
  have g2 := fresh_of g1.2.2
  have g3 := fresh_of g2.2.2
  have hlen := steps_few isw
  have hok := steps_ok isw
  rw [eo]
  clear eo
  generalize growSteps a.w = l at *
  simp only [go_sem, reduceCtorEq, reduceIte, Nat.reduceEqDiff, Nat.reduceAdd, Nat.reduceLeDiff, Nat.reduceMul, Int.reduceLT, Int.reduceLE, Int.reduceAdd, Int.reduceSub, Int.reduceMul, Int.reduceNeg, Int.reduceToNat, Int.reduceEq, gb, gz, gz2]
  refine loop_of (ouI a b l F M ra rb rz g cap) l.length ?_ ?_
  · refine ⟨rfl, kp.new (kp.free hMg), gz2.2.2, ?_, ?_, ?_, blk_upd_same, ?_, by simp only [go_sem, reduceCtorEq, reduceIte, Nat.reduceEqDiff, Nat.reduceAdd, Nat.reduceLeDiff, Nat.reduceMul, Int.reduceLT, Int.reduceLE, Int.reduceAdd, Int.reduceSub, Int.reduceMul, Int.reduceNeg, Int.reduceToNat, Int.reduceEq], by simp only [go_sem, reduceCtorEq, reduceIte, Nat.reduceEqDiff, Nat.reduceAdd, Nat.reduceLeDiff, Nat.reduceMul, Int.reduceLT, Int.reduceLE, Int.reduceAdd, Int.reduceSub, Int.reduceMul, Int.reduceNeg, Int.reduceToNat, Int.reduceEq], by simp only [go_sem, reduceCtorEq, reduceIte, Nat.reduceEqDiff, Nat.reduceAdd, Nat.reduceLeDiff, Nat.reduceMul, Int.reduceLT, Int.reduceLE, Int.reduceAdd, Int.reduceSub, Int.reduceMul, Int.reduceNeg, Int.reduceToNat, Int.reduceEq], by simp only [go_sem, reduceCtorEq, reduceIte, Nat.reduceEqDiff, Nat.reduceAdd, Nat.reduceLeDiff, Nat.reduceMul, Int.reduceLT, Int.reduceLE, Int.reduceAdd, Int.reduceSub, Int.reduceMul, Int.reduceNeg, Int.reduceToNat, Int.reduceEq], by simp only [go_sem, reduceCtorEq, reduceIte, Nat.reduceEqDiff, Nat.reduceAdd, Nat.reduceLeDiff, Nat.reduceMul, Int.reduceLT, Int.reduceLE, Int.reduceAdd, Int.reduceSub, Int.reduceMul, Int.reduceNeg, Int.reduceToNat, Int.reduceEq], 0, by omega, by simp only [go_sem, reduceCtorEq, reduceIte, Nat.reduceEqDiff, Nat.reduceAdd, Nat.reduceLeDiff, Nat.reduceMul, Int.reduceLT, Int.reduceLE, Int.reduceAdd, Int.reduceSub, Int.reduceMul, Int.reduceNeg, Int.reduceToNat, Int.reduceEq] <;> rfl, rfl⟩
    · rw [Hp.upd_ne' g3.2.1, Hp.upd_ne' gz2.2.1, Hp.upd_ne' gb.2.1]; exact Hp.upd_same _ _ _
    · rw [Hp.upd_ne' g2.2.1, Hp.upd_ne' gz.2.1]; exact Hp.upd_same _ _ _
    · rw [Hp.upd_ne' g1.2.1]; exact Hp.upd_same _ _ _
    · rw [Hp.upd_same]; simp
  clear kp kz gb gz gz2 g1 g2 g3 hMg hMz hMb
  rintro m σ F' M' ⟨rfl, kp, nz, fa, fb, fz, bg, ng, h2', h3, h4, h18, h19, i, hi, h20, hf⟩
  have ba := blk_M (F := F') fa
  have bb := blk_M (F := F') fb
  by_cases hil : (i : Int) < l.length
  · have hi0 : (0 : Int) ≤ i := by omega
    have hil' : i < l.length := by omega
    have ei : IntKind.i64.wrap ((i : Int) + 1) = i + 1 := w64 (by omega) (by omega)
    have d1 : i * 6 + 6 ≤ (l.flatMap V.cs).length := by rw [flat_len]; omega
    have d2 := flat_get l i hil'
    obtain ⟨ox, wx⟩ := hok l[i] (List.getElem_mem _)
    rw [List.drop_eq_getElem_cons hil', List.find?_cons] at hf
    simp only [go_sem, reduceCtorEq, reduceIte, Nat.reduceEqDiff, Nat.reduceAdd, Nat.reduceLeDiff, Nat.reduceMul, Int.reduceLT, Int.reduceLE, Int.reduceAdd, Int.reduceSub, Int.reduceMul, Int.reduceNeg, Int.reduceToNat, Int.reduceEq, h2', h3, h4, h18, h19, h20, hil, hi0, Int.toNat_natCast, bg, d1, d2]
    intro rx hFx hMx
    have gx := ne_of_none hMx fa
    have gx2 := ne_of_none hMx fb
    have gx3 := ne_of_none hMx fz
    have gxg : ¬ g = rx := by rintro rfl; exact ng hMx
    simp only [go_sem, reduceCtorEq, reduceIte, Nat.reduceEqDiff, Nat.reduceAdd, Nat.reduceLeDiff, Nat.reduceMul, Int.reduceLT, Int.reduceLE, Int.reduceAdd, Int.reduceSub, Int.reduceMul, Int.reduceNeg, Int.reduceToNat, Int.reduceEq, h2', h3, h4, h18, h19, h20, gx, gx2, gx3, ba, bb]
    refine callK_same (k61 F' _ a _ ha ox) ?_
    have next : ∀ σ, Ax.look σ 2 = some (.pointer (some ⟨ra, 0, none⟩)) → Ax.look σ 3 = some (.pointer (some ⟨rb, 0, none⟩)) → Ax.look σ 4 = some (.pointer (some ⟨rz, 0, none⟩)) →
        Ax.look σ 18 = some (.slice (some ⟨g, 0, none⟩) l.length cap) → Ax.look σ 19 = some (.int .i64 l.length) → Ax.look σ 20 = some (.int .i64 (i + 1)) →
        (a.under l[i] && b.under l[i]) = false → ∃ k, k < m ∧ ouI a b l F' M ra rb rz g cap k σ F' (M'.upd rx ⟨(l[i]).cs, 28, 6⟩) := by
      intro σ q1 q2 q3 q4 q5 q6 q7
      refine ⟨m - 1, by omega, rfl, kp.new (kp.free hMx), nz, ?_, ?_, ?_, ?_, ?_, q1, q2, q3, q4, q5, i + 1, by omega, q6, ?_⟩
      · rw [Hp.upd_ne' gx.1]; exact fa
      · rw [Hp.upd_ne' gx2.1]; exact fb
      · rw [Hp.upd_ne' gx3.1]; exact fz
      · rw [blk_upd_ne gxg]; exact bg
      · rw [Hp.upd_ne' gxg]; exact ng
      · rw [hf, q7]
    cases e1 : a.under l[i]
    · simp only [go_sem, reduceCtorEq, reduceIte, Nat.reduceEqDiff, Nat.reduceAdd, Nat.reduceLeDiff, Nat.reduceMul, Int.reduceLT, Int.reduceLE, Int.reduceAdd, Int.reduceSub, Int.reduceMul, Int.reduceNeg, Int.reduceToNat, Int.reduceEq, h2', h3, h4, h18, h19, h20, gx, gx2, gx3, ba, bb, ei]
      exact next _ (by simp only [go_sem, reduceCtorEq, reduceIte, Nat.reduceEqDiff, Nat.reduceAdd, Nat.reduceLeDiff, Nat.reduceMul, Int.reduceLT, Int.reduceLE, Int.reduceAdd, Int.reduceSub, Int.reduceMul, Int.reduceNeg, Int.reduceToNat, Int.reduceEq, h2']) (by simp only [go_sem, reduceCtorEq, reduceIte, Nat.reduceEqDiff, Nat.reduceAdd, Nat.reduceLeDiff, Nat.reduceMul, Int.reduceLT, Int.reduceLE, Int.reduceAdd, Int.reduceSub, Int.reduceMul, Int.reduceNeg, Int.reduceToNat, Int.reduceEq, h3]) (by simp only [go_sem, reduceCtorEq, reduceIte, Nat.reduceEqDiff, Nat.reduceAdd, Nat.reduceLeDiff, Nat.reduceMul, Int.reduceLT, Int.reduceLE, Int.reduceAdd, Int.reduceSub, Int.reduceMul, Int.reduceNeg, Int.reduceToNat, Int.reduceEq, h4]) (by simp only [go_sem, reduceCtorEq, reduceIte, Nat.reduceEqDiff, Nat.reduceAdd, Nat.reduceLeDiff, Nat.reduceMul, Int.reduceLT, Int.reduceLE, Int.reduceAdd, Int.reduceSub, Int.reduceMul, Int.reduceNeg, Int.reduceToNat, Int.reduceEq, h18]) (by simp only [go_sem, reduceCtorEq, reduceIte, Nat.reduceEqDiff, Nat.reduceAdd, Nat.reduceLeDiff, Nat.reduceMul, Int.reduceLT, Int.reduceLE, Int.reduceAdd, Int.reduceSub, Int.reduceMul, Int.reduceNeg, Int.reduceToNat, Int.reduceEq, h19]) (by simp only [go_sem, reduceCtorEq, reduceIte, Nat.reduceEqDiff, Nat.reduceAdd, Nat.reduceLeDiff, Nat.reduceMul, Int.reduceLT, Int.reduceLE, Int.reduceAdd, Int.reduceSub, Int.reduceMul, Int.reduceNeg, Int.reduceToNat, Int.reduceEq]) (by rw [e1]; rfl)
    simp only [go_sem, reduceCtorEq, reduceIte, Nat.reduceEqDiff, Nat.reduceAdd, Nat.reduceLeDiff, Nat.reduceMul, Int.reduceLT, Int.reduceLE, Int.reduceAdd, Int.reduceSub, Int.reduceMul, Int.reduceNeg, Int.reduceToNat, Int.reduceEq, h2', h3, h4, h18, h19, h20, gx, gx2, gx3, ba, bb]
    refine callK_same (k61 F' _ b _ hb ox) ?_
    cases e2 : b.under l[i]
    · simp only [go_sem, reduceCtorEq, reduceIte, Nat.reduceEqDiff, Nat.reduceAdd, Nat.reduceLeDiff, Nat.reduceMul, Int.reduceLT, Int.reduceLE, Int.reduceAdd, Int.reduceSub, Int.reduceMul, Int.reduceNeg, Int.reduceToNat, Int.reduceEq, h2', h3, h4, h18, h19, h20, gx, gx2, gx3, ba, bb, ei]
      exact next _ (by simp only [go_sem, reduceCtorEq, reduceIte, Nat.reduceEqDiff, Nat.reduceAdd, Nat.reduceLeDiff, Nat.reduceMul, Int.reduceLT, Int.reduceLE, Int.reduceAdd, Int.reduceSub, Int.reduceMul, Int.reduceNeg, Int.reduceToNat, Int.reduceEq, h2']) (by simp only [go_sem, reduceCtorEq, reduceIte, Nat.reduceEqDiff, Nat.reduceAdd, Nat.reduceLeDiff, Nat.reduceMul, Int.reduceLT, Int.reduceLE, Int.reduceAdd, Int.reduceSub, Int.reduceMul, Int.reduceNeg, Int.reduceToNat, Int.reduceEq, h3]) (by simp only [go_sem, reduceCtorEq, reduceIte, Nat.reduceEqDiff, Nat.reduceAdd, Nat.reduceLeDiff, Nat.reduceMul, Int.reduceLT, Int.reduceLE, Int.reduceAdd, Int.reduceSub, Int.reduceMul, Int.reduceNeg, Int.reduceToNat, Int.reduceEq, h4]) (by simp only [go_sem, reduceCtorEq, reduceIte, Nat.reduceEqDiff, Nat.reduceAdd, Nat.reduceLeDiff, Nat.reduceMul, Int.reduceLT, Int.reduceLE, Int.reduceAdd, Int.reduceSub, Int.reduceMul, Int.reduceNeg, Int.reduceToNat, Int.reduceEq, h18]) (by simp only [go_sem, reduceCtorEq, reduceIte, Nat.reduceEqDiff, Nat.reduceAdd, Nat.reduceLeDiff, Nat.reduceMul, Int.reduceLT, Int.reduceLE, Int.reduceAdd, Int.reduceSub, Int.reduceMul, Int.reduceNeg, Int.reduceToNat, Int.reduceEq, h19]) (by simp only [go_sem, reduceCtorEq, reduceIte, Nat.reduceEqDiff, Nat.reduceAdd, Nat.reduceLeDiff, Nat.reduceMul, Int.reduceLT, Int.reduceLE, Int.reduceAdd, Int.reduceSub, Int.reduceMul, Int.reduceNeg, Int.reduceToNat, Int.reduceEq]) (by rw [e1, e2]; rfl)
    rw [e1, e2] at hf
    simp only [go_sem, reduceCtorEq, reduceIte, Nat.reduceEqDiff, Nat.reduceAdd, Nat.reduceLeDiff, Nat.reduceMul, Int.reduceLT, Int.reduceLE, Int.reduceAdd, Int.reduceSub, Int.reduceMul, Int.reduceNeg, Int.reduceToNat, Int.reduceEq, h2', h3, h4, h18, h19, h20, gx, gx2, gx3, ba, bb, fz]
    simp only [setH, go_sem, reduceCtorEq, reduceIte, Nat.reduceEqDiff, Nat.reduceAdd, Nat.reduceLeDiff, Nat.reduceMul, Int.reduceLT, Int.reduceLE, Int.reduceAdd, Int.reduceSub, Int.reduceMul, Int.reduceNeg, Int.reduceToNat, Int.reduceEq]
    refine endK_keep (M := M) ?_ ⟨by rw [hf]; rfl, rfl, rfl⟩
    exact Keep.new (Keep.new kp nz) (kp.free hMx)
  · have : l.drop i = [] := List.drop_eq_nil_of_le (by omega)
    rw [this] at hf
    simp only [go_sem, reduceCtorEq, reduceIte, Nat.reduceEqDiff, Nat.reduceAdd, Nat.reduceLeDiff, Nat.reduceMul, Int.reduceLT, Int.reduceLE, Int.reduceAdd, Int.reduceSub, Int.reduceMul, Int.reduceNeg, Int.reduceToNat, Int.reduceEq, h2', h3, h4, h18, h19, h20, hil, ba, bb]
    refine callK_same (k45 F' _ a.w la.1 la.2) ?_
    simp only [go_sem, reduceCtorEq, reduceIte, Nat.reduceEqDiff, Nat.reduceAdd, Nat.reduceLeDiff, Nat.reduceMul, Int.reduceLT, Int.reduceLE, Int.reduceAdd, Int.reduceSub, Int.reduceMul, Int.reduceNeg, Int.reduceToNat, Int.reduceEq, h2', h3, h4, h18, h19, h20, hil, ba, bb, fz]
    simp only [setH, go_sem, reduceCtorEq, reduceIte, Nat.reduceEqDiff, Nat.reduceAdd, Nat.reduceLeDiff, Nat.reduceMul, Int.reduceLT, Int.reduceLE, Int.reduceAdd, Int.reduceSub, Int.reduceMul, Int.reduceNeg, Int.reduceToNat, Int.reduceEq]
    exact endK_keep (M := M) (Keep.new kp nz) ⟨by rw [hf]; rfl, rfl, rfl⟩
end Go.Proofs.Try.K
