/- Contracts: is it there; the page's gathering of some members. -/
import Derived.Test.YtplcaoidiohlmaaK13
namespace Go.Proofs.Try.K
open Go Go.Ax Go.Proofs.Try.S
set_option maxRecDepth 100000
set_option linter.unusedSimpArgs false
set_option linter.unusedVariables false
set_option maxHeartbeats 4000000
variable (F : Fz) (M : Hp)

def in79 (v : Value) (l : List Int) (n : Int) (F : Fz) (M : Hp) (m : Nat) (σ : Env) (F' : Fz) (M' : Hp) : Prop :=
  F' = F ∧ M' = M ∧ Ax.look σ 0 = some v ∧ Ax.look σ 1 = some (.int .i64 n) ∧ ∃ i : Nat, i + m = l.length ∧ Ax.look σ 5 = some (.int .i64 i) ∧ n ∉ l.take i
theorem k79 (v : Value) (l : List Int) (n : Int) (hl : l.length ≤ 100000)
    (h : v = .slice none 0 0 ∧ l = [] ∨ ∃ g cap, v = .slice (some ⟨g, 0, none⟩) l.length cap ∧ blk F M g = some (l.map intV)) :
    CallsA Try.prog 79 [v, .int .i64 n] F M fun u F' M' => F' = F ∧ M' = M ∧ ∃ z, u = .int .i64 z ∧ (z < 0 ↔ n ∉ l) := by
  refine callsA_of hm Try.func79 e79 (Nat.le_of_ble_eq_true rfl) ?_
  simp only [c79, go_sem, reduceCtorEq, reduceIte, Nat.reduceEqDiff, Nat.reduceAdd, Nat.reduceLeDiff, Nat.reduceMul, Int.reduceLT, Int.reduceLE, Int.reduceAdd, Int.reduceSub, Int.reduceMul, Int.reduceNeg, Int.reduceToNat, Int.reduceEq]
  rcases h with ⟨rfl, rfl⟩ | ⟨g, cap, rfl, hb⟩
  · refine loop_of (fun m σ F' M' => F' = F ∧ M' = M ∧ Ax.look σ 0 = some (.slice none 0 0) ∧ Ax.look σ 5 = some (.int .i64 0)) 0 ?_ ?_
    · exact ⟨rfl, rfl, by simp only [go_sem, reduceCtorEq, reduceIte, Nat.reduceEqDiff, Nat.reduceAdd, Nat.reduceLeDiff, Nat.reduceMul, Int.reduceLT, Int.reduceLE, Int.reduceAdd, Int.reduceSub, Int.reduceMul, Int.reduceNeg, Int.reduceToNat, Int.reduceEq], by simp only [go_sem, reduceCtorEq, reduceIte, Nat.reduceEqDiff, Nat.reduceAdd, Nat.reduceLeDiff, Nat.reduceMul, Int.reduceLT, Int.reduceLE, Int.reduceAdd, Int.reduceSub, Int.reduceMul, Int.reduceNeg, Int.reduceToNat, Int.reduceEq]⟩
    · rintro m σ F' M' ⟨rfl, rfl, h0, h5⟩
      simp only [go_sem, reduceCtorEq, reduceIte, Nat.reduceEqDiff, Nat.reduceAdd, Nat.reduceLeDiff, Nat.reduceMul, Int.reduceLT, Int.reduceLE, Int.reduceAdd, Int.reduceSub, Int.reduceMul, Int.reduceNeg, Int.reduceToNat, Int.reduceEq, h0, h5]
      exact endK_same ⟨rfl, rfl, -1, rfl, by simp⟩
  · refine loop_of (in79 (.slice (some ⟨g, 0, none⟩) l.length cap) l n F M) l.length ?_ ?_
    · exact ⟨rfl, rfl, by simp only [go_sem, reduceCtorEq, reduceIte, Nat.reduceEqDiff, Nat.reduceAdd, Nat.reduceLeDiff, Nat.reduceMul, Int.reduceLT, Int.reduceLE, Int.reduceAdd, Int.reduceSub, Int.reduceMul, Int.reduceNeg, Int.reduceToNat, Int.reduceEq], by simp only [go_sem, reduceCtorEq, reduceIte, Nat.reduceEqDiff, Nat.reduceAdd, Nat.reduceLeDiff, Nat.reduceMul, Int.reduceLT, Int.reduceLE, Int.reduceAdd, Int.reduceSub, Int.reduceMul, Int.reduceNeg, Int.reduceToNat, Int.reduceEq], 0, by omega, by simp only [go_sem, reduceCtorEq, reduceIte, Nat.reduceEqDiff, Nat.reduceAdd, Nat.reduceLeDiff, Nat.reduceMul, Int.reduceLT, Int.reduceLE, Int.reduceAdd, Int.reduceSub, Int.reduceMul, Int.reduceNeg, Int.reduceToNat, Int.reduceEq] <;> rfl, by simp⟩
    · rintro m σ F' M' ⟨rfl, rfl, h0, h1, i, hi, h5, hn⟩
      by_cases hil : (i : Int) < l.length
      · have hi0 : (0 : Int) ≤ i := by omega
        have hil' : i < l.length := by omega
        have hget := get_ints hil'
        have ei : IntKind.i64.wrap ((i : Int) + 1) = i + 1 := w64 (by omega) (by omega)
        by_cases he : l[i] = n
        · simp only [go_sem, reduceCtorEq, reduceIte, Nat.reduceEqDiff, Nat.reduceAdd, Nat.reduceLeDiff, Nat.reduceMul, Int.reduceLT, Int.reduceLE, Int.reduceAdd, Int.reduceSub, Int.reduceMul, Int.reduceNeg, Int.reduceToNat, Int.reduceEq, h0, h1, h5, hil, hi0, Int.toNat_natCast, Nat.mul_one, hget, hb, he]
          refine endK_same ⟨rfl, rfl, i, rfl, ?_⟩
          constructor
          · intro h; omega
          · intro h; exact absurd (he ▸ List.getElem_mem hil') h
        · simp only [go_sem, reduceCtorEq, reduceIte, Nat.reduceEqDiff, Nat.reduceAdd, Nat.reduceLeDiff, Nat.reduceMul, Int.reduceLT, Int.reduceLE, Int.reduceAdd, Int.reduceSub, Int.reduceMul, Int.reduceNeg, Int.reduceToNat, Int.reduceEq, h0, h1, h5, hil, hi0, Int.toNat_natCast, Nat.mul_one, hget, hb, he, ei]
          refine ⟨m - 1, by omega, rfl, rfl, by simp only [go_sem, reduceCtorEq, reduceIte, Nat.reduceEqDiff, Nat.reduceAdd, Nat.reduceLeDiff, Nat.reduceMul, Int.reduceLT, Int.reduceLE, Int.reduceAdd, Int.reduceSub, Int.reduceMul, Int.reduceNeg, Int.reduceToNat, Int.reduceEq, h0], by simp only [go_sem, reduceCtorEq, reduceIte, Nat.reduceEqDiff, Nat.reduceAdd, Nat.reduceLeDiff, Nat.reduceMul, Int.reduceLT, Int.reduceLE, Int.reduceAdd, Int.reduceSub, Int.reduceMul, Int.reduceNeg, Int.reduceToNat, Int.reduceEq, h1], i + 1, by omega, by simp only [go_sem, reduceCtorEq, reduceIte, Nat.reduceEqDiff, Nat.reduceAdd, Nat.reduceLeDiff, Nat.reduceMul, Int.reduceLT, Int.reduceLE, Int.reduceAdd, Int.reduceSub, Int.reduceMul, Int.reduceNeg, Int.reduceToNat, Int.reduceEq]; rfl, by
            rw [List.take_succ_eq_append_getElem hil']
            simp only [List.mem_append, List.mem_singleton, not_or]
            exact ⟨hn, fun e => he e.symm⟩⟩
      · simp only [go_sem, reduceCtorEq, reduceIte, Nat.reduceEqDiff, Nat.reduceAdd, Nat.reduceLeDiff, Nat.reduceMul, Int.reduceLT, Int.reduceLE, Int.reduceAdd, Int.reduceSub, Int.reduceMul, Int.reduceNeg, Int.reduceToNat, Int.reduceEq, h0, h1, h5, hil]
        have : l.take i = l := List.take_of_length_le (by omega)
        rw [this] at hn
        exact endK_same ⟨rfl, rfl, -1, rfl, by simp [hn]⟩

def nextP (v : V) (n : Int) (l : List Int) (sl : Value) (p : Nat) (F : Fz) (M : Hp) (u : Value) (F' : Fz) (M' : Hp) : Prop :=
  F' = F ∧ ((v.nextR n < 0 ∧ u = .bool false ∧ M' = M) ∨ (0 ≤ v.nextR n ∧ u = .bool true ∧ ((v.nextR n ∈ l ∧ M' = M) ∨
    ∃ g cap, F g = none ∧ (M g = none ∨ ∃ c, sl = .slice (some ⟨g, 0, none⟩) l.length c) ∧ ¬ g = p ∧ l.length + 1 ≤ cap ∧ cap ≤ maxLen ∧
      M' = (M.upd p ⟨[.slice (some ⟨g, 0, none⟩) (l.length + 1) cap], 23, 1⟩).upd g ⟨(l ++ [v.nextR n]).map intV, 3, cap * 1⟩)))
theorem k66 (v : V) (n : Int) (hw0 : 0 ≤ v.w) (hw : v.w ≤ 62) (p : Nat) (sl : Value) (l : List Int) (hl : l.length ≤ 1000)
    (hp : M p = some ⟨[sl], 23, 1⟩)
    (h : sl = .slice none 0 0 ∧ l = [] ∨ ∃ g cap, sl = .slice (some ⟨g, 0, none⟩) l.length cap ∧ F g = none ∧ M g = some ⟨l.map intV, 3, cap * 1⟩ ∧ l.length ≤ cap ∧ cap ≤ maxLen ∧ ¬ g = p) :
    CallsA Try.prog 66 [.agg (v.cs ++ [Value.pointer (some ⟨p, 0, none⟩)]).toArray, .int .i64 n] F M (nextP v n l sl p F M) := by
  refine callsA_of hm Try.func66 e66 (Nat.le_of_ble_eq_true rfl) ?_
  simp only [c66, go_sem, reduceCtorEq, reduceIte, Nat.reduceEqDiff, Nat.reduceAdd, Nat.reduceLeDiff, Nat.reduceMul, Int.reduceLT, Int.reduceLE, Int.reduceAdd, Int.reduceSub, Int.reduceMul, Int.reduceNeg, Int.reduceToNat, Int.reduceEq]
  intro r hF hM
  have q1 := ne_of_none hM hp
  have bp := blk_M (F := F) hp
  simp only [go_sem, reduceCtorEq, reduceIte, Nat.reduceEqDiff, Nat.reduceAdd, Nat.reduceLeDiff, Nat.reduceMul, Int.reduceLT, Int.reduceLE, Int.reduceAdd, Int.reduceSub, Int.reduceMul, Int.reduceNeg, Int.reduceToNat, Int.reduceEq]
  refine callK_same (k19 F _ v n hw0 hw) ?_
  by_cases hx : v.nextR n < 0
  · simp only [go_sem, reduceCtorEq, reduceIte, Nat.reduceEqDiff, Nat.reduceAdd, Nat.reduceLeDiff, Nat.reduceMul, Int.reduceLT, Int.reduceLE, Int.reduceAdd, Int.reduceSub, Int.reduceMul, Int.reduceNeg, Int.reduceToNat, Int.reduceEq, hx]
    exact endK_drop hM (endK_same ⟨rfl, .inl ⟨hx, rfl, rfl⟩⟩)
  have hx0 : 0 ≤ v.nextR n := by omega
  simp only [go_sem, reduceCtorEq, reduceIte, Nat.reduceEqDiff, Nat.reduceAdd, Nat.reduceLeDiff, Nat.reduceMul, Int.reduceLT, Int.reduceLE, Int.reduceAdd, Int.reduceSub, Int.reduceMul, Int.reduceNeg, Int.reduceToNat, Int.reduceEq, hx, q1, bp]
  have hrow : sl = .slice none 0 0 ∧ l = [] ∨ ∃ g cap, sl = .slice (some ⟨g, 0, none⟩) l.length cap ∧ blk F (M.upd r ⟨v.cs ++ [Value.pointer (some ⟨p, 0, none⟩)], 74, 7⟩) g = some (l.map intV) := by
    rcases h with h | ⟨g, cap, h1, h2, h3, _⟩
    · exact .inl h
    · refine .inr ⟨g, cap, h1, ?_⟩
      rw [blk_upd_ne (ne_of_none hM h3).1]
      exact blk_M h3
  refine callK_of (k79 F _ sl l (v.nextR n) (by omega) hrow) ?_
  rintro u G M' ⟨hG, rfl, z, rfl, hz⟩
  rw [hG]
  refine ⟨(fun h => by cases h), ?_⟩
  by_cases hin : v.nextR n ∈ l
  · have hz' : ¬ z < 0 := fun h => hz.1 h hin
    simp only [go_sem, reduceCtorEq, reduceIte, Nat.reduceEqDiff, Nat.reduceAdd, Nat.reduceLeDiff, Nat.reduceMul, Int.reduceLT, Int.reduceLE, Int.reduceAdd, Int.reduceSub, Int.reduceMul, Int.reduceNeg, Int.reduceToNat, Int.reduceEq, hz']
    exact endK_drop hM (endK_same ⟨rfl, .inr ⟨hx0, rfl, .inl ⟨hin, rfl⟩⟩⟩)
  have hz' : z < 0 := hz.2 hin
  simp only [go_sem, reduceCtorEq, reduceIte, Nat.reduceEqDiff, Nat.reduceAdd, Nat.reduceLeDiff, Nat.reduceMul, Int.reduceLT, Int.reduceLE, Int.reduceAdd, Int.reduceSub, Int.reduceMul, Int.reduceNeg, Int.reduceToNat, Int.reduceEq, hz', q1, bp]
  intro rt hFt hMt
  have t1 := fresh_of hMt
  have q2 := ne_of_none t1.2.2 hp
  simp only [go_sem, reduceCtorEq, reduceIte, Nat.reduceEqDiff, Nat.reduceAdd, Nat.reduceLeDiff, Nat.reduceMul, Int.reduceLT, Int.reduceLE, Int.reduceAdd, Int.reduceSub, Int.reduceMul, Int.reduceNeg, Int.reduceToNat, Int.reduceEq, q1, q2, t1, bp]
  have own : Own ((M.upd r ⟨v.cs ++ [Value.pointer (some ⟨p, 0, none⟩)], 74, 7⟩).upd rt ⟨[.int .i64 (v.nextR n)], 3, 1⟩) 3 1 sl l.length (l.map intV) := by
    refine ⟨by simp, ?_⟩
    rcases h with ⟨h1, h2⟩ | ⟨g, cap, h1, h2, h3, h4, h5, _⟩
    · exact .inl ⟨h1, by rw [h2]; rfl⟩
    · exact .inr ⟨g, cap, h1, by rw [Hp.upd_ne' (ne_of_none t1.2.2 h3).1, Hp.upd_ne' (ne_of_none hM h3).1]; exact h3, h4, h5⟩
  refine apK_of (n := l.length) (xs := l.map intV) (m := 1) (ys := [v.nextR n].map intV) own ⟨rfl, .inr ⟨⟨rt, 0, none⟩, 1, rfl, .inr ⟨rt, 0, _, rfl, blk_upd_same, rfl⟩⟩⟩ (plain_ints _) (by simp only [maxLen]; omega) (by omega) ?_
  rintro v' M3 (⟨_, h0, _⟩ | ⟨g', cap', hg', rfl, hc3, hc4, rfl⟩)
  · cases h0
  rw [← List.map_append]
  have key : F g' = none ∧ (M g' = none ∨ ∃ c, sl = .slice (some ⟨g', 0, none⟩) l.length c) ∧ ¬ g' = p := by
    rcases hg' with ⟨c, hx⟩ | ⟨hx, hy⟩
    · rcases h with ⟨h1, _⟩ | ⟨g, cap, h1, h2, h3, h4, h5, h6⟩
      · rw [h1] at hx; cases hx
      · rw [h1] at hx; cases hx
        exact ⟨h2, .inr ⟨_, h1⟩, h6⟩
    · have y1 := fresh_of hy
      have y2 := fresh_of y1.2.2
      exact ⟨hx, .inl y2.2.2, (ne_of_none y2.2.2 hp).2⟩
  have kp : ¬ p = g' := fun e => key.2.2 e.symm
  simp only [go_sem, reduceCtorEq, reduceIte, Nat.reduceEqDiff, Nat.reduceAdd, Nat.reduceLeDiff, Nat.reduceMul, Int.reduceLT, Int.reduceLE, Int.reduceAdd, Int.reduceSub, Int.reduceMul, Int.reduceNeg, Int.reduceToNat, Int.reduceEq, q1, q2, t1, bp, kp, hp]
  refine endK_keep ?_ ⟨rfl, .inr ⟨hx0, rfl, .inr ⟨g', cap', key.1, key.2.1, key.2.2, hc3, hc4, rfl⟩⟩⟩
  refine Keep.both (Keep.new (Keep.new (Keep.refl _) ?_) ?_)
  · show (M.upd p _) r = none
    rw [upd_none]; exact ⟨q1.2, hM⟩
  · show (M.upd p _) rt = none
    rw [upd_none]; exact ⟨q2.2, t1.2.2⟩
end Go.Proofs.Try.K
