/- Parts K17to19: the machine's runs of small codes, contracts of functions, plain facts. -/
import Derived.Test.YtmaclakgkllojaaK12to16
/- Contracts: is it there; the page's gathering of some members. -/
namespace Go.Proofs.Try.K
open Go Go.Ax Go.Proofs.Try.S
set_option maxRecDepth 100000
set_option linter.unusedSimpArgs false
set_option linter.unusedVariables false
set_option maxHeartbeats 4000000
variable (F : Fz) (M : Hp)

def in79 (v : Value) (l : List Int) (n : Int) (F : Fz) (M : Hp) (m : Nat) (σ : Env) (F' : Fz) (M' : Hp) : Prop :=
  F' = F ∧ M' = M ∧ Ax.look σ 0 = some v ∧ Ax.look σ 1 = some (.int .i64 n) ∧ ∃ i : Nat, i + m = l.length ∧ Ax.look σ 5 = some (.int .i64 i) ∧ n ∉ l.take i
theorem k119 (v : Value) (l : List Int) (n : Int) (hl : l.length ≤ 100000)
    (h : v = .slice none 0 0 ∧ l = [] ∨ ∃ g cap, v = .slice (some ⟨g, 0, none⟩) l.length cap ∧ blk F M g = some (l.map intV)) :
    CallsA Try.prog 119 [v, .int .i64 n] F M fun u F' M' => F' = F ∧ M' = M ∧ ∃ z, u = .int .i64 z ∧ (z < 0 ↔ n ∉ l) := by
  refine callsA_of hm Try.func119 e119 (Nat.le_of_ble_eq_true rfl) ?_
  simp only [c119, go_sem, reduceCtorEq, reduceIte, Nat.reduceEqDiff, Nat.reduceAdd, Nat.reduceLeDiff, Nat.reduceMul, Int.reduceLT, Int.reduceLE, Int.reduceAdd, Int.reduceSub, Int.reduceMul, Int.reduceNeg, Int.reduceToNat, Int.reduceEq]
  rcases h with ⟨rfl, rfl⟩ | ⟨g, cap, rfl, hb⟩
  · refine loop_of (fun m σ F' M' => F' = F ∧ M' = M ∧ Ax.look σ 0 = some (.slice none 0 0) ∧ Ax.look σ 5 = some (.int .i64 0)) 0 ?_ ?_
    · exact ⟨rfl, rfl, by simp only [go_sem, reduceCtorEq, reduceIte, Nat.reduceEqDiff, Nat.reduceAdd, Nat.reduceLeDiff, Nat.reduceMul, Int.reduceLT, Int.reduceLE, Int.reduceAdd, Int.reduceSub, Int.reduceMul, Int.reduceNeg, Int.reduceToNat, Int.reduceEq], by simp only [go_sem, reduceCtorEq, reduceIte, Nat.reduceEqDiff, Nat.reduceAdd, Nat.reduceLeDiff, Nat.reduceMul, Int.reduceLT, Int.reduceLE, Int.reduceAdd, Int.reduceSub, Int.reduceMul, Int.reduceNeg, Int.reduceToNat, Int.reduceEq]⟩
    · rintro m σ F' M' ⟨rfl, rfl, h0, h5⟩
      simp only [go_sem, reduceCtorEq, reduceIte, Nat.reduceEqDiff, Nat.reduceAdd, Nat.reduceLeDiff, Nat.reduceMul, Int.reduceLT, Int.reduceLE, Int.reduceAdd, Int.reduceSub, Int.reduceMul, Int.reduceNeg, Int.reduceToNat, Int.reduceEq, h0, h5]
      exact endK_same ⟨rfl, rfl, -1, rfl, by simp⟩
  · refine loop_of (in79 (.slice (some ⟨g, 0, none⟩) l.length cap) l n F M) l.length ?_ ?_
    · exact ⟨rfl, rfl, by simp only [go_sem, reduceCtorEq, reduceIte, Nat.reduceEqDiff, Nat.reduceAdd, Nat.reduceLeDiff, Nat.reduceMul, Int.reduceLT, Int.reduceLE, Int.reduceAdd, Int.reduceSub, Int.reduceMul, Int.reduceNeg, Int.reduceToNat, Int.reduceEq], by simp only [go_sem, reduceCtorEq, reduceIte, Nat.reduceEqDiff, Nat.reduceAdd, Nat.reduceLeDiff, Nat.reduceMul, Int.reduceLT, Int.reduceLE, Int.reduceAdd, Int.reduceSub, Int.reduceMul, Int.reduceNeg, Int.reduceToNat, Int.reduceEq], 0, by omega, by simp only [go_sem, reduceCtorEq, reduceIte, Nat.reduceEqDiff, Nat.reduceAdd, Nat.reduceLeDiff, Nat.reduceMul, Int.reduceLT, Int.reduceLE, Int.reduceAdd, Int.reduceSub, Int.reduceMul, Int.reduceNeg, Int.reduceToNat, Int.reduceEq] <;> rfl, by simp⟩
    · rintro m σ F' M' ⟨rfl, rfl, h0, h1, i, hi, h5, hn⟩
      by_cases hil : (i : Int) < l.length
      · have hi0 : (0 : Int) ≤ i := by omega
        have hil' : i < l.length := by omega
        have hget := get_ints hil'
        have ei : IntKind.i64.wrap ((i : Int) + 1) = i + 1 := w64 (by omega) (by omega)
        by_cases he : l[i] = n
        · simp only [go_sem, reduceCtorEq, reduceIte, Nat.reduceEqDiff, Nat.reduceAdd, Nat.reduceLeDiff, Nat.reduceMul, Int.reduceLT, Int.reduceLE, Int.reduceAdd, Int.reduceSub, Int.reduceMul, Int.reduceNeg, Int.reduceToNat, Int.reduceEq, h0, h1, h5, hil, hi0, Int.toNat_natCast, Nat.mul_one, hget, hb, he]
          refine endK_same ⟨rfl, rfl, i, rfl, ?_⟩
          constructor
          · intro h; omega
          · intro h; exact absurd (he ▸ List.getElem_mem hil') h
        · simp only [go_sem, reduceCtorEq, reduceIte, Nat.reduceEqDiff, Nat.reduceAdd, Nat.reduceLeDiff, Nat.reduceMul, Int.reduceLT, Int.reduceLE, Int.reduceAdd, Int.reduceSub, Int.reduceMul, Int.reduceNeg, Int.reduceToNat, Int.reduceEq, h0, h1, h5, hil, hi0, Int.toNat_natCast, Nat.mul_one, hget, hb, he, ei]
          refine ⟨m - 1, by omega, rfl, rfl, by simp only [go_sem, reduceCtorEq, reduceIte, Nat.reduceEqDiff, Nat.reduceAdd, Nat.reduceLeDiff, Nat.reduceMul, Int.reduceLT, Int.reduceLE, Int.reduceAdd, Int.reduceSub, Int.reduceMul, Int.reduceNeg, Int.reduceToNat, Int.reduceEq, h0], by simp only [go_sem, reduceCtorEq, reduceIte, Nat.reduceEqDiff, Nat.reduceAdd, Nat.reduceLeDiff, Nat.reduceMul, Int.reduceLT, Int.reduceLE, Int.reduceAdd, Int.reduceSub, Int.reduceMul, Int.reduceNeg, Int.reduceToNat, Int.reduceEq, h1], i + 1, by omega, by simp only [go_sem, reduceCtorEq, reduceIte, Nat.reduceEqDiff, Nat.reduceAdd, Nat.reduceLeDiff, Nat.reduceMul, Int.reduceLT, Int.reduceLE, Int.reduceAdd, Int.reduceSub, Int.reduceMul, Int.reduceNeg, Int.reduceToNat, Int.reduceEq]; rfl, by
            rw [List.take_succ_eq_append_getElem hil']
            simp only [List.mem_append, List.mem_singleton, not_or]
            exact ⟨hn, fun e => he e.symm⟩⟩
      · simp only [go_sem, reduceCtorEq, reduceIte, Nat.reduceEqDiff, Nat.reduceAdd, Nat.reduceLeDiff, Nat.reduceMul, Int.reduceLT, Int.reduceLE, Int.reduceAdd, Int.reduceSub, Int.reduceMul, Int.reduceNeg, Int.reduceToNat, Int.reduceEq, h0, h1, h5, hil]
        have : l.take i = l := List.take_of_length_le (by omega)
        rw [this] at hn
        exact endK_same ⟨rfl, rfl, -1, rfl, by simp [hn]⟩

def nextP (v : V) (n : Int) (l : List Int) (sl : Value) (p : Nat) (F : Fz) (M : Hp) (u : Value) (F' : Fz) (M' : Hp) : Prop :=
  F' = F ∧ ((v.nextR n < 0 ∧ u = .bool false ∧ M' = M) ∨ (0 ≤ v.nextR n ∧ u = .bool true ∧ ((v.nextR n ∈ l ∧ M' = M) ∨
    ∃ g cap, F g = none ∧ (M g = none ∨ ∃ c, sl = .slice (some ⟨g, 0, none⟩) l.length c) ∧ ¬ g = p ∧ l.length + 1 ≤ cap ∧ cap ≤ maxLen ∧
      M' = (M.upd p ⟨[.slice (some ⟨g, 0, none⟩) (l.length + 1) cap], 25, 1⟩).upd g ⟨(l ++ [v.nextR n]).map intV, 3, cap * 1⟩)))
theorem k79 (v : V) (n : Int) (hw0 : 0 ≤ v.w) (hw : v.w ≤ 62) (p : Nat) (sl : Value) (l : List Int) (hl : l.length ≤ 1000)
    (hp : M p = some ⟨[sl], 25, 1⟩)
    (h : sl = .slice none 0 0 ∧ l = [] ∨ ∃ g cap, sl = .slice (some ⟨g, 0, none⟩) l.length cap ∧ F g = none ∧ M g = some ⟨l.map intV, 3, cap * 1⟩ ∧ l.length ≤ cap ∧ cap ≤ maxLen ∧ ¬ g = p) :
    CallsA Try.prog 79 [.agg (v.cs ++ [Value.pointer (some ⟨p, 0, none⟩)]).toArray, .int .i64 n] F M (nextP v n l sl p F M) := by
  refine callsA_of hm Try.func79 e79 (Nat.le_of_ble_eq_true rfl) ?_
  simp only [c79, go_sem, reduceCtorEq, reduceIte, Nat.reduceEqDiff, Nat.reduceAdd, Nat.reduceLeDiff, Nat.reduceMul, Int.reduceLT, Int.reduceLE, Int.reduceAdd, Int.reduceSub, Int.reduceMul, Int.reduceNeg, Int.reduceToNat, Int.reduceEq]
  intro r hF hM
  have q1 := ne_of_none hM hp
  have bp := blk_M (F := F) hp
  simp only [go_sem, reduceCtorEq, reduceIte, Nat.reduceEqDiff, Nat.reduceAdd, Nat.reduceLeDiff, Nat.reduceMul, Int.reduceLT, Int.reduceLE, Int.reduceAdd, Int.reduceSub, Int.reduceMul, Int.reduceNeg, Int.reduceToNat, Int.reduceEq]
  refine callK_same (k41 F _ v n hw0 hw) ?_
  by_cases hx : v.nextR n < 0
  · simp only [go_sem, reduceCtorEq, reduceIte, Nat.reduceEqDiff, Nat.reduceAdd, Nat.reduceLeDiff, Nat.reduceMul, Int.reduceLT, Int.reduceLE, Int.reduceAdd, Int.reduceSub, Int.reduceMul, Int.reduceNeg, Int.reduceToNat, Int.reduceEq, hx]
    exact endK_drop hM (endK_same ⟨rfl, .inl ⟨hx, rfl, rfl⟩⟩)
  have hx0 : 0 ≤ v.nextR n := by omega
  simp only [go_sem, reduceCtorEq, reduceIte, Nat.reduceEqDiff, Nat.reduceAdd, Nat.reduceLeDiff, Nat.reduceMul, Int.reduceLT, Int.reduceLE, Int.reduceAdd, Int.reduceSub, Int.reduceMul, Int.reduceNeg, Int.reduceToNat, Int.reduceEq, hx, q1, bp]
  have hrow : sl = .slice none 0 0 ∧ l = [] ∨ ∃ g cap, sl = .slice (some ⟨g, 0, none⟩) l.length cap ∧ blk F (M.upd r ⟨v.cs ++ [Value.pointer (some ⟨p, 0, none⟩)], 97, 7⟩) g = some (l.map intV) := by
    rcases h with h | ⟨g, cap, h1, h2, h3, _⟩
    · exact .inl h
    · refine .inr ⟨g, cap, h1, ?_⟩
      rw [blk_upd_ne (ne_of_none hM h3).1]
      exact blk_M h3
  refine callK_of (k119 F _ sl l (v.nextR n) (by omega) hrow) ?_
  rintro u G M' ⟨hG, rfl, z, rfl, hz⟩
  rw [hG]
  refine ⟨(fun h => by cases h), ?_⟩
  by_cases hin : v.nextR n ∈ l
  · have hz' : ¬ z < 0 := fun h => hz.1 h hin
    simp only [go_sem, reduceCtorEq, reduceIte, Nat.reduceEqDiff, Nat.reduceAdd, Nat.reduceLeDiff, Nat.reduceMul, Int.reduceLT, Int.reduceLE, Int.reduceAdd, Int.reduceSub, Int.reduceMul, Int.reduceNeg, Int.reduceToNat, Int.reduceEq, hz']
    exact endK_drop hM (endK_same ⟨rfl, .inr ⟨hx0, rfl, .inl ⟨hin, rfl⟩⟩⟩)
  have hz' : z < 0 := hz.2 hin
  simp only [go_sem, reduceCtorEq, reduceIte, Nat.reduceEqDiff, Nat.reduceAdd, Nat.reduceLeDiff, Nat.reduceMul, Int.reduceLT, Int.reduceLE, Int.reduceAdd, Int.reduceSub, Int.reduceMul, Int.reduceNeg, Int.reduceToNat, Int.reduceEq, hz', q1, bp]
  intro rt hFt hMt
  have t1 := fresh_of hMt
  have q2 := ne_of_none t1.2.2 hp
  simp only [go_sem, reduceCtorEq, reduceIte, Nat.reduceEqDiff, Nat.reduceAdd, Nat.reduceLeDiff, Nat.reduceMul, Int.reduceLT, Int.reduceLE, Int.reduceAdd, Int.reduceSub, Int.reduceMul, Int.reduceNeg, Int.reduceToNat, Int.reduceEq, q1, q2, t1, bp]
  have own : Own ((M.upd r ⟨v.cs ++ [Value.pointer (some ⟨p, 0, none⟩)], 97, 7⟩).upd rt ⟨[.int .i64 (v.nextR n)], 3, 1⟩) 3 1 sl l.length (l.map intV) := by
    refine ⟨by simp, ?_⟩
    rcases h with ⟨h1, h2⟩ | ⟨g, cap, h1, h2, h3, h4, h5, _⟩
    · exact .inl ⟨h1, by rw [h2]; rfl⟩
    · exact .inr ⟨g, cap, h1, by rw [Hp.upd_ne' (ne_of_none t1.2.2 h3).1, Hp.upd_ne' (ne_of_none hM h3).1]; exact h3, h4, h5⟩
  refine apK_of (n := l.length) (xs := l.map intV) (m := 1) (ys := [v.nextR n].map intV) own ⟨rfl, .inr ⟨⟨rt, 0, none⟩, 1, rfl, .inr ⟨rt, 0, _, rfl, blk_upd_same, rfl⟩⟩⟩ (plain_ints _) (by simp only [maxLen]; omega) (by omega) ?_
  rintro v' M3 (⟨_, h0, _⟩ | ⟨g', cap', hg', rfl, hc3, hc4, rfl⟩)
  · cases h0
  rw [← List.map_append]
  have key : F g' = none ∧ (M g' = none ∨ ∃ c, sl = .slice (some ⟨g', 0, none⟩) l.length c) ∧ ¬ g' = p := by
    rcases hg' with ⟨c, hx⟩ | ⟨hx, hy⟩
    · rcases h with ⟨h1, _⟩ | ⟨g, cap, h1, h2, h3, h4, h5, h6⟩
      · rw [h1] at hx; cases hx
      · rw [h1] at hx; cases hx
        exact ⟨h2, .inr ⟨_, h1⟩, h6⟩
    · have y1 := fresh_of hy
      have y2 := fresh_of y1.2.2
      exact ⟨hx, .inl y2.2.2, (ne_of_none y2.2.2 hp).2⟩
  have kp : ¬ p = g' := fun e => key.2.2 e.symm
  simp only [go_sem, reduceCtorEq, reduceIte, Nat.reduceEqDiff, Nat.reduceAdd, Nat.reduceLeDiff, Nat.reduceMul, Int.reduceLT, Int.reduceLE, Int.reduceAdd, Int.reduceSub, Int.reduceMul, Int.reduceNeg, Int.reduceToNat, Int.reduceEq, q1, q2, t1, bp, kp, hp]
  refine endK_keep ?_ ⟨rfl, .inr ⟨hx0, rfl, .inr ⟨g', cap', key.1, key.2.1, key.2.2, hc3, hc4, rfl⟩⟩⟩
  refine Keep.both (Keep.new (Keep.new (Keep.refl _) ?_) ?_)
  · show (M.upd p _) r = none
    rw [upd_none]; exact ⟨q1.2, hM⟩
  · show (M.upd p _) rt = none
    rw [upd_none]; exact ⟨q2.2, t1.2.2⟩
end Go.Proofs.Try.K

/- Contract: some members, as the page gathers them. -/
namespace Go.Proofs.Try.K
open Go Go.Ax Go.Proofs.Try.S
set_option maxRecDepth 100000
set_option linter.unusedSimpArgs false
set_option linter.unusedVariables false
set_option maxHeartbeats 8000000
variable (F : Fz) (M : Hp)

theorem k57 (n w : Int) (h0 : 0 ≤ w) (h1 : w ≤ 62) : CallsA Try.prog 57 [.int .i64 n, .int .i64 w] F M (Same F M (.int .i64 (n % 2 ^ w.toNat))) := by
  refine callsA_of hm Try.func57 e57 (Nat.le_of_ble_eq_true rfl) ?_
  have : ¬ w < 0 := by omega
  simp only [c57, go_sem, reduceCtorEq, reduceIte, Nat.reduceEqDiff, Nat.reduceAdd, Nat.reduceLeDiff, Nat.reduceMul, Int.reduceLT, Int.reduceLE, Int.reduceAdd, Int.reduceSub, Int.reduceMul, Int.reduceNeg, Int.reduceToNat, Int.reduceEq, this, shl1 h0 h1, most_wrap h0 h1, band_mostV n h1]
  exact endK_same ⟨rfl, rfl, rfl⟩
theorem k82 (w n : Int) : CallsA Try.prog 82 [.int .i64 w, .int .i64 n] F M (Same F M (V.just w n).val) := by
  refine callsA_of hm Try.func82 e82 (Nat.le_of_ble_eq_true rfl) ?_
  simp only [c82, go_sem, reduceCtorEq, reduceIte, Nat.reduceEqDiff, Nat.reduceAdd, Nat.reduceLeDiff, Nat.reduceMul, Int.reduceLT, Int.reduceLE, Int.reduceAdd, Int.reduceSub, Int.reduceMul, Int.reduceNeg, Int.reduceToNat, Int.reduceEq]
  intro r hF hM
  simp only [go_sem, reduceCtorEq, reduceIte, Nat.reduceEqDiff, Nat.reduceAdd, Nat.reduceLeDiff, Nat.reduceMul, Int.reduceLT, Int.reduceLE, Int.reduceAdd, Int.reduceSub, Int.reduceMul, Int.reduceNeg, Int.reduceToNat, Int.reduceEq]
  exact endK_drop hM (endK_same ⟨rfl, rfl, rfl⟩)
def addV (v : V) (p : Nat) : Value := .agg (v.cs ++ [Value.pointer (some ⟨p, 0, none⟩)]).toArray
theorem k78 (v : V) (p : Nat) : CallsA Try.prog 78 [v.val, .pointer (some ⟨p, 0, none⟩)] F M (Same F M (addV v p)) := by
  refine callsA_of hm Try.func78 e78 (Nat.le_of_ble_eq_true rfl) ?_
  simp only [c78, go_sem, reduceCtorEq, reduceIte, Nat.reduceEqDiff, Nat.reduceAdd, Nat.reduceLeDiff, Nat.reduceMul, Int.reduceLT, Int.reduceLE, Int.reduceAdd, Int.reduceSub, Int.reduceMul, Int.reduceNeg, Int.reduceToNat, Int.reduceEq]
  intro r hF hM
  simp only [go_sem, reduceCtorEq, reduceIte, Nat.reduceEqDiff, Nat.reduceAdd, Nat.reduceLeDiff, Nat.reduceMul, Int.reduceLT, Int.reduceLE, Int.reduceAdd, Int.reduceSub, Int.reduceMul, Int.reduceNeg, Int.reduceToNat, Int.reduceEq]
  intro r1 hF1 hM1
  have g := fresh_of hM1
  simp only [go_sem, reduceCtorEq, reduceIte, Nat.reduceEqDiff, Nat.reduceAdd, Nat.reduceLeDiff, Nat.reduceMul, Int.reduceLT, Int.reduceLE, Int.reduceAdd, Int.reduceSub, Int.reduceMul, Int.reduceNeg, Int.reduceToNat, Int.reduceEq, g]
  exact endK_drop hM1 (endK_drop hM (endK_same ⟨rfl, rfl, rfl⟩))

structure SomeS (v : V) (F : Fz) (M : Hp) (r3 p r8 : Nat) (M' : Hp) (sl : Value) (l : List Int) : Prop where
  keep : Keep M M'
  f3 : M' r3 = some ⟨v.cs, 34, 6⟩
  fp : M' p = some ⟨[sl], 25, 1⟩
  f8 : M' r8 = some ⟨v.cs ++ [Value.pointer (some ⟨p, 0, none⟩)], 97, 7⟩
  np : M p = none
  n3 : ¬ r3 = p
  n8 : ¬ r8 = p
  row : sl = .slice none 0 0 ∧ l = [] ∨ ∃ g cap, sl = .slice (some ⟨g, 0, none⟩) l.length cap ∧ F g = none ∧ M' g = some ⟨l.map intV, 3, cap * 1⟩ ∧ l.length ≤ cap ∧ cap ≤ maxLen ∧ ¬ g = p ∧ M g = none ∧ ¬ r3 = g ∧ ¬ r8 = g
  mem : ∀ y ∈ l, 0 ≤ y ∧ y ≤ mostV v.w ∧ v.has y = true
theorem SomeS.next {v : V} {F : Fz} {M : Hp} {r3 p r8 : Nat} {M' : Hp} {sl : Value} {l : List Int} (hv : v.ok = true) (s : SomeS v F M r3 p r8 M' sl l) {n : Int} (hn : 0 ≤ n) {u : Value} {F' : Fz} {M2 : Hp}
    (h : nextP v n l sl p F M' u F' M2) : F' = F ∧ ∃ sl' l', SomeS v F M r3 p r8 M2 sl' l' ∧ l'.length ≤ l.length + 1 ∧ ((u = .bool true ∧ l' ≠ []) ∨ (u = .bool false ∧ l' = l)) := by
  obtain ⟨hF, ⟨h1, h2, rfl⟩ | ⟨h1, h2, ⟨h3, rfl⟩ | ⟨g, cap, g1, g2, g3, g4, g5, rfl⟩⟩⟩ := h
  · exact ⟨hF, sl, l, s, by omega, .inr ⟨h2, rfl⟩⟩
  · exact ⟨hF, sl, l, s, by omega, .inl ⟨h2, fun e => by rw [e] at h3; cases h3⟩⟩
  · refine ⟨hF, .slice (some ⟨g, 0, none⟩) (l.length + 1) cap, l ++ [v.nextR n], ?_, by simp, .inl ⟨h2, by simp⟩⟩
    have key : M g = none ∧ ¬ r3 = g ∧ ¬ r8 = g := by
      rcases g2 with g2 | ⟨c, g2⟩
      · exact ⟨s.keep.free g2, (ne_of_none g2 s.f3).1, (ne_of_none g2 s.f8).1⟩
      · rcases s.row with ⟨e, _⟩ | ⟨g', cap', e, _, _, _, _, _, k1, k2, k3⟩
        · rw [e] at g2; cases g2
        · rw [e] at g2; cases g2; exact ⟨k1, k2, k3⟩
    have gp : ¬ p = g := fun e => g3 e.symm
    refine ⟨(s.keep.new s.np).new key.1, ?_, ?_, ?_, s.np, s.n3, s.n8, .inr ⟨g, cap, by simp, g1, Hp.upd_same _ _ _, by simp; omega, g5, g3, key.1, key.2.1, key.2.2⟩, ?_⟩
    · rw [Hp.upd_ne' key.2.1, Hp.upd_ne' s.n3]; exact s.f3
    · rw [Hp.upd_ne' gp]; exact Hp.upd_same _ _ _
    · rw [Hp.upd_ne' key.2.2, Hp.upd_ne' s.n8]; exact s.f8
    · intro y hy
      rcases List.mem_append.1 hy with hy | hy
      · exact s.mem y hy
      · have e : y = v.nextR n := by simpa using hy
        rw [e]
        rcases nextR_spec hv hn with ⟨q1, q2, q3, q4, _⟩ | ⟨q1, _⟩
        · exact ⟨q1, q3, q4⟩
        · omega
theorem SomeS.rowN {v : V} {F : Fz} {M : Hp} {r3 p r8 : Nat} {M' : Hp} {sl : Value} {l : List Int} (s : SomeS v F M r3 p r8 M' sl l) :
    sl = .slice none 0 0 ∧ l = [] ∨ ∃ g cap, sl = .slice (some ⟨g, 0, none⟩) l.length cap ∧ F g = none ∧ M' g = some ⟨l.map intV, 3, cap * 1⟩ ∧ l.length ≤ cap ∧ cap ≤ maxLen ∧ ¬ g = p := by
  rcases s.row with h | ⟨g, cap, h1, h2, h3, h4, h5, h6, _⟩
  · exact .inl h
  · exact .inr ⟨g, cap, h1, h2, h3, h4, h5, h6⟩
def someR (v : V) (F : Fz) (M : Hp) (u : Value) (F' : Fz) (M' : Hp) : Prop :=
  F' = F ∧ ∃ l : List Int, l.length ≤ 1000 ∧ (∀ y ∈ l, 0 ≤ y ∧ y ≤ mostV v.w ∧ v.has y = true) ∧ (u = .slice none 0 0 ∧ l = [] ∧ M' = M ∨
    ∃ g cap, F g = none ∧ M g = none ∧ u = .slice (some ⟨g, 0, none⟩) l.length cap ∧ M' = M.upd g ⟨l.map intV, 3, cap * 1⟩)
theorem SomeS.done {v : V} {F : Fz} {M : Hp} {r3 p r8 : Nat} {M' : Hp} {sl : Value} {l : List Int} (s : SomeS v F M r3 p r8 M' sl l) (hl : l.length ≤ 1000) : endK F M' (someR v F M) sl := by
  rcases s.row with ⟨h1, h2⟩ | ⟨g, cap, h1, h2, h3, h4, h5, h6, h7, _⟩
  · exact endK_keep s.keep ⟨rfl, l, hl, s.mem, .inl ⟨h1, h2, rfl⟩⟩
  · exact endK_keep (s.keep.one h3) ⟨rfl, l, hl, s.mem, .inr ⟨g, cap, h2, h7, h1, rfl⟩⟩

def loopI (N : Int) (v : V) (F0 : Fz) (M : Hp) (r3 p r8 : Nat) (seed : Int) (slot c0 total : Nat) (m : Nat) (σ : Env) (F : Fz) (M' : Hp) : Prop :=
  F = F0 ∧ ∃ sl l, SomeS v F0 M r3 p r8 M' sl l ∧ l ≠ [] ∧ Ax.look σ 1 = some (.int .i64 N) ∧ Ax.look σ 2 = some (.int .i64 seed) ∧ Ax.look σ 3 = some (.pointer (some ⟨r3, 0, none⟩)) ∧ Ax.look σ 7 = some (.pointer (some ⟨p, 0, none⟩)) ∧
  Ax.look σ 8 = some (.pointer (some ⟨r8, 0, none⟩)) ∧ ∃ i : Nat, i + m = total ∧ Ax.look σ slot = some (.int .i64 i) ∧ l.length ≤ c0 + i
theorem k39_gen (v : V) (seed N : Int) (d e : Nat) (d3 : N.tdiv 3 = d) (d2 : N.tdiv 2 = e) (hd : d ≤ 100) (he : 2 ≤ e) (he1 : e ≤ 100) (hv : v.ok = true) :
    CallsA Try.prog 39 [v.val, .int .i64 N, .int .i64 seed] F M (someR v F M) := by
  refine callsA_of hm Try.func39 e39 (Nat.le_of_ble_eq_true rfl) ?_
  have hi := ok_in hv
  have hl := isW_le hi.w
  have hb := hi.big
  have n3 : ¬ (3 : Int) = 0 := by decide
  have wd : IntKind.i64.wrap (d : Int) = d := w64 (by omega) (by omega)
  have we : IntKind.i64.wrap (e : Int) = e := w64 (by omega) (by omega)
  have w0 : ¬ v.w < 0 := by omega
  simp only [c39, go_sem, reduceCtorEq, reduceIte, Nat.reduceEqDiff, Nat.reduceAdd, Nat.reduceLeDiff, Nat.reduceMul, Int.reduceLT, Int.reduceLE, Int.reduceAdd, Int.reduceSub, Int.reduceMul, Int.reduceNeg, Int.reduceToNat, Int.reduceEq]
  intro r3 hF3 hM3
  simp only [go_sem, reduceCtorEq, reduceIte, Nat.reduceEqDiff, Nat.reduceAdd, Nat.reduceLeDiff, Nat.reduceMul, Int.reduceLT, Int.reduceLE, Int.reduceAdd, Int.reduceSub, Int.reduceMul, Int.reduceNeg, Int.reduceToNat, Int.reduceEq]
  intro p hFp hMp
  have gp := fresh_of hMp
  simp only [go_sem, reduceCtorEq, reduceIte, Nat.reduceEqDiff, Nat.reduceAdd, Nat.reduceLeDiff, Nat.reduceMul, Int.reduceLT, Int.reduceLE, Int.reduceAdd, Int.reduceSub, Int.reduceMul, Int.reduceNeg, Int.reduceToNat, Int.reduceEq, gp]
  refine callK_same (k78 F _ v p) ?_
  simp only [go_sem, reduceCtorEq, reduceIte, Nat.reduceEqDiff, Nat.reduceAdd, Nat.reduceLeDiff, Nat.reduceMul, Int.reduceLT, Int.reduceLE, Int.reduceAdd, Int.reduceSub, Int.reduceMul, Int.reduceNeg, Int.reduceToNat, Int.reduceEq, gp]
  intro r8 hF8 hM8
  have g8 := fresh_of hM8
  have g83 := fresh_of g8.2.2
  simp only [addV, go_sem, reduceCtorEq, reduceIte, Nat.reduceEqDiff, Nat.reduceAdd, Nat.reduceLeDiff, Nat.reduceMul, Int.reduceLT, Int.reduceLE, Int.reduceAdd, Int.reduceSub, Int.reduceMul, Int.reduceNeg, Int.reduceToNat, Int.reduceEq, gp, g8, g83]
  have s : SomeS v F M r3 p r8 (((M.upd r3 ⟨v.cs, 34, 6⟩).upd p ⟨[.slice none 0 0], 25, 1⟩).upd r8 ⟨v.cs ++ [Value.pointer (some ⟨p, 0, none⟩)], 97, 7⟩) (.slice none 0 0) [] := by
    refine ⟨(((Keep.refl M).new hM3).new gp.2.2).new g83.2.2, ?_, ?_, Hp.upd_same _ _ _, gp.2.2, gp.2.1, g8.1, .inl ⟨rfl, rfl⟩, by simp⟩
    · rw [Hp.upd_ne' g83.2.1, Hp.upd_ne' gp.2.1]; exact Hp.upd_same _ _ _
    · rw [Hp.upd_ne' g8.2.1]; exact Hp.upd_same _ _ _
  refine callK_of (k79 F _ v 0 hl.1 hl.2 p (.slice none 0 0) [] (by simp) s.fp s.rowN) ?_
  rintro u G M1 hq
  obtain ⟨hG, sl, l, s1, hl1, hu⟩ := s.next hv (Int.le_refl _) hq
  rw [hG]
  refine ⟨(fun h => by cases h), ?_⟩
  rcases hu with ⟨rfl, hne⟩ | ⟨rfl, rfl⟩
  rotate_left
  · simp only [go_sem, reduceCtorEq, reduceIte, Nat.reduceEqDiff, Nat.reduceAdd, Nat.reduceLeDiff, Nat.reduceMul, Int.reduceLT, Int.reduceLE, Int.reduceAdd, Int.reduceSub, Int.reduceMul, Int.reduceNeg, Int.reduceToNat, Int.reduceEq]
    refine endK_keep s1.keep ⟨rfl, [], by simp, by simp, .inl ⟨rfl, rfl, rfl⟩⟩
  simp only [go_sem, reduceCtorEq, reduceIte, Nat.reduceEqDiff, Nat.reduceAdd, Nat.reduceLeDiff, Nat.reduceMul, Int.reduceLT, Int.reduceLE, Int.reduceAdd, Int.reduceSub, Int.reduceMul, Int.reduceNeg, Int.reduceToNat, Int.reduceEq]
  clear hq s
  refine loop_of (loopI N v F M r3 p r8 seed 9 1 d) d ?_ ?_
  · exact ⟨rfl, sl, l, s1, hne, by simp only [go_sem, reduceCtorEq, reduceIte, Nat.reduceEqDiff, Nat.reduceAdd, Nat.reduceLeDiff, Nat.reduceMul, Int.reduceLT, Int.reduceLE, Int.reduceAdd, Int.reduceSub, Int.reduceMul, Int.reduceNeg, Int.reduceToNat, Int.reduceEq], by simp only [go_sem, reduceCtorEq, reduceIte, Nat.reduceEqDiff, Nat.reduceAdd, Nat.reduceLeDiff, Nat.reduceMul, Int.reduceLT, Int.reduceLE, Int.reduceAdd, Int.reduceSub, Int.reduceMul, Int.reduceNeg, Int.reduceToNat, Int.reduceEq], by simp only [go_sem, reduceCtorEq, reduceIte, Nat.reduceEqDiff, Nat.reduceAdd, Nat.reduceLeDiff, Nat.reduceMul, Int.reduceLT, Int.reduceLE, Int.reduceAdd, Int.reduceSub, Int.reduceMul, Int.reduceNeg, Int.reduceToNat, Int.reduceEq], by simp only [go_sem, reduceCtorEq, reduceIte, Nat.reduceEqDiff, Nat.reduceAdd, Nat.reduceLeDiff, Nat.reduceMul, Int.reduceLT, Int.reduceLE, Int.reduceAdd, Int.reduceSub, Int.reduceMul, Int.reduceNeg, Int.reduceToNat, Int.reduceEq], by simp only [go_sem, reduceCtorEq, reduceIte, Nat.reduceEqDiff, Nat.reduceAdd, Nat.reduceLeDiff, Nat.reduceMul, Int.reduceLT, Int.reduceLE, Int.reduceAdd, Int.reduceSub, Int.reduceMul, Int.reduceNeg, Int.reduceToNat, Int.reduceEq], 0, by omega, by simp only [go_sem, reduceCtorEq, reduceIte, Nat.reduceEqDiff, Nat.reduceAdd, Nat.reduceLeDiff, Nat.reduceMul, Int.reduceLT, Int.reduceLE, Int.reduceAdd, Int.reduceSub, Int.reduceMul, Int.reduceNeg, Int.reduceToNat, Int.reduceEq] <;> rfl, by simpa using hl1⟩
  clear hne hl1 s1 hM8 g8 g83 hMp
  clear sl l
  rintro m σ F' M' ⟨rfl, sl, l, s, hne, h1, h2, h3, h7, h8, i, hi', h9, hll⟩
  have b3 := blk_M (F := F') s.f3
  have bp := blk_M (F := F') s.fp
  have b8 := blk_M (F := F') s.f8
  by_cases hi8 : (i : Int) < d
  · rcases s.row with ⟨_, e⟩ | ⟨g, cap, rfl, q2, q3, _⟩
    · exact absurd e hne
    have bg := blk_M (F := F') q3
    have hpos : 0 < l.length := by cases l with | nil => exact absurd rfl hne | cons _ _ => simp
    have c1 : (0 : Int) < l.length := by omega
    have c2 : IntKind.i64.wrap ((l.length : Int) - 1) = l.length - 1 := w64 (by omega) (by omega)
    have c3 : (0 : Int) ≤ (l.length : Int) - 1 := by omega
    have c4 : (l.length : Int) - 1 < l.length := by omega
    have c5 : ((l.length : Int) - 1).toNat = l.length - 1 := by omega
    have hget := get_ints (l := l) (i := l.length - 1) (by omega)
    have hm := s.mem l[l.length - 1] (List.getElem_mem _)
    have c6 : IntKind.i64.wrap (l[l.length - 1] + 1) = l[l.length - 1] + 1 := w64 (by omega) (by omega)
    have ei : IntKind.i64.wrap ((i : Int) + 1) = i + 1 := w64 (by omega) (by omega)
    simp only [go_sem, reduceCtorEq, reduceIte, Nat.reduceEqDiff, Nat.reduceAdd, Nat.reduceLeDiff, Nat.reduceMul, Int.reduceLT, Int.reduceLE, Int.reduceAdd, Int.reduceSub, Int.reduceMul, Int.reduceNeg, Int.reduceToNat, Int.reduceEq, h1, h2, h3, h7, h8, h9, b3, bp, b8, bg, d3, wd, n3, hi8, c1, c2, c3, c4, c5, c6, hget, Nat.mul_one, not_false_eq_true]
    refine callK_of (k79 F' _ v (l[l.length - 1] + 1) hl.1 hl.2 p (.slice (some ⟨g, 0, none⟩) l.length cap) l (by omega) s.fp s.rowN) ?_
    rintro u G M1 hq
    obtain ⟨hG, sl1, l1, s1, hl1, hu⟩ := s.next hv (by omega) hq
    rw [hG]
    refine ⟨(fun h => by cases h), ?_⟩
    have b3' := blk_M (F := F') s1.f3
    have bp' := blk_M (F := F') s1.fp
    have b8' := blk_M (F := F') s1.f8
    rcases hu with ⟨rfl, hne1⟩ | ⟨rfl, rfl⟩
    · simp only [go_sem, reduceCtorEq, reduceIte, Nat.reduceEqDiff, Nat.reduceAdd, Nat.reduceLeDiff, Nat.reduceMul, Int.reduceLT, Int.reduceLE, Int.reduceAdd, Int.reduceSub, Int.reduceMul, Int.reduceNeg, Int.reduceToNat, Int.reduceEq, h1, h2, h3, h7, h8, h9, ei]
      exact ⟨m - 1, by omega, rfl, sl1, l1, s1, hne1, by simp only [go_sem, reduceCtorEq, reduceIte, Nat.reduceEqDiff, Nat.reduceAdd, Nat.reduceLeDiff, Nat.reduceMul, Int.reduceLT, Int.reduceLE, Int.reduceAdd, Int.reduceSub, Int.reduceMul, Int.reduceNeg, Int.reduceToNat, Int.reduceEq, h1], by simp only [go_sem, reduceCtorEq, reduceIte, Nat.reduceEqDiff, Nat.reduceAdd, Nat.reduceLeDiff, Nat.reduceMul, Int.reduceLT, Int.reduceLE, Int.reduceAdd, Int.reduceSub, Int.reduceMul, Int.reduceNeg, Int.reduceToNat, Int.reduceEq, h2], by simp only [go_sem, reduceCtorEq, reduceIte, Nat.reduceEqDiff, Nat.reduceAdd, Nat.reduceLeDiff, Nat.reduceMul, Int.reduceLT, Int.reduceLE, Int.reduceAdd, Int.reduceSub, Int.reduceMul, Int.reduceNeg, Int.reduceToNat, Int.reduceEq, h3], by simp only [go_sem, reduceCtorEq, reduceIte, Nat.reduceEqDiff, Nat.reduceAdd, Nat.reduceLeDiff, Nat.reduceMul, Int.reduceLT, Int.reduceLE, Int.reduceAdd, Int.reduceSub, Int.reduceMul, Int.reduceNeg, Int.reduceToNat, Int.reduceEq, h7], by simp only [go_sem, reduceCtorEq, reduceIte, Nat.reduceEqDiff, Nat.reduceAdd, Nat.reduceLeDiff, Nat.reduceMul, Int.reduceLT, Int.reduceLE, Int.reduceAdd, Int.reduceSub, Int.reduceMul, Int.reduceNeg, Int.reduceToNat, Int.reduceEq, h8], i + 1, by omega, by simp only [go_sem, reduceCtorEq, reduceIte, Nat.reduceEqDiff, Nat.reduceAdd, Nat.reduceLeDiff, Nat.reduceMul, Int.reduceLT, Int.reduceLE, Int.reduceAdd, Int.reduceSub, Int.reduceMul, Int.reduceNeg, Int.reduceToNat, Int.reduceEq]; rfl, by omega⟩
    · simp only [go_sem, reduceCtorEq, reduceIte, Nat.reduceEqDiff, Nat.reduceAdd, Nat.reduceLeDiff, Nat.reduceMul, Int.reduceLT, Int.reduceLE, Int.reduceAdd, Int.reduceSub, Int.reduceMul, Int.reduceNeg, Int.reduceToNat, Int.reduceEq, h1, h2, h3, h7, h8, h9, bp']
      exact s1.done (by omega)
  · simp only [go_sem, reduceCtorEq, reduceIte, Nat.reduceEqDiff, Nat.reduceAdd, Nat.reduceLeDiff, Nat.reduceMul, Int.reduceLT, Int.reduceLE, Int.reduceAdd, Int.reduceSub, Int.reduceMul, Int.reduceNeg, Int.reduceToNat, Int.reduceEq, h1, h2, h3, h7, h8, h9, d3, wd, n3, hi8, not_false_eq_true]
    refine loop_of (loopI N v F' M r3 p r8 seed 10 (d + 1) e) (e - 1) ?_ ?_
    · exact ⟨rfl, sl, l, s, hne, by simp only [go_sem, reduceCtorEq, reduceIte, Nat.reduceEqDiff, Nat.reduceAdd, Nat.reduceLeDiff, Nat.reduceMul, Int.reduceLT, Int.reduceLE, Int.reduceAdd, Int.reduceSub, Int.reduceMul, Int.reduceNeg, Int.reduceToNat, Int.reduceEq, h1], by simp only [go_sem, reduceCtorEq, reduceIte, Nat.reduceEqDiff, Nat.reduceAdd, Nat.reduceLeDiff, Nat.reduceMul, Int.reduceLT, Int.reduceLE, Int.reduceAdd, Int.reduceSub, Int.reduceMul, Int.reduceNeg, Int.reduceToNat, Int.reduceEq, h2], by simp only [go_sem, reduceCtorEq, reduceIte, Nat.reduceEqDiff, Nat.reduceAdd, Nat.reduceLeDiff, Nat.reduceMul, Int.reduceLT, Int.reduceLE, Int.reduceAdd, Int.reduceSub, Int.reduceMul, Int.reduceNeg, Int.reduceToNat, Int.reduceEq, h3], by simp only [go_sem, reduceCtorEq, reduceIte, Nat.reduceEqDiff, Nat.reduceAdd, Nat.reduceLeDiff, Nat.reduceMul, Int.reduceLT, Int.reduceLE, Int.reduceAdd, Int.reduceSub, Int.reduceMul, Int.reduceNeg, Int.reduceToNat, Int.reduceEq, h7], by simp only [go_sem, reduceCtorEq, reduceIte, Nat.reduceEqDiff, Nat.reduceAdd, Nat.reduceLeDiff, Nat.reduceMul, Int.reduceLT, Int.reduceLE, Int.reduceAdd, Int.reduceSub, Int.reduceMul, Int.reduceNeg, Int.reduceToNat, Int.reduceEq, h8], 1, by omega, by simp only [go_sem, reduceCtorEq, reduceIte, Nat.reduceEqDiff, Nat.reduceAdd, Nat.reduceLeDiff, Nat.reduceMul, Int.reduceLT, Int.reduceLE, Int.reduceAdd, Int.reduceSub, Int.reduceMul, Int.reduceNeg, Int.reduceToNat, Int.reduceEq] <;> rfl, by omega⟩
    clear b3 bp b8 h1 h2 h3 h7 h8 h9 s hne hll hi8 hi'
    clear sl l
    rintro m σ F'' M'' ⟨rfl, sl, l, s, hne, h1, h2, h3, h7, h8, j, hj, h10, hll⟩
    have b3 := blk_M (F := F'') s.f3
    have bp := blk_M (F := F'') s.fp
    have b8 := blk_M (F := F'') s.f8
    have n12 : ¬ (e : Int) = 0 := by omega
    have n2 : ¬ (2 : Int) = 0 := by decide
    by_cases hj12 : (j : Int) < e
    · have ej : IntKind.i64.wrap ((j : Int) + 1) = j + 1 := w64 (by omega) (by omega)
      simp only [go_sem, reduceCtorEq, reduceIte, Nat.reduceEqDiff, Nat.reduceAdd, Nat.reduceLeDiff, Nat.reduceMul, Int.reduceLT, Int.reduceLE, Int.reduceAdd, Int.reduceSub, Int.reduceMul, Int.reduceNeg, Int.reduceToNat, Int.reduceEq, h1, h2, h3, h7, h8, h10, d2, we, hj12, n12, n2, not_false_eq_true, b3, bp, b8, w0, shl1 hl.1 hl.2]
      refine callK_same (k57 _ _ _ v.w hl.1 hl.2) ?_
      simp only [go_sem, reduceCtorEq, reduceIte, Nat.reduceEqDiff, Nat.reduceAdd, Nat.reduceLeDiff, Nat.reduceMul, Int.reduceLT, Int.reduceLE, Int.reduceAdd, Int.reduceSub, Int.reduceMul, Int.reduceNeg, Int.reduceToNat, Int.reduceEq, h1, h2, h3, h7, h8, h10, b3, bp, b8]
      refine callQ_of (k79 _ _ v _ hl.1 hl.2 p sl l (by omega) s.fp s.rowN) ?_
      rintro u G M1 hq
      obtain ⟨hG, sl1, l1, s1, hl1, hu⟩ := s.next hv (Int.emod_nonneg _ (by omega)) hq
      rw [hG]
      have hne1 : l1 ≠ [] := by
        rcases hu with ⟨_, h⟩ | ⟨_, h⟩
        · exact h
        · rw [h]; exact hne
      simp only [go_sem, reduceCtorEq, reduceIte, Nat.reduceEqDiff, Nat.reduceAdd, Nat.reduceLeDiff, Nat.reduceMul, Int.reduceLT, Int.reduceLE, Int.reduceAdd, Int.reduceSub, Int.reduceMul, Int.reduceNeg, Int.reduceToNat, Int.reduceEq, h1, h2, h3, h7, h8, h10, ej]
      exact ⟨m - 1, by omega, rfl, sl1, l1, s1, hne1, by simp only [go_sem, reduceCtorEq, reduceIte, Nat.reduceEqDiff, Nat.reduceAdd, Nat.reduceLeDiff, Nat.reduceMul, Int.reduceLT, Int.reduceLE, Int.reduceAdd, Int.reduceSub, Int.reduceMul, Int.reduceNeg, Int.reduceToNat, Int.reduceEq, h1], by simp only [go_sem, reduceCtorEq, reduceIte, Nat.reduceEqDiff, Nat.reduceAdd, Nat.reduceLeDiff, Nat.reduceMul, Int.reduceLT, Int.reduceLE, Int.reduceAdd, Int.reduceSub, Int.reduceMul, Int.reduceNeg, Int.reduceToNat, Int.reduceEq, h2], by simp only [go_sem, reduceCtorEq, reduceIte, Nat.reduceEqDiff, Nat.reduceAdd, Nat.reduceLeDiff, Nat.reduceMul, Int.reduceLT, Int.reduceLE, Int.reduceAdd, Int.reduceSub, Int.reduceMul, Int.reduceNeg, Int.reduceToNat, Int.reduceEq, h3], by simp only [go_sem, reduceCtorEq, reduceIte, Nat.reduceEqDiff, Nat.reduceAdd, Nat.reduceLeDiff, Nat.reduceMul, Int.reduceLT, Int.reduceLE, Int.reduceAdd, Int.reduceSub, Int.reduceMul, Int.reduceNeg, Int.reduceToNat, Int.reduceEq, h7], by simp only [go_sem, reduceCtorEq, reduceIte, Nat.reduceEqDiff, Nat.reduceAdd, Nat.reduceLeDiff, Nat.reduceMul, Int.reduceLT, Int.reduceLE, Int.reduceAdd, Int.reduceSub, Int.reduceMul, Int.reduceNeg, Int.reduceToNat, Int.reduceEq, h8], j + 1, by omega, by simp only [go_sem, reduceCtorEq, reduceIte, Nat.reduceEqDiff, Nat.reduceAdd, Nat.reduceLeDiff, Nat.reduceMul, Int.reduceLT, Int.reduceLE, Int.reduceAdd, Int.reduceSub, Int.reduceMul, Int.reduceNeg, Int.reduceToNat, Int.reduceEq]; rfl, by omega⟩
    · have p1 : IntKind.i64.wrap (v.w - 1) = v.w - 1 := w64 (by omega) (by omega)
      have hw8 : 8 ≤ v.w := by have := hi.w; simp [isW] at this; omega
      have p2 : ¬ v.w - 1 < 0 := by omega
      have p3 : shlv .i64 1 (v.w - 1) = 2 ^ (v.w - 1).toNat := shl1 (by omega) (by omega)
      have hpow := pow_le62 (w := v.w - 1) (by omega)
      have hhalf : 0 ≤ (2 : Int) ^ (v.w - 1).toNat := by omega
      have hhalf1 : 0 ≤ (2 : Int) ^ (v.w - 1).toNat - 1 := by omega
      have p4 : IntKind.i64.wrap ((2 : Int) ^ (v.w - 1).toNat - 1) = 2 ^ (v.w - 1).toNat - 1 := w64 (by omega) (by omega)
      generalize (2 : Int) ^ (v.w - 1).toNat = half at *
      have hlow := hi.low
      have hhigh := hi.high
      simp only [go_sem, reduceCtorEq, reduceIte, Nat.reduceEqDiff, Nat.reduceAdd, Nat.reduceLeDiff, Nat.reduceMul, Int.reduceLT, Int.reduceLE, Int.reduceAdd, Int.reduceSub, Int.reduceMul, Int.reduceNeg, Int.reduceToNat, Int.reduceEq, h1, h2, h3, h7, h8, h10, b3, bp, b8, w0, p1, p2, p3, p4, shl1 hl.1 hl.2, most_wrap hl.1 hl.2, not_false_eq_true, d2, we, n2, hj12]
      replace hll : l.length ≤ 890 := by omega
      clear hne
      refine callK_of (k79 _ _ v half hl.1 hl.2 p _ _ (by omega) s.fp s.rowN) ?_
      rintro u G M1 hq
      obtain ⟨hG, sl1, l1, s1, hl1, hu⟩ := s.next hv (hhalf) hq
      rw [hG]
      refine ⟨(fun h => by cases h), ?_⟩
      replace hll : l1.length ≤ 891 := by omega
      clear hu hq hG hl1 s b3 bp b8
      have s := s1
      clear s1
      have b3 := blk_M (F := F'') s.f3
      have bp := blk_M (F := F'') s.fp
      have b8 := blk_M (F := F'') s.f8
      simp only [go_sem, reduceCtorEq, reduceIte, Nat.reduceEqDiff, Nat.reduceAdd, Nat.reduceLeDiff, Nat.reduceMul, Int.reduceLT, Int.reduceLE, Int.reduceAdd, Int.reduceSub, Int.reduceMul, Int.reduceNeg, Int.reduceToNat, Int.reduceEq, h1, h2, h3, h7, h8, h10, b3, bp, b8, w0, p1, p2, p3, p4, shl1 hl.1 hl.2, most_wrap hl.1 hl.2, not_false_eq_true]
      refine callK_of (k79 _ _ v (mostV v.w) hl.1 hl.2 p _ _ (by omega) s.fp s.rowN) ?_
      rintro u G M1 hq
      obtain ⟨hG, sl1, l1, s1, hl1, hu⟩ := s.next hv (by omega) hq
      rw [hG]
      refine ⟨(fun h => by cases h), ?_⟩
      replace hll : l1.length ≤ 892 := by omega
      clear hu hq hG hl1 s b3 bp b8
      have s := s1
      clear s1
      have b3 := blk_M (F := F'') s.f3
      have bp := blk_M (F := F'') s.fp
      have b8 := blk_M (F := F'') s.f8
      simp only [go_sem, reduceCtorEq, reduceIte, Nat.reduceEqDiff, Nat.reduceAdd, Nat.reduceLeDiff, Nat.reduceMul, Int.reduceLT, Int.reduceLE, Int.reduceAdd, Int.reduceSub, Int.reduceMul, Int.reduceNeg, Int.reduceToNat, Int.reduceEq, h1, h2, h3, h7, h8, h10, b3, bp, b8, w0, p1, p2, p3, p4, shl1 hl.1 hl.2, most_wrap hl.1 hl.2, not_false_eq_true]
      refine callK_of (k79 _ _ v v.low hl.1 hl.2 p _ _ (by omega) s.fp s.rowN) ?_
      rintro u G M1 hq
      obtain ⟨hG, sl1, l1, s1, hl1, hu⟩ := s.next hv (hlow.1) hq
      rw [hG]
      refine ⟨(fun h => by cases h), ?_⟩
      replace hll : l1.length ≤ 893 := by omega
      clear hu hq hG hl1 s b3 bp b8
      have s := s1
      clear s1
      have b3 := blk_M (F := F'') s.f3
      have bp := blk_M (F := F'') s.fp
      have b8 := blk_M (F := F'') s.f8
      simp only [go_sem, reduceCtorEq, reduceIte, Nat.reduceEqDiff, Nat.reduceAdd, Nat.reduceLeDiff, Nat.reduceMul, Int.reduceLT, Int.reduceLE, Int.reduceAdd, Int.reduceSub, Int.reduceMul, Int.reduceNeg, Int.reduceToNat, Int.reduceEq, h1, h2, h3, h7, h8, h10, b3, bp, b8, w0, p1, p2, p3, p4, shl1 hl.1 hl.2, most_wrap hl.1 hl.2, not_false_eq_true]
      refine callK_same (k40 _ _ v v.high) ?_
      cases hh1 : v.has v.high
      · simp only [go_sem, reduceCtorEq, reduceIte, Nat.reduceEqDiff, Nat.reduceAdd, Nat.reduceLeDiff, Nat.reduceMul, Int.reduceLT, Int.reduceLE, Int.reduceAdd, Int.reduceSub, Int.reduceMul, Int.reduceNeg, Int.reduceToNat, Int.reduceEq, h1, h2, h3, h7, h8, h10, b3, bp, b8, w0, p1, p2, p3, p4, shl1 hl.1 hl.2, most_wrap hl.1 hl.2, not_false_eq_true]
        refine callK_same (k40 _ _ v (half - 1)) ?_
        cases hh2 : v.has (half - 1)
        · simp only [go_sem, reduceCtorEq, reduceIte, Nat.reduceEqDiff, Nat.reduceAdd, Nat.reduceLeDiff, Nat.reduceMul, Int.reduceLT, Int.reduceLE, Int.reduceAdd, Int.reduceSub, Int.reduceMul, Int.reduceNeg, Int.reduceToNat, Int.reduceEq, h1, h2, h3, h7, h8, h10, b3, bp, b8, w0, p1, p2, p3, p4, shl1 hl.1 hl.2, most_wrap hl.1 hl.2, not_false_eq_true]
          exact s.done (by omega)
        · simp only [go_sem, reduceCtorEq, reduceIte, Nat.reduceEqDiff, Nat.reduceAdd, Nat.reduceLeDiff, Nat.reduceMul, Int.reduceLT, Int.reduceLE, Int.reduceAdd, Int.reduceSub, Int.reduceMul, Int.reduceNeg, Int.reduceToNat, Int.reduceEq, h1, h2, h3, h7, h8, h10, b3, bp, b8, w0, p1, p2, p3, p4, shl1 hl.1 hl.2, most_wrap hl.1 hl.2, not_false_eq_true]
          refine callK_of (k79 _ _ v (half - 1) hl.1 hl.2 p _ _ (by omega) s.fp s.rowN) ?_
          rintro u G M1 hq
          obtain ⟨hG, sl1, l1, s1, hl1, hu⟩ := s.next hv (by omega) hq
          rw [hG]
          refine ⟨(fun h => by cases h), ?_⟩
          replace hll : l1.length ≤ 894 := by omega
          clear hu hq hG hl1 s b3 bp b8
          have s := s1
          clear s1
          have b3 := blk_M (F := F'') s.f3
          have bp := blk_M (F := F'') s.fp
          have b8 := blk_M (F := F'') s.f8
          simp only [go_sem, reduceCtorEq, reduceIte, Nat.reduceEqDiff, Nat.reduceAdd, Nat.reduceLeDiff, Nat.reduceMul, Int.reduceLT, Int.reduceLE, Int.reduceAdd, Int.reduceSub, Int.reduceMul, Int.reduceNeg, Int.reduceToNat, Int.reduceEq, h1, h2, h3, h7, h8, h10, b3, bp, b8, w0, p1, p2, p3, p4, shl1 hl.1 hl.2, most_wrap hl.1 hl.2, not_false_eq_true]
          exact s.done (by omega)
      · simp only [go_sem, reduceCtorEq, reduceIte, Nat.reduceEqDiff, Nat.reduceAdd, Nat.reduceLeDiff, Nat.reduceMul, Int.reduceLT, Int.reduceLE, Int.reduceAdd, Int.reduceSub, Int.reduceMul, Int.reduceNeg, Int.reduceToNat, Int.reduceEq, h1, h2, h3, h7, h8, h10, b3, bp, b8, w0, p1, p2, p3, p4, shl1 hl.1 hl.2, most_wrap hl.1 hl.2, not_false_eq_true]
        refine callK_of (k79 _ _ v v.high hl.1 hl.2 p _ _ (by omega) s.fp s.rowN) ?_
        rintro u G M1 hq
        obtain ⟨hG, sl1, l1, s1, hl1, hu⟩ := s.next hv (hhigh.1) hq
        rw [hG]
        refine ⟨(fun h => by cases h), ?_⟩
        replace hll : l1.length ≤ 894 := by omega
        clear hu hq hG hl1 s b3 bp b8
        have s := s1
        clear s1
        have b3 := blk_M (F := F'') s.f3
        have bp := blk_M (F := F'') s.fp
        have b8 := blk_M (F := F'') s.f8
        simp only [go_sem, reduceCtorEq, reduceIte, Nat.reduceEqDiff, Nat.reduceAdd, Nat.reduceLeDiff, Nat.reduceMul, Int.reduceLT, Int.reduceLE, Int.reduceAdd, Int.reduceSub, Int.reduceMul, Int.reduceNeg, Int.reduceToNat, Int.reduceEq, h1, h2, h3, h7, h8, h10, b3, bp, b8, w0, p1, p2, p3, p4, shl1 hl.1 hl.2, most_wrap hl.1 hl.2, not_false_eq_true]
        refine callK_same (k40 _ _ v (half - 1)) ?_
        cases hh2 : v.has (half - 1)
        · simp only [go_sem, reduceCtorEq, reduceIte, Nat.reduceEqDiff, Nat.reduceAdd, Nat.reduceLeDiff, Nat.reduceMul, Int.reduceLT, Int.reduceLE, Int.reduceAdd, Int.reduceSub, Int.reduceMul, Int.reduceNeg, Int.reduceToNat, Int.reduceEq, h1, h2, h3, h7, h8, h10, b3, bp, b8, w0, p1, p2, p3, p4, shl1 hl.1 hl.2, most_wrap hl.1 hl.2, not_false_eq_true]
          exact s.done (by omega)
        · simp only [go_sem, reduceCtorEq, reduceIte, Nat.reduceEqDiff, Nat.reduceAdd, Nat.reduceLeDiff, Nat.reduceMul, Int.reduceLT, Int.reduceLE, Int.reduceAdd, Int.reduceSub, Int.reduceMul, Int.reduceNeg, Int.reduceToNat, Int.reduceEq, h1, h2, h3, h7, h8, h10, b3, bp, b8, w0, p1, p2, p3, p4, shl1 hl.1 hl.2, most_wrap hl.1 hl.2, not_false_eq_true]
          refine callK_of (k79 _ _ v (half - 1) hl.1 hl.2 p _ _ (by omega) s.fp s.rowN) ?_
          rintro u G M1 hq
          obtain ⟨hG, sl1, l1, s1, hl1, hu⟩ := s.next hv (by omega) hq
          rw [hG]
          refine ⟨(fun h => by cases h), ?_⟩
          replace hll : l1.length ≤ 895 := by omega
          clear hu hq hG hl1 s b3 bp b8
          have s := s1
          clear s1
          have b3 := blk_M (F := F'') s.f3
          have bp := blk_M (F := F'') s.fp
          have b8 := blk_M (F := F'') s.f8
          simp only [go_sem, reduceCtorEq, reduceIte, Nat.reduceEqDiff, Nat.reduceAdd, Nat.reduceLeDiff, Nat.reduceMul, Int.reduceLT, Int.reduceLE, Int.reduceAdd, Int.reduceSub, Int.reduceMul, Int.reduceNeg, Int.reduceToNat, Int.reduceEq, h1, h2, h3, h7, h8, h10, b3, bp, b8, w0, p1, p2, p3, p4, shl1 hl.1 hl.2, most_wrap hl.1 hl.2, not_false_eq_true]
          exact s.done (by omega)
theorem k39 (v : V) (seed : Int) (hv : v.ok = true) : CallsA Try.prog 39 [v.val, .int .i64 24, .int .i64 seed] F M (someR v F M) :=
  k39_gen F M v seed 24 8 12 (by decide) (by decide) (by decide) (by decide) (by decide) hv
end Go.Proofs.Try.K

/- Contract: members of one set are another one's, as far as they are looked at. -/
namespace Go.Proofs.Try.K
open Go Go.Ax Go.Proofs.Try.S
set_option maxRecDepth 100000
set_option linter.unusedSimpArgs false
set_option linter.unusedVariables false
variable (F : Fz) (M : Hp)

def wiI (l : List Int) (cap : Nat) (F0 : Fz) (M0 : Hp) (rb g : Nat) (m : Nat) (σ : Env) (F : Fz) (M : Hp) : Prop :=
  F = F0 ∧ M = M0 ∧ Ax.look σ 4 = some (.pointer (some ⟨rb, 0, none⟩)) ∧ Ax.look σ 7 = some (.slice (some ⟨g, 0, none⟩) l.length cap) ∧ ∃ i : Nat, i + m = l.length ∧ Ax.look σ 8 = some (.int .i64 i)
theorem k38 (a b : V) (seed : Int) (ha : a.ok = true) (hs : Sub a b) : CallsA Try.prog 38 [a.val, b.val, .int .i64 seed] F M (Same F M (.bool true)) := by
  refine callsA_of hm Try.func38 e38 (Nat.le_of_ble_eq_true rfl) ?_
  simp only [c38, go_sem, reduceCtorEq, reduceIte, Nat.reduceEqDiff, Nat.reduceAdd, Nat.reduceLeDiff, Nat.reduceMul, Int.reduceLT, Int.reduceLE, Int.reduceAdd, Int.reduceSub, Int.reduceMul, Int.reduceNeg, Int.reduceToNat, Int.reduceEq]
  intro ra hFa hMa
  simp only [go_sem, reduceCtorEq, reduceIte, Nat.reduceEqDiff, Nat.reduceAdd, Nat.reduceLeDiff, Nat.reduceMul, Int.reduceLT, Int.reduceLE, Int.reduceAdd, Int.reduceSub, Int.reduceMul, Int.reduceNeg, Int.reduceToNat, Int.reduceEq]
  intro rb hFb hMb
  have gb := fresh_of hMb
  simp only [go_sem, reduceCtorEq, reduceIte, Nat.reduceEqDiff, Nat.reduceAdd, Nat.reduceLeDiff, Nat.reduceMul, Int.reduceLT, Int.reduceLE, Int.reduceAdd, Int.reduceSub, Int.reduceMul, Int.reduceNeg, Int.reduceToNat, Int.reduceEq, gb]
  refine callK_of (k39 F _ a seed ha) ?_
  rintro u G M' ⟨hG, l, hl, hm, ⟨rfl, rfl, rfl⟩ | ⟨g, cap, hFg, hMg, rfl, rfl⟩⟩ <;> rw [hG] <;> refine ⟨(fun h => by cases h), ?_⟩
  · simp only [go_sem, reduceCtorEq, reduceIte, Nat.reduceEqDiff, Nat.reduceAdd, Nat.reduceLeDiff, Nat.reduceMul, Int.reduceLT, Int.reduceLE, Int.reduceAdd, Int.reduceSub, Int.reduceMul, Int.reduceNeg, Int.reduceToNat, Int.reduceEq, gb]
    refine loop_of (fun m σ F' M' => F' = F ∧ M' = (M.upd ra ⟨a.cs, 34, 6⟩).upd rb ⟨b.cs, 34, 6⟩ ∧ Ax.look σ 7 = some (.slice none 0 0) ∧ Ax.look σ 8 = some (.int .i64 0)) 0 ?_ ?_
    · exact ⟨rfl, rfl, by simp only [go_sem, reduceCtorEq, reduceIte, Nat.reduceEqDiff, Nat.reduceAdd, Nat.reduceLeDiff, Nat.reduceMul, Int.reduceLT, Int.reduceLE, Int.reduceAdd, Int.reduceSub, Int.reduceMul, Int.reduceNeg, Int.reduceToNat, Int.reduceEq], by simp only [go_sem, reduceCtorEq, reduceIte, Nat.reduceEqDiff, Nat.reduceAdd, Nat.reduceLeDiff, Nat.reduceMul, Int.reduceLT, Int.reduceLE, Int.reduceAdd, Int.reduceSub, Int.reduceMul, Int.reduceNeg, Int.reduceToNat, Int.reduceEq]⟩
    · rintro m σ F' M' ⟨rfl, rfl, h7, h8⟩
      simp only [go_sem, reduceCtorEq, reduceIte, Nat.reduceEqDiff, Nat.reduceAdd, Nat.reduceLeDiff, Nat.reduceMul, Int.reduceLT, Int.reduceLE, Int.reduceAdd, Int.reduceSub, Int.reduceMul, Int.reduceNeg, Int.reduceToNat, Int.reduceEq, h7, h8, Int.lt_irrefl]
      exact endK_drop hMb (endK_drop hMa (endK_same ⟨rfl, rfl, rfl⟩))
  · have g1 := fresh_of hMg
    have g2 := fresh_of g1.2.2
    have fb : ((((M.upd ra ⟨a.cs, 34, 6⟩).upd rb ⟨b.cs, 34, 6⟩).upd g ⟨l.map intV, 3, cap * 1⟩)) rb = some ⟨b.cs, 34, 6⟩ := by
      rw [Hp.upd_ne' g1.2.1]; exact Hp.upd_same _ _ _
    have bb := blk_M (F := F) fb
    have bg := blk_M (F := F) (Hp.upd_same ((M.upd ra ⟨a.cs, 34, 6⟩).upd rb ⟨b.cs, 34, 6⟩) g ⟨l.map intV, 3, cap * 1⟩)
    have kp : Keep M (((M.upd ra ⟨a.cs, 34, 6⟩).upd rb ⟨b.cs, 34, 6⟩).upd g ⟨l.map intV, 3, cap * 1⟩) := (((Keep.refl M).new hMa).new gb.2.2).new g2.2.2
    simp only [go_sem, reduceCtorEq, reduceIte, Nat.reduceEqDiff, Nat.reduceAdd, Nat.reduceLeDiff, Nat.reduceMul, Int.reduceLT, Int.reduceLE, Int.reduceAdd, Int.reduceSub, Int.reduceMul, Int.reduceNeg, Int.reduceToNat, Int.reduceEq, gb]
    generalize ((M.upd ra ⟨a.cs, 34, 6⟩).upd rb ⟨b.cs, 34, 6⟩).upd g ⟨l.map intV, 3, cap * 1⟩ = M2 at *
    refine loop_of (wiI l cap F M2 rb g) l.length ?_ ?_
    · exact ⟨rfl, rfl, by simp only [go_sem, reduceCtorEq, reduceIte, Nat.reduceEqDiff, Nat.reduceAdd, Nat.reduceLeDiff, Nat.reduceMul, Int.reduceLT, Int.reduceLE, Int.reduceAdd, Int.reduceSub, Int.reduceMul, Int.reduceNeg, Int.reduceToNat, Int.reduceEq], by simp only [go_sem, reduceCtorEq, reduceIte, Nat.reduceEqDiff, Nat.reduceAdd, Nat.reduceLeDiff, Nat.reduceMul, Int.reduceLT, Int.reduceLE, Int.reduceAdd, Int.reduceSub, Int.reduceMul, Int.reduceNeg, Int.reduceToNat, Int.reduceEq], 0, by omega, by simp only [go_sem, reduceCtorEq, reduceIte, Nat.reduceEqDiff, Nat.reduceAdd, Nat.reduceLeDiff, Nat.reduceMul, Int.reduceLT, Int.reduceLE, Int.reduceAdd, Int.reduceSub, Int.reduceMul, Int.reduceNeg, Int.reduceToNat, Int.reduceEq] <;> rfl⟩
    · rintro m σ F' M' ⟨rfl, rfl, h4, h7, i, hi, h8⟩
      by_cases hil : (i : Int) < l.length
      · have hi0 : (0 : Int) ≤ i := by omega
        have hil' : i < l.length := by omega
        have hget := get_ints hil'
        have ei : IntKind.i64.wrap ((i : Int) + 1) = i + 1 := w64 (by omega) (by omega)
        obtain ⟨m1, m2, m3⟩ := hm l[i] (List.getElem_mem _)
        have hb := hs _ m1 m2 m3
        simp only [go_sem, reduceCtorEq, reduceIte, Nat.reduceEqDiff, Nat.reduceAdd, Nat.reduceLeDiff, Nat.reduceMul, Int.reduceLT, Int.reduceLE, Int.reduceAdd, Int.reduceSub, Int.reduceMul, Int.reduceNeg, Int.reduceToNat, Int.reduceEq, h4, h7, h8, hil, hi0, Int.toNat_natCast, Nat.mul_one, hget, bb, bg]
        refine callK_same (k40 _ _ b l[i]) ?_
        simp only [go_sem, reduceCtorEq, reduceIte, Nat.reduceEqDiff, Nat.reduceAdd, Nat.reduceLeDiff, Nat.reduceMul, Int.reduceLT, Int.reduceLE, Int.reduceAdd, Int.reduceSub, Int.reduceMul, Int.reduceNeg, Int.reduceToNat, Int.reduceEq, h4, h7, h8, hb, ei]
        exact ⟨m - 1, by omega, rfl, rfl, by simp only [go_sem, reduceCtorEq, reduceIte, Nat.reduceEqDiff, Nat.reduceAdd, Nat.reduceLeDiff, Nat.reduceMul, Int.reduceLT, Int.reduceLE, Int.reduceAdd, Int.reduceSub, Int.reduceMul, Int.reduceNeg, Int.reduceToNat, Int.reduceEq, h4], by simp only [go_sem, reduceCtorEq, reduceIte, Nat.reduceEqDiff, Nat.reduceAdd, Nat.reduceLeDiff, Nat.reduceMul, Int.reduceLT, Int.reduceLE, Int.reduceAdd, Int.reduceSub, Int.reduceMul, Int.reduceNeg, Int.reduceToNat, Int.reduceEq, h7], i + 1, by omega, by simp only [go_sem, reduceCtorEq, reduceIte, Nat.reduceEqDiff, Nat.reduceAdd, Nat.reduceLeDiff, Nat.reduceMul, Int.reduceLT, Int.reduceLE, Int.reduceAdd, Int.reduceSub, Int.reduceMul, Int.reduceNeg, Int.reduceToNat, Int.reduceEq]; rfl⟩
      · simp only [go_sem, reduceCtorEq, reduceIte, Nat.reduceEqDiff, Nat.reduceAdd, Nat.reduceLeDiff, Nat.reduceMul, Int.reduceLT, Int.reduceLE, Int.reduceAdd, Int.reduceSub, Int.reduceMul, Int.reduceNeg, Int.reduceToNat, Int.reduceEq, h4, h7, h8, hil]
        exact endK_keep kp ⟨rfl, rfl, rfl⟩
end Go.Proofs.Try.K
