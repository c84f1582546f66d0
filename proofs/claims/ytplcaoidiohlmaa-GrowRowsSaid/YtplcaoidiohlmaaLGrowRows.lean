/- The law GrowRows, walked: it returns true at every input. -/
import Derived.Test.YtplcaoidiohlmaaK11
import Derived.Test.YtplcaoidiohlmaaK19
import Derived.Test.YtplcaoidiohlmaaK24
namespace Go.Proofs.Ytplcaoidiohlmaa.growRows
open Go Go.Ax Go.Proofs.Try.S Go.Proofs.Try.K
set_option maxRecDepth 100000
set_option linter.unusedSimpArgs false
set_option linter.unusedVariables false
set_option maxHeartbeats 4000000

structure B0 (F0 : Fz) (r : Nat) (ask : List Value) (σ : Env) (F : Fz) (M : Hp) : Prop where
  f : F = F0
  old : Old F M
  fr : M r = some ⟨ask, 25, 2⟩
  h1 : Ax.look σ 1 = some (.pointer (some ⟨r, 0, none⟩))
def oI (F0 : Fz) (r : Nat) (ask : List Value) (m : Nat) (σ : Env) (F : Fz) (M : Hp) : Prop :=
  B0 F0 r ask σ F M ∧ ∃ w : Int, Ax.look σ 3 = some (.int .i64 w) ∧ (w = 8 ∧ m = 3 ∨ w = 16 ∧ m = 2 ∨ w = 32 ∧ m = 1 ∨ w = 64 ∧ m = 0)
def okL (w : Int) (l : List V) : Prop := ∀ x ∈ l, x.ok = true ∧ x.w = w
theorem okL.app {w : Int} {l : List V} {x : V} (h : okL w l) (h1 : x.ok = true) (h2 : x.w = w) : okL w (l ++ [x]) := by
  intro y hy
  rcases List.mem_append.1 hy with hy | hy
  · exact h y hy
  · simp only [List.mem_cons, List.not_mem_nil, or_false] at hy
    rw [hy]; exact ⟨h1, h2⟩
theorem own_ne {e : TypeId} {F : Fz} {M : Hp} {l : List V} {g n c r : Nat} {x : Ent} (h : OwnV e F M (.slice (some ⟨g, 0, none⟩) n c) l) (hr : M r = some x) (hx : ¬ x.elem = e) : ¬ r = g := by
  rcases h with ⟨h, _⟩ | ⟨g', cap, h, _, h3, _⟩
  · cases h
  · cases h
    rintro rfl
    rw [hr] at h3; cases h3; exact hx rfl
def aI (F0 : Fz) (r : Nat) (ask : List Value) (w : Int) (slot top c : Nat) (m : Nat) (σ : Env) (F : Fz) (M : Hp) : Prop :=
  B0 F0 r ask σ F M ∧ Ax.look σ 3 = some (.int .i64 w) ∧ ∃ (i : Nat) (l : List V) (sl : Value), i + m = top ∧ Ax.look σ slot = some (.int .i64 i) ∧ Ax.look σ 4 = some sl ∧ OwnV 28 F M sl l ∧ okL w l ∧ l.length ≤ c + i ∧ (c = 100 → i ≤ l.length)
/-- One by one. -/
def oneI (F0 : Fz) (r : Nat) (ask : List Value) (w : Int) (sl : Value) (b r8 : Nat) (cs : List Value) (x0 : V) (T : List V) (m : Nat) (σ : Env) (F : Fz) (M : Hp) : Prop :=
  B0 F0 r ask σ F M ∧ Ax.look σ 3 = some (.int .i64 w) ∧ Ax.look σ 4 = some sl ∧ Ax.look σ 8 = some (.pointer (some ⟨r8, 0, none⟩)) ∧ blk F M b = some cs ∧ ¬ r = r8 ∧ ¬ b = r8 ∧
  ∃ (j t : Nat) (v : V), j + m = T.length ∧ Ax.look σ 10 = some (.int .i64 (j + 1 : Nat)) ∧ Ax.look σ 9 = some (.int .i64 t) ∧ M r8 = some ⟨v.cs, 28, 6⟩ ∧ v.ok = true ∧ v.w = w ∧ x0.rows (T.take j) = (v, t) ∧ t ≤ j
def tI (F0 : Fz) (r : Nat) (ask : List Value) (w : Int) (r6 : Nat) (l : List V) (sl : Value) (M0 : Hp) (m : Nat) (σ : Env) (F : Fz) (M : Hp) : Prop :=
  F = F0 ∧ M = M0 ∧ Ax.look σ 1 = some (.pointer (some ⟨r, 0, none⟩)) ∧ Ax.look σ 3 = some (.int .i64 w) ∧ Ax.look σ 4 = some sl ∧ Ax.look σ 13 = some (.pointer (some ⟨r6, 0, none⟩)) ∧ ∃ i : Nat, i + m = l.length ∧ Ax.look σ 17 = some (.int .i64 i)

theorem call (W : World) (cs : List Value) (h : Rd (fzOf W) (.cons 1 (.slice 6 48 (.cons 1 (.int .i64) (.cons 1 .bool (.cons 1 (.int .i64) (.cons 1 (.int .i64) (.cons 1 (.int .i64) (.cons 1 (.int .i64) .nil))))))) (.cons 1 (.slice 1 8 (.int .i64)) .nil)) cs) :
  CallsA Try.prog 9 [.agg cs.toArray] (fzOf W) noHp fun r _ _ => r = .bool true := by
  obtain ⟨vV, vN, rfl, hV, hN⟩ := rd_ask h
  obtain ⟨aV, cV, lv, rfl, hlV, _, hlen, _, hcV⟩ := rd_Vs hV
  obtain ⟨aN, cN, ln, rfl, hlN, _, hlenN, _, _, hcN⟩ := rd_ints hN
  refine callsA_of hm Try.func9 e9 (Nat.le_of_ble_eq_true rfl) ?_
  simp only [c9, go_sem, reduceCtorEq, reduceIte, Nat.reduceEqDiff, Nat.reduceAdd, Nat.reduceLeDiff, Nat.reduceMul, Int.reduceLT, Int.reduceLE, Int.reduceAdd, Int.reduceSub, Int.reduceMul, Int.reduceNeg, Int.reduceToNat, Int.reduceEq]
  intro r hF hM
  simp only [go_sem, reduceCtorEq, reduceIte, Nat.reduceEqDiff, Nat.reduceAdd, Nat.reduceLeDiff, Nat.reduceMul, Int.reduceLT, Int.reduceLE, Int.reduceAdd, Int.reduceSub, Int.reduceMul, Int.reduceNeg, Int.reduceToNat, Int.reduceEq]
  refine callK_same (k13 _ _ aV aN lv.length ln.length cV cN) ?_
  cases hh : (decide (100 < (lv.length : Int)) || decide (100 < (ln.length : Int)))
  rotate_left
  · simp only [go_sem, reduceCtorEq, reduceIte, Nat.reduceEqDiff, Nat.reduceAdd, Nat.reduceLeDiff, Nat.reduceMul, Int.reduceLT, Int.reduceLE, Int.reduceAdd, Int.reduceSub, Int.reduceMul, Int.reduceNeg, Int.reduceToNat, Int.reduceEq]
    exact endK_same rfl
  simp only [Bool.or_eq_false_iff, decide_eq_false_iff_not] at hh
  obtain ⟨hv100, hn100⟩ := hh
  simp only [go_sem, reduceCtorEq, reduceIte, Nat.reduceEqDiff, Nat.reduceAdd, Nat.reduceLeDiff, Nat.reduceMul, Int.reduceLT, Int.reduceLE, Int.reduceAdd, Int.reduceSub, Int.reduceMul, Int.reduceNeg, Int.reduceToNat, Int.reduceEq]
  refine loop_of (oI (fzOf W) r [.slice aV lv.length cV, .slice aN ln.length cN]) 3 ?_ ?_
  · exact ⟨⟨rfl, (Old.start _).upd hF, Hp.upd_same _ _ _, by simp only [go_sem, reduceCtorEq, reduceIte, Nat.reduceEqDiff, Nat.reduceAdd, Nat.reduceLeDiff, Nat.reduceMul, Int.reduceLT, Int.reduceLE, Int.reduceAdd, Int.reduceSub, Int.reduceMul, Int.reduceNeg, Int.reduceToNat, Int.reduceEq]⟩, 8, by simp only [go_sem, reduceCtorEq, reduceIte, Nat.reduceEqDiff, Nat.reduceAdd, Nat.reduceLeDiff, Nat.reduceMul, Int.reduceLT, Int.reduceLE, Int.reduceAdd, Int.reduceSub, Int.reduceMul, Int.reduceNeg, Int.reduceToNat, Int.reduceEq], .inl ⟨rfl, rfl⟩⟩
  rintro mo σ F M ⟨⟨rfl, hold, fr, h1⟩, w, h3, hw⟩
  by_cases hw64 : w = 64
  · have e : ¬ w ≤ 32 := by omega
    simp only [go_sem, reduceCtorEq, reduceIte, Nat.reduceEqDiff, Nat.reduceAdd, Nat.reduceLeDiff, Nat.reduceMul, Int.reduceLT, Int.reduceLE, Int.reduceAdd, Int.reduceSub, Int.reduceMul, Int.reduceNeg, Int.reduceToNat, Int.reduceEq, h1, h3, e]
    have cR := k39 (fzOf W) M [] (.slice none 0 0) ⟨by simp, none, 0, by simp, rfl, .inl rfl⟩
    refine callK_same cR ?_
    simp only [rowA, go_sem, reduceCtorEq, reduceIte, Nat.reduceEqDiff, Nat.reduceAdd, Nat.reduceLeDiff, Nat.reduceMul, Int.reduceLT, Int.reduceLE, Int.reduceAdd, Int.reduceSub, Int.reduceMul, Int.reduceNeg, Int.reduceToNat, Int.reduceEq, h1, h3]
    intro r18 hF18 hM18
    simp only [go_sem, reduceCtorEq, reduceIte, Nat.reduceEqDiff, Nat.reduceAdd, Nat.reduceLeDiff, Nat.reduceMul, Int.reduceLT, Int.reduceLE, Int.reduceAdd, Int.reduceSub, Int.reduceMul, Int.reduceNeg, Int.reduceToNat, Int.reduceEq, h1, h3]
    have cS := k40 (fzOf W) (M.upd r18 ⟨V.zero.cs, 28, 6⟩) [] (.slice none 0 0) ⟨by simp, none, 0, by simp, rfl, .inl rfl⟩
    refine callK_same cS ?_
    simp only [stepsA, go_sem, reduceCtorEq, reduceIte, Nat.reduceEqDiff, Nat.reduceAdd, Nat.reduceLeDiff, Nat.reduceMul, Int.reduceLT, Int.reduceLE, Int.reduceAdd, Int.reduceSub, Int.reduceMul, Int.reduceNeg, Int.reduceToNat, Int.reduceEq, h1, h3]
    refine callK_same (k32 _ _ 8 1) ?_
    simp only [go_sem, reduceCtorEq, reduceIte, Nat.reduceEqDiff, Nat.reduceAdd, Nat.reduceLeDiff, Nat.reduceMul, Int.reduceLT, Int.reduceLE, Int.reduceAdd, Int.reduceSub, Int.reduceMul, Int.reduceNeg, Int.reduceToNat, Int.reduceEq, h1, h3]
    refine callK_same (k32 _ _ 16 1) ?_
    simp only [go_sem, reduceCtorEq, reduceIte, Nat.reduceEqDiff, Nat.reduceAdd, Nat.reduceLeDiff, Nat.reduceMul, Int.reduceLT, Int.reduceLE, Int.reduceAdd, Int.reduceSub, Int.reduceMul, Int.reduceNeg, Int.reduceToNat, Int.reduceEq, h1, h3]
    intro rb hFb hMb
    have gb := fresh_of hMb
    simp only [go_sem, reduceCtorEq, reduceIte, Nat.reduceEqDiff, Nat.reduceAdd, Nat.reduceLeDiff, Nat.reduceMul, Int.reduceLT, Int.reduceLE, Int.reduceAdd, Int.reduceSub, Int.reduceMul, Int.reduceNeg, Int.reduceToNat, Int.reduceEq, h1, h3, gb]
    have ea : rowA [V.just 8 1, V.just 16 1] = .tuple #[V.zero.val, .int .i64 1] := by
      simp only [rowA]
      exact if_neg (by decide +kernel)
    have cT := k39 (fzOf W) ((M.upd r18 ⟨V.zero.cs, 28, 6⟩).upd rb ⟨(V.just 8 1).cs ++ (V.just 16 1).cs, 28, 12⟩) [V.just 8 1, V.just 16 1] (.slice (some ⟨rb, 0, none⟩) 2 2) (rdV_flat (cap := 2) (by simp) (by simp) (by rw [blk_upd_same]; simp [V.cs]))
    rw [ea] at cT
    refine callK_same cT ?_
    simp only [go_sem, reduceCtorEq, reduceIte, Nat.reduceEqDiff, Nat.reduceAdd, Nat.reduceLeDiff, Nat.reduceMul, Int.reduceLT, Int.reduceLE, Int.reduceAdd, Int.reduceSub, Int.reduceMul, Int.reduceNeg, Int.reduceToNat, Int.reduceEq, h1, h3, gb]
    intro r22 hF22 hM22
    have g22 := fresh_of hM22
    have g222 := fresh_of g22.2.2
    simp only [go_sem, reduceCtorEq, reduceIte, Nat.reduceEqDiff, Nat.reduceAdd, Nat.reduceLeDiff, Nat.reduceMul, Int.reduceLT, Int.reduceLE, Int.reduceAdd, Int.reduceSub, Int.reduceMul, Int.reduceNeg, Int.reduceToNat, Int.reduceEq, h1, h3, gb, g22, g222]
    refine callK_same (k35 _ _ 1) ?_
    simp only [go_sem, reduceCtorEq, reduceIte, Nat.reduceEqDiff, Nat.reduceAdd, Nat.reduceLeDiff, Nat.reduceMul, Int.reduceLT, Int.reduceLE, Int.reduceAdd, Int.reduceSub, Int.reduceMul, Int.reduceNeg, Int.reduceToNat, Int.reduceEq, h1, h3, gb, g22, g222]
    refine callK_same (k35 _ _ 1) ?_
    simp only [go_sem, reduceCtorEq, reduceIte, Nat.reduceEqDiff, Nat.reduceAdd, Nat.reduceLeDiff, Nat.reduceMul, Int.reduceLT, Int.reduceLE, Int.reduceAdd, Int.reduceSub, Int.reduceMul, Int.reduceNeg, Int.reduceToNat, Int.reduceEq, h1, h3, gb, g22, g222]
    refine callK_same (k35 _ _ 1) ?_
    simp only [go_sem, reduceCtorEq, reduceIte, Nat.reduceEqDiff, Nat.reduceAdd, Nat.reduceLeDiff, Nat.reduceMul, Int.reduceLT, Int.reduceLE, Int.reduceAdd, Int.reduceSub, Int.reduceMul, Int.reduceNeg, Int.reduceToNat, Int.reduceEq, h1, h3, gb, g22, g222]
    refine callK_same (k37 _ _) ?_
    simp only [go_sem, reduceCtorEq, reduceIte, Nat.reduceEqDiff, Nat.reduceAdd, Nat.reduceLeDiff, Nat.reduceMul, Int.reduceLT, Int.reduceLE, Int.reduceAdd, Int.reduceSub, Int.reduceMul, Int.reduceNeg, Int.reduceToNat, Int.reduceEq, h1, h3, gb, g22, g222]
    exact endK_same rfl
  have isw : isW w = true := by
    rcases hw with ⟨rfl, _⟩ | ⟨rfl, _⟩ | ⟨rfl, _⟩ | ⟨rfl, _⟩ <;> first | rfl | (exact absurd rfl hw64)
  have lw := isW_le isw
  have hw32 : w ≤ 32 := by omega
  have hw8 : 8 ≤ w := by omega
  have ew : IntKind.i64.wrap (w * 2) = w * 2 := w64 (by omega) (by omega)
  have eN : ∃ m', m' < mo ∧ (w * 2 = 8 ∧ m' = 3 ∨ w * 2 = 16 ∧ m' = 2 ∨ w * 2 = 32 ∧ m' = 1 ∨ w * 2 = 64 ∧ m' = 0) := ⟨mo - 1, by omega, by omega⟩
  simp only [go_sem, reduceCtorEq, reduceIte, Nat.reduceEqDiff, Nat.reduceAdd, Nat.reduceLeDiff, Nat.reduceMul, Int.reduceLT, Int.reduceLE, Int.reduceAdd, Int.reduceSub, Int.reduceMul, Int.reduceNeg, Int.reduceToNat, Int.reduceEq, h1, h3, hw32]
  refine loop_of (aI (fzOf W) r [.slice aV lv.length cV, .slice aN ln.length cN] w 5 lv.length 0) lv.length ?_ ?_
  · exact ⟨⟨rfl, hold, fr, by simp only [go_sem, reduceCtorEq, reduceIte, Nat.reduceEqDiff, Nat.reduceAdd, Nat.reduceLeDiff, Nat.reduceMul, Int.reduceLT, Int.reduceLE, Int.reduceAdd, Int.reduceSub, Int.reduceMul, Int.reduceNeg, Int.reduceToNat, Int.reduceEq, h1]⟩, by simp only [go_sem, reduceCtorEq, reduceIte, Nat.reduceEqDiff, Nat.reduceAdd, Nat.reduceLeDiff, Nat.reduceMul, Int.reduceLT, Int.reduceLE, Int.reduceAdd, Int.reduceSub, Int.reduceMul, Int.reduceNeg, Int.reduceToNat, Int.reduceEq, h3], 0, [], _, by omega, by simp only [go_sem, reduceCtorEq, reduceIte, Nat.reduceEqDiff, Nat.reduceAdd, Nat.reduceLeDiff, Nat.reduceMul, Int.reduceLT, Int.reduceLE, Int.reduceAdd, Int.reduceSub, Int.reduceMul, Int.reduceNeg, Int.reduceToNat, Int.reduceEq] <;> rfl, by simp only [go_sem, reduceCtorEq, reduceIte, Nat.reduceEqDiff, Nat.reduceAdd, Nat.reduceLeDiff, Nat.reduceMul, Int.reduceLT, Int.reduceLE, Int.reduceAdd, Int.reduceSub, Int.reduceMul, Int.reduceNeg, Int.reduceToNat, Int.reduceEq], .inl ⟨rfl, rfl⟩, (fun x hx => by cases hx), by simp, by omega⟩
  clear h1 h3 hold fr
  rintro ma σ F M ⟨⟨rfl, hold, fr, h1⟩, h3, i, l, sl, hi, h5, h4, own, hok, hll, hz⟩
  have br := blk_M (F := fzOf W) fr
  by_cases hil : (i : Int) < lv.length
  · have hi0 : (0 : Int) ≤ i := by omega
    have hi' : i < lv.length := by omega
    have ei : IntKind.i64.wrap ((i : Int) + 1) = i + 1 := w64 (by omega) (by omega)
    rcases hcV with hcV | ⟨bV, oV, csV, rfl, hbV, hcV⟩
    · rw [hcV] at hi'; simp at hi'
    obtain ⟨d1, d2⟩ := hcV i hi'
    have b0 := hold.blk hbV
    generalize lv[i] = va at d2
    have d3 : csV[oV + i * 6]? = some (.int .i64 va.w) := by
      have := congrArg (fun t => t[0]?) d2
      simpa [V.cs] using this
    by_cases hvw : va.w = w
    rotate_left
    · simp only [go_sem, reduceCtorEq, reduceIte, Nat.reduceEqDiff, Nat.reduceAdd, Nat.reduceLeDiff, Nat.reduceMul, Int.reduceLT, Int.reduceLE, Int.reduceAdd, Int.reduceSub, Int.reduceMul, Int.reduceNeg, Int.reduceToNat, Int.reduceEq, h1, h3, h4, h5, hil, hi0, br, b0, Int.toNat_natCast, Nat.add_zero, d3, hvw, ei]
      exact ⟨ma - 1, by omega, ⟨rfl, hold, fr, by simp only [go_sem, reduceCtorEq, reduceIte, Nat.reduceEqDiff, Nat.reduceAdd, Nat.reduceLeDiff, Nat.reduceMul, Int.reduceLT, Int.reduceLE, Int.reduceAdd, Int.reduceSub, Int.reduceMul, Int.reduceNeg, Int.reduceToNat, Int.reduceEq, h1]⟩, by simp only [go_sem, reduceCtorEq, reduceIte, Nat.reduceEqDiff, Nat.reduceAdd, Nat.reduceLeDiff, Nat.reduceMul, Int.reduceLT, Int.reduceLE, Int.reduceAdd, Int.reduceSub, Int.reduceMul, Int.reduceNeg, Int.reduceToNat, Int.reduceEq, h3], i + 1, l, sl, by omega, by simp only [go_sem, reduceCtorEq, reduceIte, Nat.reduceEqDiff, Nat.reduceAdd, Nat.reduceLeDiff, Nat.reduceMul, Int.reduceLT, Int.reduceLE, Int.reduceAdd, Int.reduceSub, Int.reduceMul, Int.reduceNeg, Int.reduceToNat, Int.reduceEq]; rfl, by simp only [go_sem, reduceCtorEq, reduceIte, Nat.reduceEqDiff, Nat.reduceAdd, Nat.reduceLeDiff, Nat.reduceMul, Int.reduceLT, Int.reduceLE, Int.reduceAdd, Int.reduceSub, Int.reduceMul, Int.reduceNeg, Int.reduceToNat, Int.reduceEq, h4], own, hok, by omega, by omega⟩
    simp only [go_sem, reduceCtorEq, reduceIte, Nat.reduceEqDiff, Nat.reduceAdd, Nat.reduceLeDiff, Nat.reduceMul, Int.reduceLT, Int.reduceLE, Int.reduceAdd, Int.reduceSub, Int.reduceMul, Int.reduceNeg, Int.reduceToNat, Int.reduceEq, h1, h3, h4, h5, hil, hi0, br, b0, Int.toNat_natCast, Nat.add_zero, d3, hvw, d1, d2]
    refine callK_same (k18 _ _ va) ?_
    cases hva : va.ok
    · simp only [go_sem, reduceCtorEq, reduceIte, Nat.reduceEqDiff, Nat.reduceAdd, Nat.reduceLeDiff, Nat.reduceMul, Int.reduceLT, Int.reduceLE, Int.reduceAdd, Int.reduceSub, Int.reduceMul, Int.reduceNeg, Int.reduceToNat, Int.reduceEq, h1, h3, h4, h5, ei]
      exact ⟨ma - 1, by omega, ⟨rfl, hold, fr, by simp only [go_sem, reduceCtorEq, reduceIte, Nat.reduceEqDiff, Nat.reduceAdd, Nat.reduceLeDiff, Nat.reduceMul, Int.reduceLT, Int.reduceLE, Int.reduceAdd, Int.reduceSub, Int.reduceMul, Int.reduceNeg, Int.reduceToNat, Int.reduceEq, h1]⟩, by simp only [go_sem, reduceCtorEq, reduceIte, Nat.reduceEqDiff, Nat.reduceAdd, Nat.reduceLeDiff, Nat.reduceMul, Int.reduceLT, Int.reduceLE, Int.reduceAdd, Int.reduceSub, Int.reduceMul, Int.reduceNeg, Int.reduceToNat, Int.reduceEq, h3], i + 1, l, sl, by omega, by simp only [go_sem, reduceCtorEq, reduceIte, Nat.reduceEqDiff, Nat.reduceAdd, Nat.reduceLeDiff, Nat.reduceMul, Int.reduceLT, Int.reduceLE, Int.reduceAdd, Int.reduceSub, Int.reduceMul, Int.reduceNeg, Int.reduceToNat, Int.reduceEq]; rfl, by simp only [go_sem, reduceCtorEq, reduceIte, Nat.reduceEqDiff, Nat.reduceAdd, Nat.reduceLeDiff, Nat.reduceMul, Int.reduceLT, Int.reduceLE, Int.reduceAdd, Int.reduceSub, Int.reduceMul, Int.reduceNeg, Int.reduceToNat, Int.reduceEq, h4], own, hok, by omega, by omega⟩
    simp only [go_sem, reduceCtorEq, reduceIte, Nat.reduceEqDiff, Nat.reduceAdd, Nat.reduceLeDiff, Nat.reduceMul, Int.reduceLT, Int.reduceLE, Int.reduceAdd, Int.reduceSub, Int.reduceMul, Int.reduceNeg, Int.reduceToNat, Int.reduceEq, h1, h3, h4, h5, hil, hi0, br, b0, Int.toNat_natCast, d1, d2]
    intro rb hFb hMb
    simp only [go_sem, reduceCtorEq, reduceIte, Nat.reduceEqDiff, Nat.reduceAdd, Nat.reduceLeDiff, Nat.reduceMul, Int.reduceLT, Int.reduceLE, Int.reduceAdd, Int.reduceSub, Int.reduceMul, Int.reduceNeg, Int.reduceToNat, Int.reduceEq, h1, h3, h4, h5]
    refine apV_of (own.new hMb) (ys := [va]) ⟨rfl, .inr ⟨⟨rb, 0, none⟩, 1, rfl, .inr ⟨rb, 0, _, rfl, blk_upd_same, by simp [V.cs]⟩⟩⟩ (by simp) (by simp; omega) ?_
    rintro g cap M2 hgo rfl own2
    have gn : ¬ r = g := by
      rcases hgo with h | ⟨c, rfl⟩
      · exact (ne_of_none (fresh_of h).2.2 fr).1
      · exact own_ne own fr (by simp)
    have gF : fzOf W g = none := by
      rcases own2 with ⟨h, _⟩ | ⟨g', cap', h, hF', _⟩
      · cases h
      · cases h; exact hF'
    simp only [go_sem, reduceCtorEq, reduceIte, Nat.reduceEqDiff, Nat.reduceAdd, Nat.reduceLeDiff, Nat.reduceMul, Int.reduceLT, Int.reduceLE, Int.reduceAdd, Int.reduceSub, Int.reduceMul, Int.reduceNeg, Int.reduceToNat, Int.reduceEq, h1, h3, h4, h5, ei]
    refine ⟨ma - 1, by omega, ⟨rfl, (hold.upd hFb).upd gF, ?_, by simp only [go_sem, reduceCtorEq, reduceIte, Nat.reduceEqDiff, Nat.reduceAdd, Nat.reduceLeDiff, Nat.reduceMul, Int.reduceLT, Int.reduceLE, Int.reduceAdd, Int.reduceSub, Int.reduceMul, Int.reduceNeg, Int.reduceToNat, Int.reduceEq, h1]⟩, by simp only [go_sem, reduceCtorEq, reduceIte, Nat.reduceEqDiff, Nat.reduceAdd, Nat.reduceLeDiff, Nat.reduceMul, Int.reduceLT, Int.reduceLE, Int.reduceAdd, Int.reduceSub, Int.reduceMul, Int.reduceNeg, Int.reduceToNat, Int.reduceEq, h3], i + 1, l ++ [va], _, by omega, by simp only [go_sem, reduceCtorEq, reduceIte, Nat.reduceEqDiff, Nat.reduceAdd, Nat.reduceLeDiff, Nat.reduceMul, Int.reduceLT, Int.reduceLE, Int.reduceAdd, Int.reduceSub, Int.reduceMul, Int.reduceNeg, Int.reduceToNat, Int.reduceEq]; rfl, by simp only [go_sem, reduceCtorEq, reduceIte, Nat.reduceEqDiff, Nat.reduceAdd, Nat.reduceLeDiff, Nat.reduceMul, Int.reduceLT, Int.reduceLE, Int.reduceAdd, Int.reduceSub, Int.reduceMul, Int.reduceNeg, Int.reduceToNat, Int.reduceEq] <;> rfl, own2, hok.app hva hvw, by simp; omega, by omega⟩
    rw [Hp.upd_ne' gn, Hp.upd_ne' (ne_of_none hMb fr).1]; exact fr
  simp only [go_sem, reduceCtorEq, reduceIte, Nat.reduceEqDiff, Nat.reduceAdd, Nat.reduceLeDiff, Nat.reduceMul, Int.reduceLT, Int.reduceLE, Int.reduceAdd, Int.reduceSub, Int.reduceMul, Int.reduceNeg, Int.reduceToNat, Int.reduceEq, h1, h3, h4, h5, hil, br]
  have hl100 : l.length ≤ 100 := by omega
  refine loop_of (aI (fzOf W) r [.slice aV lv.length cV, .slice aN ln.length cN] w 6 60 100) 60 ?_ ?_
  · exact ⟨⟨rfl, hold, fr, by simp only [go_sem, reduceCtorEq, reduceIte, Nat.reduceEqDiff, Nat.reduceAdd, Nat.reduceLeDiff, Nat.reduceMul, Int.reduceLT, Int.reduceLE, Int.reduceAdd, Int.reduceSub, Int.reduceMul, Int.reduceNeg, Int.reduceToNat, Int.reduceEq, h1]⟩, by simp only [go_sem, reduceCtorEq, reduceIte, Nat.reduceEqDiff, Nat.reduceAdd, Nat.reduceLeDiff, Nat.reduceMul, Int.reduceLT, Int.reduceLE, Int.reduceAdd, Int.reduceSub, Int.reduceMul, Int.reduceNeg, Int.reduceToNat, Int.reduceEq, h3], 0, l, _, by omega, by simp only [go_sem, reduceCtorEq, reduceIte, Nat.reduceEqDiff, Nat.reduceAdd, Nat.reduceLeDiff, Nat.reduceMul, Int.reduceLT, Int.reduceLE, Int.reduceAdd, Int.reduceSub, Int.reduceMul, Int.reduceNeg, Int.reduceToNat, Int.reduceEq] <;> rfl, by simp only [go_sem, reduceCtorEq, reduceIte, Nat.reduceEqDiff, Nat.reduceAdd, Nat.reduceLeDiff, Nat.reduceMul, Int.reduceLT, Int.reduceLE, Int.reduceAdd, Int.reduceSub, Int.reduceMul, Int.reduceNeg, Int.reduceToNat, Int.reduceEq, h4], own, hok, by omega, by omega⟩
  clear h1 h3 h4 h5 hold fr br own hok hll hl100 hi hil hz i l sl
  rintro mb σ F M ⟨⟨rfl, hold, fr, h1⟩, h3, i, l, sl, hi, h6, h4, own, hok, hll, hil'⟩
  have br := blk_M (F := fzOf W) fr
  have mw : ∀ x : Int, isN (x % 2 ^ w.toNat) w = true := fun x => by
    have hp := pow_le62 (w := w) (by omega)
    have h1 := Int.emod_nonneg x (b := 2 ^ w.toNat) (by omega)
    have h2 := Int.emod_lt_of_pos x (b := 2 ^ w.toNat) (by omega)
    unfold isN mostV
    simp only [Bool.and_eq_true, decide_eq_true_eq]; omega
  by_cases hil : (i : Int) < 60
  · have ei : IntKind.i64.wrap ((i : Int) + 1) = i + 1 := w64 (by omega) (by omega)
    by_cases hn0 : (0 : Int) < ln.length
    · have m1 : (i : Int).tmod ln.length = ((i % ln.length : Nat) : Int) := by
        rw [Int.tmod_eq_emod_of_nonneg (by omega)]; rfl
      have mlt : i % ln.length < ln.length := Nat.mod_lt _ (by omega)
      have m2 : (((i % ln.length : Nat) : Int)) < ln.length := by omega
      have m3 : (0 : Int) ≤ ((i % ln.length : Nat) : Int) := by omega
      have m4 : ¬ (ln.length : Int) = 0 := by omega
      rcases hcN with hcN | ⟨bN, oN, csN, rfl, hbN, hcN⟩
      · rw [hcN] at hn0; simp at hn0
      have d1 := hcN (i % ln.length) mlt
      generalize i % ln.length = k at *
      simp only [intV] at d1
      have bn := hold.blk hbN
      simp only [go_sem, reduceCtorEq, reduceIte, Nat.reduceEqDiff, Nat.reduceAdd, Nat.reduceLeDiff, Nat.reduceMul, Int.reduceLT, Int.reduceLE, Int.reduceAdd, Int.reduceSub, Int.reduceMul, Int.reduceNeg, Int.reduceToNat, Int.reduceEq, h1, h3, h4, h6, hil, br, hn0, m1, m2, m3, m4, bn, d1, not_false_eq_true, Int.toNat_natCast, Nat.mul_one]
      generalize IntKind.i64.wrap _ = n
      refine callK_same (k33 _ _ _ w lw.1 lw.2) ?_
      simp only [go_sem, reduceCtorEq, reduceIte, Nat.reduceEqDiff, Nat.reduceAdd, Nat.reduceLeDiff, Nat.reduceMul, Int.reduceLT, Int.reduceLE, Int.reduceAdd, Int.reduceSub, Int.reduceMul, Int.reduceNeg, Int.reduceToNat, Int.reduceEq, h1, h3, h4, h6]
      refine callK_same (k32 _ _ w _) ?_
      simp only [go_sem, reduceCtorEq, reduceIte, Nat.reduceEqDiff, Nat.reduceAdd, Nat.reduceLeDiff, Nat.reduceMul, Int.reduceLT, Int.reduceLE, Int.reduceAdd, Int.reduceSub, Int.reduceMul, Int.reduceNeg, Int.reduceToNat, Int.reduceEq, h1, h3, h4, h6]
      intro rb hFb hMb
      simp only [go_sem, reduceCtorEq, reduceIte, Nat.reduceEqDiff, Nat.reduceAdd, Nat.reduceLeDiff, Nat.reduceMul, Int.reduceLT, Int.reduceLE, Int.reduceAdd, Int.reduceSub, Int.reduceMul, Int.reduceNeg, Int.reduceToNat, Int.reduceEq, h1, h3, h4, h6]
      refine apV_of (own.new hMb) (ys := [V.just w (n % 2 ^ w.toNat)]) ⟨rfl, .inr ⟨⟨rb, 0, none⟩, 1, rfl, .inr ⟨rb, 0, _, rfl, blk_upd_same, by simp [V.cs]⟩⟩⟩ (by simp) (by simp; omega) ?_
      rintro g cap M2 hgo rfl own2
      have gn : ¬ r = g := by
        rcases hgo with h | ⟨c, rfl⟩
        · exact (ne_of_none (fresh_of h).2.2 fr).1
        · exact own_ne own fr (by simp)
      have gF : fzOf W g = none := by
        rcases own2 with ⟨h, _⟩ | ⟨g', cap', h, hF', _⟩
        · cases h
        · cases h; exact hF'
      simp only [go_sem, reduceCtorEq, reduceIte, Nat.reduceEqDiff, Nat.reduceAdd, Nat.reduceLeDiff, Nat.reduceMul, Int.reduceLT, Int.reduceLE, Int.reduceAdd, Int.reduceSub, Int.reduceMul, Int.reduceNeg, Int.reduceToNat, Int.reduceEq, h1, h3, h4, h6, ei]
      refine ⟨mb - 1, by omega, ⟨rfl, (hold.upd hFb).upd gF, ?_, by simp only [go_sem, reduceCtorEq, reduceIte, Nat.reduceEqDiff, Nat.reduceAdd, Nat.reduceLeDiff, Nat.reduceMul, Int.reduceLT, Int.reduceLE, Int.reduceAdd, Int.reduceSub, Int.reduceMul, Int.reduceNeg, Int.reduceToNat, Int.reduceEq, h1]⟩, by simp only [go_sem, reduceCtorEq, reduceIte, Nat.reduceEqDiff, Nat.reduceAdd, Nat.reduceLeDiff, Nat.reduceMul, Int.reduceLT, Int.reduceLE, Int.reduceAdd, Int.reduceSub, Int.reduceMul, Int.reduceNeg, Int.reduceToNat, Int.reduceEq, h3], i + 1, l ++ [V.just w (n % 2 ^ w.toNat)], _, by omega, by simp only [go_sem, reduceCtorEq, reduceIte, Nat.reduceEqDiff, Nat.reduceAdd, Nat.reduceLeDiff, Nat.reduceMul, Int.reduceLT, Int.reduceLE, Int.reduceAdd, Int.reduceSub, Int.reduceMul, Int.reduceNeg, Int.reduceToNat, Int.reduceEq]; rfl, by simp only [go_sem, reduceCtorEq, reduceIte, Nat.reduceEqDiff, Nat.reduceAdd, Nat.reduceLeDiff, Nat.reduceMul, Int.reduceLT, Int.reduceLE, Int.reduceAdd, Int.reduceSub, Int.reduceMul, Int.reduceNeg, Int.reduceToNat, Int.reduceEq] <;> rfl, own2, hok.app (just_ok isw (mw n)) rfl, by simp; omega, by intro _; simp; omega⟩
      rw [Hp.upd_ne' gn, Hp.upd_ne' (ne_of_none hMb fr).1]; exact fr

    · simp only [go_sem, reduceCtorEq, reduceIte, Nat.reduceEqDiff, Nat.reduceAdd, Nat.reduceLeDiff, Nat.reduceMul, Int.reduceLT, Int.reduceLE, Int.reduceAdd, Int.reduceSub, Int.reduceMul, Int.reduceNeg, Int.reduceToNat, Int.reduceEq, h1, h3, h4, h6, hil, br, hn0]
      generalize IntKind.i64.wrap _ = n
      refine callK_same (k33 _ _ _ w lw.1 lw.2) ?_
      simp only [go_sem, reduceCtorEq, reduceIte, Nat.reduceEqDiff, Nat.reduceAdd, Nat.reduceLeDiff, Nat.reduceMul, Int.reduceLT, Int.reduceLE, Int.reduceAdd, Int.reduceSub, Int.reduceMul, Int.reduceNeg, Int.reduceToNat, Int.reduceEq, h1, h3, h4, h6]
      refine callK_same (k32 _ _ w _) ?_
      simp only [go_sem, reduceCtorEq, reduceIte, Nat.reduceEqDiff, Nat.reduceAdd, Nat.reduceLeDiff, Nat.reduceMul, Int.reduceLT, Int.reduceLE, Int.reduceAdd, Int.reduceSub, Int.reduceMul, Int.reduceNeg, Int.reduceToNat, Int.reduceEq, h1, h3, h4, h6]
      intro rb hFb hMb
      simp only [go_sem, reduceCtorEq, reduceIte, Nat.reduceEqDiff, Nat.reduceAdd, Nat.reduceLeDiff, Nat.reduceMul, Int.reduceLT, Int.reduceLE, Int.reduceAdd, Int.reduceSub, Int.reduceMul, Int.reduceNeg, Int.reduceToNat, Int.reduceEq, h1, h3, h4, h6]
      refine apV_of (own.new hMb) (ys := [V.just w (n % 2 ^ w.toNat)]) ⟨rfl, .inr ⟨⟨rb, 0, none⟩, 1, rfl, .inr ⟨rb, 0, _, rfl, blk_upd_same, by simp [V.cs]⟩⟩⟩ (by simp) (by simp; omega) ?_
      rintro g cap M2 hgo rfl own2
      have gn : ¬ r = g := by
        rcases hgo with h | ⟨c, rfl⟩
        · exact (ne_of_none (fresh_of h).2.2 fr).1
        · exact own_ne own fr (by simp)
      have gF : fzOf W g = none := by
        rcases own2 with ⟨h, _⟩ | ⟨g', cap', h, hF', _⟩
        · cases h
        · cases h; exact hF'
      simp only [go_sem, reduceCtorEq, reduceIte, Nat.reduceEqDiff, Nat.reduceAdd, Nat.reduceLeDiff, Nat.reduceMul, Int.reduceLT, Int.reduceLE, Int.reduceAdd, Int.reduceSub, Int.reduceMul, Int.reduceNeg, Int.reduceToNat, Int.reduceEq, h1, h3, h4, h6, ei]
      refine ⟨mb - 1, by omega, ⟨rfl, (hold.upd hFb).upd gF, ?_, by simp only [go_sem, reduceCtorEq, reduceIte, Nat.reduceEqDiff, Nat.reduceAdd, Nat.reduceLeDiff, Nat.reduceMul, Int.reduceLT, Int.reduceLE, Int.reduceAdd, Int.reduceSub, Int.reduceMul, Int.reduceNeg, Int.reduceToNat, Int.reduceEq, h1]⟩, by simp only [go_sem, reduceCtorEq, reduceIte, Nat.reduceEqDiff, Nat.reduceAdd, Nat.reduceLeDiff, Nat.reduceMul, Int.reduceLT, Int.reduceLE, Int.reduceAdd, Int.reduceSub, Int.reduceMul, Int.reduceNeg, Int.reduceToNat, Int.reduceEq, h3], i + 1, l ++ [V.just w (n % 2 ^ w.toNat)], _, by omega, by simp only [go_sem, reduceCtorEq, reduceIte, Nat.reduceEqDiff, Nat.reduceAdd, Nat.reduceLeDiff, Nat.reduceMul, Int.reduceLT, Int.reduceLE, Int.reduceAdd, Int.reduceSub, Int.reduceMul, Int.reduceNeg, Int.reduceToNat, Int.reduceEq]; rfl, by simp only [go_sem, reduceCtorEq, reduceIte, Nat.reduceEqDiff, Nat.reduceAdd, Nat.reduceLeDiff, Nat.reduceMul, Int.reduceLT, Int.reduceLE, Int.reduceAdd, Int.reduceSub, Int.reduceMul, Int.reduceNeg, Int.reduceToNat, Int.reduceEq] <;> rfl, own2, hok.app (just_ok isw (mw n)) rfl, by simp; omega, by intro _; simp; omega⟩
      rw [Hp.upd_ne' gn, Hp.upd_ne' (ne_of_none hMb fr).1]; exact fr

  · have hl60 : 60 ≤ l.length := by have := hil' rfl; omega
    have hl160 : l.length ≤ 160 := by omega
    cases l with
    | nil => simp at hl60
    | cons x0 T =>
    have rdl := own.rd (by omega)
    have rdl' := rdl
    obtain ⟨hle, ad, cap, hlc, rfl, hread⟩ := rdl
    rcases hread with hread | ⟨b, o, cs, rfl, hb, hc⟩
    · cases hread
    obtain ⟨d1, d2⟩ := hc 0 (by simp)
    simp only [List.getElem_cons_zero, Nat.zero_mul, Nat.add_zero] at d1 d2
    have hT : T.length ≤ 159 := by simpa using hl160
    have n0 : (0 : Int) < (T.length : Int) + 1 := by omega
    obtain ⟨ox0, wx0⟩ := hok x0 (by simp)
    have okT : ∀ x ∈ T, x.ok = true ∧ x.w = x0.w := fun x hx => by rw [wx0]; exact hok x (by simp [hx])
    simp only [go_sem, reduceCtorEq, reduceIte, Nat.reduceEqDiff, Nat.reduceAdd, Nat.reduceLeDiff, Nat.reduceMul, Int.reduceLT, Int.reduceLE, Int.reduceAdd, Int.reduceSub, Int.reduceMul, Int.reduceNeg, Int.reduceToNat, Int.reduceEq, h1, h3, h4, h6, hil, List.length_cons, Int.natCast_succ, n0, hb, d1, d2, Nat.zero_mul, Nat.add_zero]
    intro r8 hF8 hM8
    have g8 := ne_of_none hM8 fr
    have b8 := blk_ne hb hF8 hM8
    simp only [go_sem, reduceCtorEq, reduceIte, Nat.reduceEqDiff, Nat.reduceAdd, Nat.reduceLeDiff, Nat.reduceMul, Int.reduceLT, Int.reduceLE, Int.reduceAdd, Int.reduceSub, Int.reduceMul, Int.reduceNeg, Int.reduceToNat, Int.reduceEq, h1, h3, h4, h6]
    refine loop_of (oneI (fzOf W) r [.slice aV lv.length cV, .slice aN ln.length cN] w (.slice (some ⟨b, o, none⟩) (T.length + 1) cap) b r8 cs x0 T) T.length ?_ ?_
    · refine ⟨⟨rfl, hold.upd hF8, by rw [Hp.upd_ne' g8.1]; exact fr, by simp only [go_sem, reduceCtorEq, reduceIte, Nat.reduceEqDiff, Nat.reduceAdd, Nat.reduceLeDiff, Nat.reduceMul, Int.reduceLT, Int.reduceLE, Int.reduceAdd, Int.reduceSub, Int.reduceMul, Int.reduceNeg, Int.reduceToNat, Int.reduceEq, h1]⟩, by simp only [go_sem, reduceCtorEq, reduceIte, Nat.reduceEqDiff, Nat.reduceAdd, Nat.reduceLeDiff, Nat.reduceMul, Int.reduceLT, Int.reduceLE, Int.reduceAdd, Int.reduceSub, Int.reduceMul, Int.reduceNeg, Int.reduceToNat, Int.reduceEq, h3], by simp only [go_sem, reduceCtorEq, reduceIte, Nat.reduceEqDiff, Nat.reduceAdd, Nat.reduceLeDiff, Nat.reduceMul, Int.reduceLT, Int.reduceLE, Int.reduceAdd, Int.reduceSub, Int.reduceMul, Int.reduceNeg, Int.reduceToNat, Int.reduceEq, h4], by simp only [go_sem, reduceCtorEq, reduceIte, Nat.reduceEqDiff, Nat.reduceAdd, Nat.reduceLeDiff, Nat.reduceMul, Int.reduceLT, Int.reduceLE, Int.reduceAdd, Int.reduceSub, Int.reduceMul, Int.reduceNeg, Int.reduceToNat, Int.reduceEq], by rw [blk_upd_ne b8]; exact hb, g8.1, b8, 0, 0, x0, by omega, by simp only [go_sem, reduceCtorEq, reduceIte, Nat.reduceEqDiff, Nat.reduceAdd, Nat.reduceLeDiff, Nat.reduceMul, Int.reduceLT, Int.reduceLE, Int.reduceAdd, Int.reduceSub, Int.reduceMul, Int.reduceNeg, Int.reduceToNat, Int.reduceEq] <;> rfl, by simp only [go_sem, reduceCtorEq, reduceIte, Nat.reduceEqDiff, Nat.reduceAdd, Nat.reduceLeDiff, Nat.reduceMul, Int.reduceLT, Int.reduceLE, Int.reduceAdd, Int.reduceSub, Int.reduceMul, Int.reduceNeg, Int.reduceToNat, Int.reduceEq] <;> rfl, Hp.upd_same _ _ _, ox0, wx0, rfl, by omega⟩
    clear h1 h3 h4 h6 hold fr br b8 g8 hM8 hF8 hb rdl' own
    rintro mc σ F M ⟨⟨rfl, hold, fr, h1⟩, h3, h4, h8, hb, nr8, nb8, j, t, v, hj, h10, h9, f8, hv, hvw, hrow, htj⟩
    have b8 := blk_M (F := fzOf W) f8
    have e10 : ((j + 1 : Nat) : Int) = (j : Int) + 1 := rfl
    rw [e10] at h10
    by_cases hjl : (j : Int) + 1 < (T.length : Int) + 1
    · have hj0 : (0 : Int) ≤ (j : Int) + 1 := by omega
      have hj' : j < T.length := by omega
      have ej : IntKind.i64.wrap ((j : Int) + 1 + 1) = ((j + 1 + 1 : Nat) : Int) := w64 (by omega) (by omega)
      have et : IntKind.i64.wrap ((t : Int) + 1) = ((t + 1 : Nat) : Int) := w64 (by omega) (by omega)
      have htn : ((j : Int) + 1).toNat = j + 1 := by omega
      obtain ⟨d1, d2⟩ := hc (j + 1) (by simpa using hj')
      simp only [List.getElem_cons_succ] at d2
      obtain ⟨oy, wy⟩ := hok T[j] (by simp)
      have et2 : T.take (j + 1) = T.take j ++ [T[j]] := List.take_succ_eq_append_getElem hj'
      generalize T[j] = y at *
      have hp : V.pair v y = true := by simp [V.pair, hv, oy, hvw, wy]
      have os := out_spec hv oy (by rw [wy, hvw])
      have hrow2 : x0.rows (T.take (j + 1)) = (v.out y, t + (if v.out y = v then 0 else 1)) := by
        rw [et2, rows_app, hrow]
        simp [V.rows]
      generalize hx : v.out y = x at *
      simp only [go_sem, reduceCtorEq, reduceIte, Nat.reduceEqDiff, Nat.reduceAdd, Nat.reduceLeDiff, Nat.reduceMul, Int.reduceLT, Int.reduceLE, Int.reduceAdd, Int.reduceSub, Int.reduceMul, Int.reduceNeg, Int.reduceToNat, Int.reduceEq, h1, h3, h4, h8, h9, h10, hjl, hj0, htn, hb, d1, d2, b8, List.length_cons, Int.natCast_succ]
      have cw := k34 (fzOf W) M v y
      rw [if_pos hp, hx] at cw
      refine callK_same cw ?_
      simp only [go_sem, reduceCtorEq, reduceIte, Nat.reduceEqDiff, Nat.reduceAdd, Nat.reduceLeDiff, Nat.reduceMul, Int.reduceLT, Int.reduceLE, Int.reduceAdd, Int.reduceSub, Int.reduceMul, Int.reduceNeg, Int.reduceToNat, Int.reduceEq, h1, h3, h4, h8, h9, h10]
      intro r11 hF11 hM11
      have g11 := ne_of_none hM11 f8
      have b11 := blk_ne hb hF11 hM11
      simp only [go_sem, reduceCtorEq, reduceIte, Nat.reduceEqDiff, Nat.reduceAdd, Nat.reduceLeDiff, Nat.reduceMul, Int.reduceLT, Int.reduceLE, Int.reduceAdd, Int.reduceSub, Int.reduceMul, Int.reduceNeg, Int.reduceToNat, Int.reduceEq, h1, h3, h4, h8, h9, h10, g11]
      refine callK_same (k35 _ _ 0) ?_
      have fin : ∀ σ' (t' : Nat), Ax.look σ' 1 = Ax.look σ 1 → Ax.look σ' 3 = Ax.look σ 3 → Ax.look σ' 4 = Ax.look σ 4 → Ax.look σ' 8 = Ax.look σ 8 → Ax.look σ' 9 = some (.int .i64 t') → Ax.look σ' 10 = some (.int .i64 (j + 1 + 1 : Nat)) → t' = t + (if x = v then 0 else 1) →
          ∃ m, m < mc ∧ oneI (fzOf W) r [.slice aV lv.length cV, .slice aN ln.length cN] w (.slice (some ⟨b, o, none⟩) (T.length + 1) cap) b r8 cs x0 T m σ' (fzOf W) ((M.upd r8 ⟨x.cs, 28, 6⟩).upd r11 ⟨x.cs, 28, 6⟩) := by
        intro σ' t' e1 e3 e4 e8 e9 e10 ht
        have k8 : fzOf W r8 = none := by
          cases hf : fzOf W r8 with
          | none => rfl
          | some c => have := hold r8 (by rw [hf]; simp); rw [f8] at this; cases this
        refine ⟨mc - 1, by omega, ⟨rfl, (hold.upd k8).upd hF11, ?_, e1.trans h1⟩, e3.trans h3, e4.trans h4, e8.trans h8, ?_, nr8, nb8, j + 1, t', x, by omega, e10, e9, ?_, os.ok, by rw [os.w, hvw], by rw [hrow2, ht], by rw [ht]; split <;> omega⟩
        · rw [Hp.upd_ne' (ne_of_none hM11 fr).1, Hp.upd_ne' nr8]; exact fr
        · rw [blk_upd_ne b11, blk_upd_ne nb8]; exact hb
        · rw [Hp.upd_ne' g11.1]; exact Hp.upd_same _ _ _
      cases e : decide (x = v)
      · simp only [go_sem, reduceCtorEq, reduceIte, Nat.reduceEqDiff, Nat.reduceAdd, Nat.reduceLeDiff, Nat.reduceMul, Int.reduceLT, Int.reduceLE, Int.reduceAdd, Int.reduceSub, Int.reduceMul, Int.reduceNeg, Int.reduceToNat, Int.reduceEq, h1, h3, h4, h8, h9, h10, g11, b8, f8, e, ej, et]
        simp only [setH, go_sem, reduceCtorEq, reduceIte, Nat.reduceEqDiff, Nat.reduceAdd, Nat.reduceLeDiff, Nat.reduceMul, Int.reduceLT, Int.reduceLE, Int.reduceAdd, Int.reduceSub, Int.reduceMul, Int.reduceNeg, Int.reduceToNat, Int.reduceEq]
        exact fin _ (t + 1) (by simp only [go_sem, reduceCtorEq, reduceIte, Nat.reduceEqDiff, Nat.reduceAdd, Nat.reduceLeDiff, Nat.reduceMul, Int.reduceLT, Int.reduceLE, Int.reduceAdd, Int.reduceSub, Int.reduceMul, Int.reduceNeg, Int.reduceToNat, Int.reduceEq]) (by simp only [go_sem, reduceCtorEq, reduceIte, Nat.reduceEqDiff, Nat.reduceAdd, Nat.reduceLeDiff, Nat.reduceMul, Int.reduceLT, Int.reduceLE, Int.reduceAdd, Int.reduceSub, Int.reduceMul, Int.reduceNeg, Int.reduceToNat, Int.reduceEq]) (by simp only [go_sem, reduceCtorEq, reduceIte, Nat.reduceEqDiff, Nat.reduceAdd, Nat.reduceLeDiff, Nat.reduceMul, Int.reduceLT, Int.reduceLE, Int.reduceAdd, Int.reduceSub, Int.reduceMul, Int.reduceNeg, Int.reduceToNat, Int.reduceEq]) (by simp only [go_sem, reduceCtorEq, reduceIte, Nat.reduceEqDiff, Nat.reduceAdd, Nat.reduceLeDiff, Nat.reduceMul, Int.reduceLT, Int.reduceLE, Int.reduceAdd, Int.reduceSub, Int.reduceMul, Int.reduceNeg, Int.reduceToNat, Int.reduceEq]) (by simp only [go_sem, reduceCtorEq, reduceIte, Nat.reduceEqDiff, Nat.reduceAdd, Nat.reduceLeDiff, Nat.reduceMul, Int.reduceLT, Int.reduceLE, Int.reduceAdd, Int.reduceSub, Int.reduceMul, Int.reduceNeg, Int.reduceToNat, Int.reduceEq]) (by simp only [go_sem, reduceCtorEq, reduceIte, Nat.reduceEqDiff, Nat.reduceAdd, Nat.reduceLeDiff, Nat.reduceMul, Int.reduceLT, Int.reduceLE, Int.reduceAdd, Int.reduceSub, Int.reduceMul, Int.reduceNeg, Int.reduceToNat, Int.reduceEq]) (by rw [if_neg (of_decide_eq_false e)])
      · simp only [go_sem, reduceCtorEq, reduceIte, Nat.reduceEqDiff, Nat.reduceAdd, Nat.reduceLeDiff, Nat.reduceMul, Int.reduceLT, Int.reduceLE, Int.reduceAdd, Int.reduceSub, Int.reduceMul, Int.reduceNeg, Int.reduceToNat, Int.reduceEq, h1, h3, h4, h8, h9, h10, g11, b8, f8, e, ej]
        simp only [setH, go_sem, reduceCtorEq, reduceIte, Nat.reduceEqDiff, Nat.reduceAdd, Nat.reduceLeDiff, Nat.reduceMul, Int.reduceLT, Int.reduceLE, Int.reduceAdd, Int.reduceSub, Int.reduceMul, Int.reduceNeg, Int.reduceToNat, Int.reduceEq]
        exact fin _ t (by simp only [go_sem, reduceCtorEq, reduceIte, Nat.reduceEqDiff, Nat.reduceAdd, Nat.reduceLeDiff, Nat.reduceMul, Int.reduceLT, Int.reduceLE, Int.reduceAdd, Int.reduceSub, Int.reduceMul, Int.reduceNeg, Int.reduceToNat, Int.reduceEq]) (by simp only [go_sem, reduceCtorEq, reduceIte, Nat.reduceEqDiff, Nat.reduceAdd, Nat.reduceLeDiff, Nat.reduceMul, Int.reduceLT, Int.reduceLE, Int.reduceAdd, Int.reduceSub, Int.reduceMul, Int.reduceNeg, Int.reduceToNat, Int.reduceEq]) (by simp only [go_sem, reduceCtorEq, reduceIte, Nat.reduceEqDiff, Nat.reduceAdd, Nat.reduceLeDiff, Nat.reduceMul, Int.reduceLT, Int.reduceLE, Int.reduceAdd, Int.reduceSub, Int.reduceMul, Int.reduceNeg, Int.reduceToNat, Int.reduceEq]) (by simp only [go_sem, reduceCtorEq, reduceIte, Nat.reduceEqDiff, Nat.reduceAdd, Nat.reduceLeDiff, Nat.reduceMul, Int.reduceLT, Int.reduceLE, Int.reduceAdd, Int.reduceSub, Int.reduceMul, Int.reduceNeg, Int.reduceToNat, Int.reduceEq]) (by simp only [go_sem, reduceCtorEq, reduceIte, Nat.reduceEqDiff, Nat.reduceAdd, Nat.reduceLeDiff, Nat.reduceMul, Int.reduceLT, Int.reduceLE, Int.reduceAdd, Int.reduceSub, Int.reduceMul, Int.reduceNeg, Int.reduceToNat, Int.reduceEq, h9]) (by simp only [go_sem, reduceCtorEq, reduceIte, Nat.reduceEqDiff, Nat.reduceAdd, Nat.reduceLeDiff, Nat.reduceMul, Int.reduceLT, Int.reduceLE, Int.reduceAdd, Int.reduceSub, Int.reduceMul, Int.reduceNeg, Int.reduceToNat, Int.reduceEq]) (by rw [if_pos (of_decide_eq_true e)]; rfl)
    · have hjT : T.take j = T := List.take_of_length_le (by omega)
      rw [hjT] at hrow
      have ask : askedB x0 T = true := by
        unfold askedB
        rw [List.all_eq_true]
        intro y hy
        rcases List.mem_cons.1 hy with rfl | hy
        · simp [ox0]
        · simp [(okT y hy).1, (okT y hy).2]
      have few := rows_few ox0 okT
      obtain ⟨z1, z2, z3, z4, _⟩ := rows_spec T x0 ox0 okT
      have eR : rowA (x0 :: T) = .tuple #[(x0.rows T).1.val, .int .i64 0] := if_pos ask
      have eS : stepsA (x0 :: T) = .tuple #[.int .i64 (x0.rows T).2, .int .i64 0] := if_pos ask
      have rdl : RdV (fzOf W) M (.slice (some ⟨b, o, none⟩) (T.length + 1) cap) (x0 :: T) := ⟨hle, _, cap, hlc, rfl, .inr ⟨b, o, cs, rfl, hb, hc⟩⟩
      rw [hrow] at few z1 z2 z3 z4 eR eS
      simp only at few z1 z2 z3 z4 eR eS
      simp only [go_sem, reduceCtorEq, reduceIte, Nat.reduceEqDiff, Nat.reduceAdd, Nat.reduceLeDiff, Nat.reduceMul, Int.reduceLT, Int.reduceLE, Int.reduceAdd, Int.reduceSub, Int.reduceMul, Int.reduceNeg, Int.reduceToNat, Int.reduceEq, h1, h3, h4, h8, h9, h10, hjl, List.length_cons, Int.natCast_succ]
      have cR := k39 _ _ _ _ rdl
      rw [eR] at cR
      refine callK_same cR ?_
      simp only [go_sem, reduceCtorEq, reduceIte, Nat.reduceEqDiff, Nat.reduceAdd, Nat.reduceLeDiff, Nat.reduceMul, Int.reduceLT, Int.reduceLE, Int.reduceAdd, Int.reduceSub, Int.reduceMul, Int.reduceNeg, Int.reduceToNat, Int.reduceEq, h1, h3, h4, h8, h9, h10]
      intro r13 hF13 hM13
      have rdl2 := rdl.new (e := ⟨v.cs, 28, 6⟩) hF13 hM13
      have g13 := ne_of_none hM13 fr
      have g138 := ne_of_none hM13 f8
      have b8' := blk_M (F := fzOf W) f8
      simp only [go_sem, reduceCtorEq, reduceIte, Nat.reduceEqDiff, Nat.reduceAdd, Nat.reduceLeDiff, Nat.reduceMul, Int.reduceLT, Int.reduceLE, Int.reduceAdd, Int.reduceSub, Int.reduceMul, Int.reduceNeg, Int.reduceToNat, Int.reduceEq, h1, h3, h4, h8, h9, h10, g138]
      have cS := k40 _ _ _ _ rdl2
      rw [eS] at cS
      refine callK_same cS ?_
      have n1 : ¬ (12 : Int) < t := by omega
      simp only [go_sem, reduceCtorEq, reduceIte, Nat.reduceEqDiff, Nat.reduceAdd, Nat.reduceLeDiff, Nat.reduceMul, Int.reduceLT, Int.reduceLE, Int.reduceAdd, Int.reduceSub, Int.reduceMul, Int.reduceNeg, Int.reduceToNat, Int.reduceEq, h1, h3, h4, h8, h9, h10, g138]
      refine callK_same (k35 _ _ 0) ?_
      simp only [go_sem, reduceCtorEq, reduceIte, Nat.reduceEqDiff, Nat.reduceAdd, Nat.reduceLeDiff, Nat.reduceMul, Int.reduceLT, Int.reduceLE, Int.reduceAdd, Int.reduceSub, Int.reduceMul, Int.reduceNeg, Int.reduceToNat, Int.reduceEq, h1, h3, h4, h8, h9, h10, g138]
      refine callK_same (k35 _ _ 0) ?_
      have ev : decide (v = v) = true := by simp
      simp only [go_sem, reduceCtorEq, reduceIte, Nat.reduceEqDiff, Nat.reduceAdd, Nat.reduceLeDiff, Nat.reduceMul, Int.reduceLT, Int.reduceLE, Int.reduceAdd, Int.reduceSub, Int.reduceMul, Int.reduceNeg, Int.reduceToNat, Int.reduceEq, h1, h3, h4, h8, h9, h10, g138, n1, b8', ev, eq_self]
      have fz : (M.upd r13 ⟨v.cs, 28, 6⟩) r13 = some ⟨v.cs, 28, 6⟩ := Hp.upd_same _ _ _
      have fr2 : (M.upd r13 ⟨v.cs, 28, 6⟩) r = some ⟨[.slice aV lv.length cV, .slice aN ln.length cN], 25, 2⟩ := by rw [Hp.upd_ne' g13.1]; exact fr
      have hold2 := hold.upd (e := ⟨v.cs, 28, 6⟩) hF13
      have hb2 : blk (fzOf W) (M.upd r13 ⟨v.cs, 28, 6⟩) b = some cs := by rw [blk_upd_ne (blk_ne hb hF13 hM13)]; exact hb
      generalize M.upd r13 ⟨v.cs, 28, 6⟩ = M2 at *
      have zall : ∀ y ∈ x0 :: T, y.ok = true ∧ Sub y v := by
        intro y hy
        rcases List.mem_cons.1 hy with rfl | hy
        · exact ⟨ox0, z3⟩
        · exact ⟨(okT y hy).1, z4 y hy⟩
      have hT1 : T.length + 1 = (x0 :: T).length := rfl
      rw [hT1] at h4
      clear hT1
      generalize x0 :: T = L at *
      refine loop_of (tI (fzOf W) r [.slice aV lv.length cV, .slice aN ln.length cN] w r13 L (.slice (some ⟨b, o, none⟩) L.length cap) M2) L.length ?_ ?_
      · exact ⟨rfl, rfl, by simp only [go_sem, reduceCtorEq, reduceIte, Nat.reduceEqDiff, Nat.reduceAdd, Nat.reduceLeDiff, Nat.reduceMul, Int.reduceLT, Int.reduceLE, Int.reduceAdd, Int.reduceSub, Int.reduceMul, Int.reduceNeg, Int.reduceToNat, Int.reduceEq, h1], by simp only [go_sem, reduceCtorEq, reduceIte, Nat.reduceEqDiff, Nat.reduceAdd, Nat.reduceLeDiff, Nat.reduceMul, Int.reduceLT, Int.reduceLE, Int.reduceAdd, Int.reduceSub, Int.reduceMul, Int.reduceNeg, Int.reduceToNat, Int.reduceEq, h3], by simp only [go_sem, reduceCtorEq, reduceIte, Nat.reduceEqDiff, Nat.reduceAdd, Nat.reduceLeDiff, Nat.reduceMul, Int.reduceLT, Int.reduceLE, Int.reduceAdd, Int.reduceSub, Int.reduceMul, Int.reduceNeg, Int.reduceToNat, Int.reduceEq, h4], by simp only [go_sem, reduceCtorEq, reduceIte, Nat.reduceEqDiff, Nat.reduceAdd, Nat.reduceLeDiff, Nat.reduceMul, Int.reduceLT, Int.reduceLE, Int.reduceAdd, Int.reduceSub, Int.reduceMul, Int.reduceNeg, Int.reduceToNat, Int.reduceEq], 0, by omega, by simp only [go_sem, reduceCtorEq, reduceIte, Nat.reduceEqDiff, Nat.reduceAdd, Nat.reduceLeDiff, Nat.reduceMul, Int.reduceLT, Int.reduceLE, Int.reduceAdd, Int.reduceSub, Int.reduceMul, Int.reduceNeg, Int.reduceToNat, Int.reduceEq] <;> rfl⟩
      clear h1 h3 h4 h8 h9 h10
      rintro mt σ F M ⟨rfl, rfl, h1, h3, h4, h13, k, hk, h17⟩
      by_cases hkl : (k : Int) < L.length
      · have hk0 : (0 : Int) ≤ k := by omega
        have hk' : k < L.length := by omega
        have ek : IntKind.i64.wrap ((k : Int) + 1) = k + 1 := w64 (by omega) (by omega)
        obtain ⟨d1, d2⟩ := hc k hk'
        obtain ⟨y1, y2⟩ := zall L[k] (List.getElem_mem _)
        generalize L[k] = y at *
        have bz := blk_M (F := fzOf W) fz
        simp only [go_sem, reduceCtorEq, reduceIte, Nat.reduceEqDiff, Nat.reduceAdd, Nat.reduceLeDiff, Nat.reduceMul, Int.reduceLT, Int.reduceLE, Int.reduceAdd, Int.reduceSub, Int.reduceMul, Int.reduceNeg, Int.reduceToNat, Int.reduceEq, h1, h3, h4, h13, h17, hkl, hk0, Int.toNat_natCast, hb2, d1, d2, bz]
        refine callK_same (k36 _ _ y v k y1 y2) ?_
        simp only [go_sem, reduceCtorEq, reduceIte, Nat.reduceEqDiff, Nat.reduceAdd, Nat.reduceLeDiff, Nat.reduceMul, Int.reduceLT, Int.reduceLE, Int.reduceAdd, Int.reduceSub, Int.reduceMul, Int.reduceNeg, Int.reduceToNat, Int.reduceEq, h1, h3, h4, h13, h17, ek]
        exact ⟨mt - 1, by omega, rfl, rfl, by simp only [go_sem, reduceCtorEq, reduceIte, Nat.reduceEqDiff, Nat.reduceAdd, Nat.reduceLeDiff, Nat.reduceMul, Int.reduceLT, Int.reduceLE, Int.reduceAdd, Int.reduceSub, Int.reduceMul, Int.reduceNeg, Int.reduceToNat, Int.reduceEq, h1], by simp only [go_sem, reduceCtorEq, reduceIte, Nat.reduceEqDiff, Nat.reduceAdd, Nat.reduceLeDiff, Nat.reduceMul, Int.reduceLT, Int.reduceLE, Int.reduceAdd, Int.reduceSub, Int.reduceMul, Int.reduceNeg, Int.reduceToNat, Int.reduceEq, h3], by simp only [go_sem, reduceCtorEq, reduceIte, Nat.reduceEqDiff, Nat.reduceAdd, Nat.reduceLeDiff, Nat.reduceMul, Int.reduceLT, Int.reduceLE, Int.reduceAdd, Int.reduceSub, Int.reduceMul, Int.reduceNeg, Int.reduceToNat, Int.reduceEq, h4], by simp only [go_sem, reduceCtorEq, reduceIte, Nat.reduceEqDiff, Nat.reduceAdd, Nat.reduceLeDiff, Nat.reduceMul, Int.reduceLT, Int.reduceLE, Int.reduceAdd, Int.reduceSub, Int.reduceMul, Int.reduceNeg, Int.reduceToNat, Int.reduceEq, h13], k + 1, by omega, by simp only [go_sem, reduceCtorEq, reduceIte, Nat.reduceEqDiff, Nat.reduceAdd, Nat.reduceLeDiff, Nat.reduceMul, Int.reduceLT, Int.reduceLE, Int.reduceAdd, Int.reduceSub, Int.reduceMul, Int.reduceNeg, Int.reduceToNat, Int.reduceEq]; rfl⟩
      · obtain ⟨m', q1, q2⟩ := eN
        simp only [go_sem, reduceCtorEq, reduceIte, Nat.reduceEqDiff, Nat.reduceAdd, Nat.reduceLeDiff, Nat.reduceMul, Int.reduceLT, Int.reduceLE, Int.reduceAdd, Int.reduceSub, Int.reduceMul, Int.reduceNeg, Int.reduceToNat, Int.reduceEq, h1, h3, h4, h13, h17, hkl, ew]
        exact ⟨m', q1, ⟨rfl, hold2, fr2, by simp only [go_sem, reduceCtorEq, reduceIte, Nat.reduceEqDiff, Nat.reduceAdd, Nat.reduceLeDiff, Nat.reduceMul, Int.reduceLT, Int.reduceLE, Int.reduceAdd, Int.reduceSub, Int.reduceMul, Int.reduceNeg, Int.reduceToNat, Int.reduceEq, h1]⟩, w * 2, by simp only [go_sem, reduceCtorEq, reduceIte, Nat.reduceEqDiff, Nat.reduceAdd, Nat.reduceLeDiff, Nat.reduceMul, Int.reduceLT, Int.reduceLE, Int.reduceAdd, Int.reduceSub, Int.reduceMul, Int.reduceNeg, Int.reduceToNat, Int.reduceEq], q2⟩
end Go.Proofs.Ytplcaoidiohlmaa.growRows
