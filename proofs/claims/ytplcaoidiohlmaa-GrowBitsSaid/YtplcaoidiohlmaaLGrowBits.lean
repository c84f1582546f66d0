/- The law GrowBits, walked: it returns true at every input. -/
import Derived.Test.YtplcaoidiohlmaaK19
import Derived.Test.YtplcaoidiohlmaaK24
namespace Go.Proofs.Ytplcaoidiohlmaa.growBits
open Go Go.Ax Go.Proofs.Try.S Go.Proofs.Try.K
set_option maxRecDepth 100000
set_option linter.unusedSimpArgs false
set_option linter.unusedVariables false
set_option maxHeartbeats 4000000

structure B0 (F0 : Fz) (r : Nat) (ask : List Value) (σ : Env) (F : Fz) (M : Hp) : Prop where
  f : F = F0
  old : Old F M
  fr : M r = some ⟨ask, 25, 2⟩
  h1 : Ax.look σ 1 = some (.pointer (some ⟨r, 0, none⟩))
def oI (F0 : Fz) (r : Nat) (ask : List Value) (m : Nat) (σ : Env) (F : Fz) (M : Hp) : Prop :=
  B0 F0 r ask σ F M ∧ ∃ w : Int, Ax.look σ 3 = some (.int .i64 w) ∧ (w = 8 ∧ m = 3 ∨ w = 16 ∧ m = 2 ∨ w = 32 ∧ m = 1 ∨ w = 64 ∧ m = 0)
/-- The row so far. -/
structure Rw (w : Int) (i : Nat) (l : List V) : Prop where
  len : l.length = 2 * i
  ok : ∀ x ∈ l, x.ok = true ∧ x.w = w
  first : 0 < i → ∃ x t, l = x :: t ∧ ¬ (V.just w 0).out x = V.just w 0
theorem own_ne {e : TypeId} {F : Fz} {M : Hp} {l : List V} {g n c r : Nat} {x : Ent} (h : OwnV e F M (.slice (some ⟨g, 0, none⟩) n c) l) (hr : M r = some x) (hx : ¬ x.elem = e) : ¬ r = g := by
  rcases h with ⟨h, _⟩ | ⟨g', cap, h, _, h3, _⟩
  · cases h
  · cases h
    rintro rfl
    rw [hr] at h3; cases h3; exact hx rfl
def lI (F0 : Fz) (r : Nat) (ask : List Value) (w : Int) (m : Nat) (σ : Env) (F : Fz) (M : Hp) : Prop :=
  B0 F0 r ask σ F M ∧ Ax.look σ 3 = some (.int .i64 w) ∧ ∃ (i : Nat) (l : List V) (sl : Value), i + m = w.toNat ∧ Ax.look σ 5 = some (.int .i64 i) ∧ Ax.look σ 4 = some sl ∧ OwnV 28 F M sl (V.just w 0 :: l) ∧ Rw w i l
def tI (F0 : Fz) (r : Nat) (ask : List Value) (w : Int) (r6 : Nat) (l : List V) (sl : Value) (M0 : Hp) (m : Nat) (σ : Env) (F : Fz) (M : Hp) : Prop :=
  F = F0 ∧ M = M0 ∧ Ax.look σ 1 = some (.pointer (some ⟨r, 0, none⟩)) ∧ Ax.look σ 3 = some (.int .i64 w) ∧ Ax.look σ 4 = some sl ∧ Ax.look σ 6 = some (.pointer (some ⟨r6, 0, none⟩)) ∧ ∃ i : Nat, i + m = l.length ∧ Ax.look σ 10 = some (.int .i64 i)
theorem just_out {w n : Int} (h : isW w = true) (hn : isN n w = true) (h0 : ¬ n = 0) : ¬ (V.just w 0).out (V.just w n) = V.just w 0 := by
  intro e
  have lw := isW_le h
  have hm := mostV_pos lw.2
  have hn' : 0 ≤ n ∧ n ≤ mostV w := by simpa [isN] using hn
  have o := out_spec (just_ok h (isN_zero lw.1 lw.2)) (just_ok h hn) rfl
  rw [e] at o
  have := o.right n hn'.1 hn'.2 (by rw [just_has hn'.1 (by omega)]; simp)
  rw [just_has hn'.1 (by omega)] at this
  exact h0 (of_decide_eq_true this)

theorem call (W : World) (cs : List Value) (h : Rd (fzOf W) (.cons 1 (.slice 6 48 (.cons 1 (.int .i64) (.cons 1 .bool (.cons 1 (.int .i64) (.cons 1 (.int .i64) (.cons 1 (.int .i64) (.cons 1 (.int .i64) .nil))))))) (.cons 1 (.slice 1 8 (.int .i64)) .nil)) cs) :
  CallsA Try.prog 10 [.agg cs.toArray] (fzOf W) noHp fun r _ _ => r = .bool true := by
  obtain ⟨vV, vN, rfl, hV, hN⟩ := rd_ask h
  obtain ⟨aV, cV, lv, rfl, hlV, _, hlen, _, hcV⟩ := rd_Vs hV
  refine callsA_of hm Try.func10 e10 (Nat.le_of_ble_eq_true rfl) ?_
  simp only [c10, go_sem, reduceCtorEq, reduceIte, Nat.reduceEqDiff, Nat.reduceAdd, Nat.reduceLeDiff, Nat.reduceMul, Int.reduceLT, Int.reduceLE, Int.reduceAdd, Int.reduceSub, Int.reduceMul, Int.reduceNeg, Int.reduceToNat, Int.reduceEq]
  intro r hF hM
  simp only [go_sem, reduceCtorEq, reduceIte, Nat.reduceEqDiff, Nat.reduceAdd, Nat.reduceLeDiff, Nat.reduceMul, Int.reduceLT, Int.reduceLE, Int.reduceAdd, Int.reduceSub, Int.reduceMul, Int.reduceNeg, Int.reduceToNat, Int.reduceEq]
  refine loop_of (oI (fzOf W) r [.slice aV lv.length cV, vN]) 3 ?_ ?_
  · exact ⟨⟨rfl, (Old.start _).upd hF, Hp.upd_same _ _ _, by simp only [go_sem, reduceCtorEq, reduceIte, Nat.reduceEqDiff, Nat.reduceAdd, Nat.reduceLeDiff, Nat.reduceMul, Int.reduceLT, Int.reduceLE, Int.reduceAdd, Int.reduceSub, Int.reduceMul, Int.reduceNeg, Int.reduceToNat, Int.reduceEq]⟩, 8, by simp only [go_sem, reduceCtorEq, reduceIte, Nat.reduceEqDiff, Nat.reduceAdd, Nat.reduceLeDiff, Nat.reduceMul, Int.reduceLT, Int.reduceLE, Int.reduceAdd, Int.reduceSub, Int.reduceMul, Int.reduceNeg, Int.reduceToNat, Int.reduceEq], .inl ⟨rfl, rfl⟩⟩
  rintro mo σ F M ⟨⟨rfl, hold, fr, h1⟩, w, h3, hw⟩
  by_cases hw64 : w = 64
  · have e : ¬ w ≤ 32 := by omega
    simp only [go_sem, reduceCtorEq, reduceIte, Nat.reduceEqDiff, Nat.reduceAdd, Nat.reduceLeDiff, Nat.reduceMul, Int.reduceLT, Int.reduceLE, Int.reduceAdd, Int.reduceSub, Int.reduceMul, Int.reduceNeg, Int.reduceToNat, Int.reduceEq, h1, h3, e]
    refine callK_same (k37 _ _) ?_
    simp only [go_sem, reduceCtorEq, reduceIte, Nat.reduceEqDiff, Nat.reduceAdd, Nat.reduceLeDiff, Nat.reduceMul, Int.reduceLT, Int.reduceLE, Int.reduceAdd, Int.reduceSub, Int.reduceMul, Int.reduceNeg, Int.reduceToNat, Int.reduceEq]
    exact endK_same rfl
  have isw : isW w = true := by
    rcases hw with ⟨rfl, _⟩ | ⟨rfl, _⟩ | ⟨rfl, _⟩ | ⟨rfl, _⟩ <;> first | rfl | (exact absurd rfl hw64)
  have lw := isW_le isw
  have hw32 : w ≤ 32 := by omega
  have hw8 : 8 ≤ w := by omega
  have ew : IntKind.i64.wrap (w * 2) = w * 2 := w64 (by omega) (by omega)
  have eN : ∃ m', m' < mo ∧ (w * 2 = 8 ∧ m' = 3 ∨ w * 2 = 16 ∧ m' = 2 ∨ w * 2 = 32 ∧ m' = 1 ∨ w * 2 = 64 ∧ m' = 0) := ⟨mo - 1, by omega, by omega⟩
  have hm0 := isN_zero lw.1 lw.2
  have wok := just_ok isw hm0
  simp only [go_sem, reduceCtorEq, reduceIte, Nat.reduceEqDiff, Nat.reduceAdd, Nat.reduceLeDiff, Nat.reduceMul, Int.reduceLT, Int.reduceLE, Int.reduceAdd, Int.reduceSub, Int.reduceMul, Int.reduceNeg, Int.reduceToNat, Int.reduceEq, h1, h3, hw32]
  refine callK_same (k32 _ _ w 0) ?_
  simp only [go_sem, reduceCtorEq, reduceIte, Nat.reduceEqDiff, Nat.reduceAdd, Nat.reduceLeDiff, Nat.reduceMul, Int.reduceLT, Int.reduceLE, Int.reduceAdd, Int.reduceSub, Int.reduceMul, Int.reduceNeg, Int.reduceToNat, Int.reduceEq, h1, h3]
  intro r4 hF4 hM4
  have g4 := ne_of_none hM4 fr
  simp only [go_sem, reduceCtorEq, reduceIte, Nat.reduceEqDiff, Nat.reduceAdd, Nat.reduceLeDiff, Nat.reduceMul, Int.reduceLT, Int.reduceLE, Int.reduceAdd, Int.reduceSub, Int.reduceMul, Int.reduceNeg, Int.reduceToNat, Int.reduceEq, h1, h3]
  refine loop_of (lI (fzOf W) r [.slice aV lv.length cV, vN] w) w.toNat ?_ ?_
  · refine ⟨⟨rfl, hold.upd hF4, by rw [Hp.upd_ne' g4.1]; exact fr, by simp only [go_sem, reduceCtorEq, reduceIte, Nat.reduceEqDiff, Nat.reduceAdd, Nat.reduceLeDiff, Nat.reduceMul, Int.reduceLT, Int.reduceLE, Int.reduceAdd, Int.reduceSub, Int.reduceMul, Int.reduceNeg, Int.reduceToNat, Int.reduceEq, h1]⟩, by simp only [go_sem, reduceCtorEq, reduceIte, Nat.reduceEqDiff, Nat.reduceAdd, Nat.reduceLeDiff, Nat.reduceMul, Int.reduceLT, Int.reduceLE, Int.reduceAdd, Int.reduceSub, Int.reduceMul, Int.reduceNeg, Int.reduceToNat, Int.reduceEq, h3], 0, [], _, by omega, by simp only [go_sem, reduceCtorEq, reduceIte, Nat.reduceEqDiff, Nat.reduceAdd, Nat.reduceLeDiff, Nat.reduceMul, Int.reduceLT, Int.reduceLE, Int.reduceAdd, Int.reduceSub, Int.reduceMul, Int.reduceNeg, Int.reduceToNat, Int.reduceEq] <;> rfl, by simp only [go_sem, reduceCtorEq, reduceIte, Nat.reduceEqDiff, Nat.reduceAdd, Nat.reduceLeDiff, Nat.reduceMul, Int.reduceLT, Int.reduceLE, Int.reduceAdd, Int.reduceSub, Int.reduceMul, Int.reduceNeg, Int.reduceToNat, Int.reduceEq], .inr ⟨r4, 1, rfl, hF4, by rw [Hp.upd_same]; simp [V.cs], by simp, by decide⟩, by rfl, by simp, by omega⟩
  clear h1 h3 hold fr g4 hM4 hF4
  rintro mi σ F M ⟨⟨rfl, hold, fr, h1⟩, h3, i, l, sl, hi, h5, h4, own, rw1⟩
  have hmw : w.toNat ≤ 32 := by omega
  have ei : IntKind.i64.wrap ((i : Int) + 1) = i + 1 := w64 (by omega) (by omega)
  have br := blk_M (F := fzOf W) fr
  by_cases hil : (i : Int) < w
  · have e5 : IntKind.i64.wrap ((i : Int) * 5) = i * 5 := w64 (by omega) (by omega)
    have e6 : IntKind.i64.wrap ((i : Int) * 5 + lv.length) = i * 5 + lv.length := w64 (by omega) (by omega)
    have m1 : ((i : Int) * 5 + lv.length).tmod w = (i * 5 + lv.length) % w := Int.tmod_eq_emod_of_nonneg (by omega)
    have m2 := Int.emod_nonneg ((i : Int) * 5 + lv.length) (b := w) (by omega)
    have m3 := Int.emod_lt_of_pos ((i : Int) * 5 + lv.length) (b := w) (by omega)
    generalize ((i : Int) * 5 + lv.length) % w = k at *
    have m4 : ¬ k < 0 := by omega
    have m5 : ¬ w = 0 := by omega
    have w0 : ¬ w < 0 := by omega
    have m6 := shl1 (j := k) (by omega) (by omega)
    have hm255 : 255 ≤ mostV w := by rcases isW_cases isw with rfl | rfl | rfl <;> decide
    have hmp := mostV_pos lw.2
    have e7 : IntKind.i64.wrap (mostV w - i) = mostV w - i := w64 (by omega) (by omega)
    have hk : isN (2 ^ k.toNat) w = true ∧ ¬ (2 : Int) ^ k.toNat = 0 := by
      have q : (2 : Nat) ^ k.toNat < 2 ^ w.toNat := Nat.pow_lt_pow_right (by decide) (by omega)
      have q1 : ((2 ^ k.toNat : Nat) : Int) < ((2 ^ w.toNat : Nat) : Int) := Int.ofNat_lt.2 q
      have q2 := pow_le62 (w := k) (by omega)
      simp only [Int.natCast_pow, Int.cast_ofNat_Int] at q1
      refine ⟨?_, by omega⟩
      unfold isN mostV
      simp only [Bool.and_eq_true, decide_eq_true_eq]; omega
    have hn2 : isN (mostV w - i) w = true := by
      unfold isN
      simp only [Bool.and_eq_true, decide_eq_true_eq]; omega
    simp only [go_sem, reduceCtorEq, reduceIte, Nat.reduceEqDiff, Nat.reduceAdd, Nat.reduceLeDiff, Nat.reduceMul, Int.reduceLT, Int.reduceLE, Int.reduceAdd, Int.reduceSub, Int.reduceMul, Int.reduceNeg, Int.reduceToNat, Int.reduceEq, h1, h3, h4, h5, hil, br, e5, e6, m1, m4, m5, m6, w0, shl1 lw.1 lw.2, most_wrap lw.1 lw.2, e7, not_false_eq_true]
    refine callK_same (k32 _ _ w _) ?_
    simp only [go_sem, reduceCtorEq, reduceIte, Nat.reduceEqDiff, Nat.reduceAdd, Nat.reduceLeDiff, Nat.reduceMul, Int.reduceLT, Int.reduceLE, Int.reduceAdd, Int.reduceSub, Int.reduceMul, Int.reduceNeg, Int.reduceToNat, Int.reduceEq, h1, h3, h4, h5]
    refine callK_same (k32 _ _ w _) ?_
    simp only [go_sem, reduceCtorEq, reduceIte, Nat.reduceEqDiff, Nat.reduceAdd, Nat.reduceLeDiff, Nat.reduceMul, Int.reduceLT, Int.reduceLE, Int.reduceAdd, Int.reduceSub, Int.reduceMul, Int.reduceNeg, Int.reduceToNat, Int.reduceEq, h1, h3, h4, h5]
    intro rb hFb hMb
    simp only [go_sem, reduceCtorEq, reduceIte, Nat.reduceEqDiff, Nat.reduceAdd, Nat.reduceLeDiff, Nat.reduceMul, Int.reduceLT, Int.reduceLE, Int.reduceAdd, Int.reduceSub, Int.reduceMul, Int.reduceNeg, Int.reduceToNat, Int.reduceEq, h1, h3, h4, h5]
    have hll := rw1.len
    refine apV_of (own.new hMb) (ys := [V.just w (2 ^ k.toNat), V.just w (mostV w - i)]) ⟨rfl, .inr ⟨⟨rb, 0, none⟩, 2, rfl, .inr ⟨rb, 0, _, rfl, blk_upd_same, by simp [V.cs]⟩⟩⟩ (by simp) (by simp; omega) ?_
    rintro g cap M2 hgo rfl own2
    have gn : ¬ r = g := by
      rcases hgo with h | ⟨c, rfl⟩
      · exact (ne_of_none (fresh_of h).2.2 fr).1
      · exact own_ne own fr (by simp)
    have gF : fzOf W g = none := by
      rcases own2 with ⟨h, _⟩ | ⟨g', cap', h, hF', _⟩
      · cases h
      · cases h; exact hF'
    simp only [go_sem, reduceCtorEq, reduceIte, Nat.reduceEqDiff, Nat.reduceAdd, Nat.reduceLeDiff, Nat.reduceMul, Int.reduceLT, Int.reduceLE, Int.reduceAdd, Int.reduceSub, Int.reduceMul, Int.reduceNeg, Int.reduceToNat, Int.reduceEq, h1, h3, h4, h5, ei]
    refine ⟨mi - 1, by omega, ⟨rfl, (hold.upd hFb).upd gF, ?_, by simp only [go_sem, reduceCtorEq, reduceIte, Nat.reduceEqDiff, Nat.reduceAdd, Nat.reduceLeDiff, Nat.reduceMul, Int.reduceLT, Int.reduceLE, Int.reduceAdd, Int.reduceSub, Int.reduceMul, Int.reduceNeg, Int.reduceToNat, Int.reduceEq, h1]⟩, by simp only [go_sem, reduceCtorEq, reduceIte, Nat.reduceEqDiff, Nat.reduceAdd, Nat.reduceLeDiff, Nat.reduceMul, Int.reduceLT, Int.reduceLE, Int.reduceAdd, Int.reduceSub, Int.reduceMul, Int.reduceNeg, Int.reduceToNat, Int.reduceEq, h3], i + 1, l ++ [V.just w (2 ^ k.toNat), V.just w (mostV w - i)], _, by omega, by simp only [go_sem, reduceCtorEq, reduceIte, Nat.reduceEqDiff, Nat.reduceAdd, Nat.reduceLeDiff, Nat.reduceMul, Int.reduceLT, Int.reduceLE, Int.reduceAdd, Int.reduceSub, Int.reduceMul, Int.reduceNeg, Int.reduceToNat, Int.reduceEq]; rfl, by simp only [go_sem, reduceCtorEq, reduceIte, Nat.reduceEqDiff, Nat.reduceAdd, Nat.reduceLeDiff, Nat.reduceMul, Int.reduceLT, Int.reduceLE, Int.reduceAdd, Int.reduceSub, Int.reduceMul, Int.reduceNeg, Int.reduceToNat, Int.reduceEq] <;> rfl, own2, ?_, ?_, ?_⟩
    · rw [Hp.upd_ne' gn, Hp.upd_ne' (ne_of_none hMb fr).1]; exact fr
    · simp; omega
    · intro x hx
      rcases List.mem_append.1 hx with hx | hx
      · exact rw1.ok x hx
      · simp only [List.mem_cons, List.not_mem_nil, or_false] at hx
        rcases hx with rfl | rfl
        · exact ⟨just_ok isw hk.1, rfl⟩
        · exact ⟨just_ok isw hn2, rfl⟩
    · intro _
      by_cases hi0 : 0 < i
      · obtain ⟨x, t, rfl, hx⟩ := rw1.first hi0
        exact ⟨x, _, rfl, hx⟩
      · have : l = [] := List.length_eq_zero_iff.1 (by omega)
        subst this
        exact ⟨_, _, rfl, just_out isw hk.1 hk.2⟩
  · have hiw : i = w.toNat := by omega
    obtain ⟨x, t, hl1, hx⟩ := rw1.first (by omega)
    have hll := rw1.len
    have hok := rw1.ok
    have ask : askedB (V.just w 0) l = true := by
      unfold askedB
      rw [List.all_eq_true]
      intro y hy
      rcases List.mem_cons.1 hy with rfl | hy
      · simp [wok]
      · simp [(hok y hy).1, (hok y hy).2, V.just]
    have few := rows_few wok (l := l) hok
    have one : 1 ≤ ((V.just w 0).rows l).2 := by
      rw [hl1, V.rows, if_neg hx]; omega
    obtain ⟨z1, z2, z3, z4, _⟩ := rows_spec l (V.just w 0) wok hok
    have eR : rowA (V.just w 0 :: l) = .tuple #[((V.just w 0).rows l).1.val, .int .i64 0] := if_pos ask
    have eS : stepsA (V.just w 0 :: l) = .tuple #[.int .i64 ((V.just w 0).rows l).2, .int .i64 0] := if_pos ask
    have rdl := own.rd (by simp; omega)
    generalize (V.just w 0).rows l = zn at *
    obtain ⟨z, n⟩ := zn
    simp only at z1 z2 z3 z4 few one eR eS
    simp only [go_sem, reduceCtorEq, reduceIte, Nat.reduceEqDiff, Nat.reduceAdd, Nat.reduceLeDiff, Nat.reduceMul, Int.reduceLT, Int.reduceLE, Int.reduceAdd, Int.reduceSub, Int.reduceMul, Int.reduceNeg, Int.reduceToNat, Int.reduceEq, h1, h3, h4, h5, hil]
    have cR := k39 _ _ _ _ rdl
    rw [eR] at cR
    refine callK_same cR ?_
    simp only [go_sem, reduceCtorEq, reduceIte, Nat.reduceEqDiff, Nat.reduceAdd, Nat.reduceLeDiff, Nat.reduceMul, Int.reduceLT, Int.reduceLE, Int.reduceAdd, Int.reduceSub, Int.reduceMul, Int.reduceNeg, Int.reduceToNat, Int.reduceEq, h1, h3, h4, h5]
    intro r6 hF6 hM6
    have rdl2 := rdl.new (e := ⟨z.cs, 28, 6⟩) hF6 hM6
    have g6 := ne_of_none hM6 fr
    simp only [go_sem, reduceCtorEq, reduceIte, Nat.reduceEqDiff, Nat.reduceAdd, Nat.reduceLeDiff, Nat.reduceMul, Int.reduceLT, Int.reduceLE, Int.reduceAdd, Int.reduceSub, Int.reduceMul, Int.reduceNeg, Int.reduceToNat, Int.reduceEq, h1, h3, h4, h5]
    have cS := k40 _ _ _ _ rdl2
    rw [eS] at cS
    refine callK_same cS ?_
    have n1 : ¬ (12 : Int) < n := by omega
    have n2 : ¬ (n : Int) < 1 := by omega
    simp only [go_sem, reduceCtorEq, reduceIte, Nat.reduceEqDiff, Nat.reduceAdd, Nat.reduceLeDiff, Nat.reduceMul, Int.reduceLT, Int.reduceLE, Int.reduceAdd, Int.reduceSub, Int.reduceMul, Int.reduceNeg, Int.reduceToNat, Int.reduceEq, h1, h3, h4, h5]
    refine callK_same (k35 _ _ 0) ?_
    simp only [go_sem, reduceCtorEq, reduceIte, Nat.reduceEqDiff, Nat.reduceAdd, Nat.reduceLeDiff, Nat.reduceMul, Int.reduceLT, Int.reduceLE, Int.reduceAdd, Int.reduceSub, Int.reduceMul, Int.reduceNeg, Int.reduceToNat, Int.reduceEq, h1, h3, h4, h5]
    refine callK_same (k35 _ _ 0) ?_
    simp only [go_sem, reduceCtorEq, reduceIte, Nat.reduceEqDiff, Nat.reduceAdd, Nat.reduceLeDiff, Nat.reduceMul, Int.reduceLT, Int.reduceLE, Int.reduceAdd, Int.reduceSub, Int.reduceMul, Int.reduceNeg, Int.reduceToNat, Int.reduceEq, h1, h3, h4, h5, n1, n2]
    refine callK_same (k18 _ _ z) ?_
    have zw : z.w = w := z2
    simp only [go_sem, reduceCtorEq, reduceIte, Nat.reduceEqDiff, Nat.reduceAdd, Nat.reduceLeDiff, Nat.reduceMul, Int.reduceLT, Int.reduceLE, Int.reduceAdd, Int.reduceSub, Int.reduceMul, Int.reduceNeg, Int.reduceToNat, Int.reduceEq, h1, h3, h4, h5, z1, zw, eq_self]
    have fz : (M.upd r6 ⟨z.cs, 28, 6⟩) r6 = some ⟨z.cs, 28, 6⟩ := Hp.upd_same _ _ _
    have fr2 : (M.upd r6 ⟨z.cs, 28, 6⟩) r = some ⟨[.slice aV lv.length cV, vN], 25, 2⟩ := by rw [Hp.upd_ne' g6.1]; exact fr
    have hold2 := hold.upd (e := ⟨z.cs, 28, 6⟩) hF6
    generalize M.upd r6 ⟨z.cs, 28, 6⟩ = M2 at *
    obtain ⟨hle, ad, cap, hlc, rfl, hread⟩ := rdl2
    rcases hread with hread | ⟨b, o, cs, rfl, hb, hc⟩
    · cases hread
    have zall : ∀ y ∈ V.just w 0 :: l, y.ok = true ∧ Sub y z := by
      intro y hy
      rcases List.mem_cons.1 hy with rfl | hy
      · exact ⟨wok, z3⟩
      · exact ⟨(hok y hy).1, z4 y hy⟩
    have hln : (V.just w 0 :: l).length ≤ 65 := by simp; omega
    generalize V.just w 0 :: l = L at *
    refine loop_of (tI (fzOf W) r [.slice aV lv.length cV, vN] w r6 L (.slice (some ⟨b, o, none⟩) L.length cap) M2) L.length ?_ ?_
    · exact ⟨rfl, rfl, by simp only [go_sem, reduceCtorEq, reduceIte, Nat.reduceEqDiff, Nat.reduceAdd, Nat.reduceLeDiff, Nat.reduceMul, Int.reduceLT, Int.reduceLE, Int.reduceAdd, Int.reduceSub, Int.reduceMul, Int.reduceNeg, Int.reduceToNat, Int.reduceEq, h1], by simp only [go_sem, reduceCtorEq, reduceIte, Nat.reduceEqDiff, Nat.reduceAdd, Nat.reduceLeDiff, Nat.reduceMul, Int.reduceLT, Int.reduceLE, Int.reduceAdd, Int.reduceSub, Int.reduceMul, Int.reduceNeg, Int.reduceToNat, Int.reduceEq, h3], by simp only [go_sem, reduceCtorEq, reduceIte, Nat.reduceEqDiff, Nat.reduceAdd, Nat.reduceLeDiff, Nat.reduceMul, Int.reduceLT, Int.reduceLE, Int.reduceAdd, Int.reduceSub, Int.reduceMul, Int.reduceNeg, Int.reduceToNat, Int.reduceEq, h4], by simp only [go_sem, reduceCtorEq, reduceIte, Nat.reduceEqDiff, Nat.reduceAdd, Nat.reduceLeDiff, Nat.reduceMul, Int.reduceLT, Int.reduceLE, Int.reduceAdd, Int.reduceSub, Int.reduceMul, Int.reduceNeg, Int.reduceToNat, Int.reduceEq], 0, by omega, by simp only [go_sem, reduceCtorEq, reduceIte, Nat.reduceEqDiff, Nat.reduceAdd, Nat.reduceLeDiff, Nat.reduceMul, Int.reduceLT, Int.reduceLE, Int.reduceAdd, Int.reduceSub, Int.reduceMul, Int.reduceNeg, Int.reduceToNat, Int.reduceEq] <;> rfl⟩
    clear h1 h3 h4 h5
    rintro mt σ F M ⟨rfl, rfl, h1, h3, h4, h6, j, hj, h10⟩
    by_cases hjl : (j : Int) < L.length
    · have hj0 : (0 : Int) ≤ j := by omega
      have hj' : j < L.length := by omega
      have ej : IntKind.i64.wrap ((j : Int) + 1) = j + 1 := w64 (by omega) (by omega)
      obtain ⟨d1, d2⟩ := hc j hj'
      obtain ⟨y1, y2⟩ := zall L[j] (List.getElem_mem _)
      generalize L[j] = y at *
      have bz := blk_M (F := fzOf W) fz
      simp only [go_sem, reduceCtorEq, reduceIte, Nat.reduceEqDiff, Nat.reduceAdd, Nat.reduceLeDiff, Nat.reduceMul, Int.reduceLT, Int.reduceLE, Int.reduceAdd, Int.reduceSub, Int.reduceMul, Int.reduceNeg, Int.reduceToNat, Int.reduceEq, h1, h3, h4, h6, h10, hjl, hj0, Int.toNat_natCast, hb, d1, d2, bz]
      refine callK_same (k36 _ _ y z j y1 y2) ?_
      simp only [go_sem, reduceCtorEq, reduceIte, Nat.reduceEqDiff, Nat.reduceAdd, Nat.reduceLeDiff, Nat.reduceMul, Int.reduceLT, Int.reduceLE, Int.reduceAdd, Int.reduceSub, Int.reduceMul, Int.reduceNeg, Int.reduceToNat, Int.reduceEq, h1, h3, h4, h6, h10, ej]
      exact ⟨mt - 1, by omega, rfl, rfl, by simp only [go_sem, reduceCtorEq, reduceIte, Nat.reduceEqDiff, Nat.reduceAdd, Nat.reduceLeDiff, Nat.reduceMul, Int.reduceLT, Int.reduceLE, Int.reduceAdd, Int.reduceSub, Int.reduceMul, Int.reduceNeg, Int.reduceToNat, Int.reduceEq, h1], by simp only [go_sem, reduceCtorEq, reduceIte, Nat.reduceEqDiff, Nat.reduceAdd, Nat.reduceLeDiff, Nat.reduceMul, Int.reduceLT, Int.reduceLE, Int.reduceAdd, Int.reduceSub, Int.reduceMul, Int.reduceNeg, Int.reduceToNat, Int.reduceEq, h3], by simp only [go_sem, reduceCtorEq, reduceIte, Nat.reduceEqDiff, Nat.reduceAdd, Nat.reduceLeDiff, Nat.reduceMul, Int.reduceLT, Int.reduceLE, Int.reduceAdd, Int.reduceSub, Int.reduceMul, Int.reduceNeg, Int.reduceToNat, Int.reduceEq, h4], by simp only [go_sem, reduceCtorEq, reduceIte, Nat.reduceEqDiff, Nat.reduceAdd, Nat.reduceLeDiff, Nat.reduceMul, Int.reduceLT, Int.reduceLE, Int.reduceAdd, Int.reduceSub, Int.reduceMul, Int.reduceNeg, Int.reduceToNat, Int.reduceEq, h6], j + 1, by omega, by simp only [go_sem, reduceCtorEq, reduceIte, Nat.reduceEqDiff, Nat.reduceAdd, Nat.reduceLeDiff, Nat.reduceMul, Int.reduceLT, Int.reduceLE, Int.reduceAdd, Int.reduceSub, Int.reduceMul, Int.reduceNeg, Int.reduceToNat, Int.reduceEq]; rfl⟩
    · obtain ⟨m', q1, q2⟩ := eN
      simp only [go_sem, reduceCtorEq, reduceIte, Nat.reduceEqDiff, Nat.reduceAdd, Nat.reduceLeDiff, Nat.reduceMul, Int.reduceLT, Int.reduceLE, Int.reduceAdd, Int.reduceSub, Int.reduceMul, Int.reduceNeg, Int.reduceToNat, Int.reduceEq, h1, h3, h4, h6, h10, hjl, ew]
      exact ⟨m', q1, ⟨rfl, hold2, fr2, by simp only [go_sem, reduceCtorEq, reduceIte, Nat.reduceEqDiff, Nat.reduceAdd, Nat.reduceLeDiff, Nat.reduceMul, Int.reduceLT, Int.reduceLE, Int.reduceAdd, Int.reduceSub, Int.reduceMul, Int.reduceNeg, Int.reduceToNat, Int.reduceEq, h1]⟩, w * 2, by simp only [go_sem, reduceCtorEq, reduceIte, Nat.reduceEqDiff, Nat.reduceAdd, Nat.reduceLeDiff, Nat.reduceMul, Int.reduceLT, Int.reduceLE, Int.reduceAdd, Int.reduceSub, Int.reduceMul, Int.reduceNeg, Int.reduceToNat, Int.reduceEq], q2⟩
end Go.Proofs.Ytplcaoidiohlmaa.growBits
