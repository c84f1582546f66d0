/- Contracts: whether rows of sets may be; what a set grows to, asked. -/
import Derived.Test.YtplcaoidiohlmaaK21
namespace Go.Proofs.Try.K
open Go Go.Ax Go.Proofs.Try.S
set_option maxRecDepth 100000
set_option linter.unusedSimpArgs false
set_option linter.unusedVariables false
variable (F : Fz) (M : Hp)

theorem k35 (n : Int) : CallsA Try.prog 35 [.int .i64 n] F M (Same F M (.int .i64 n)) := by
  refine callsA_of hm Try.func35 e35 (Nat.le_of_ble_eq_true rfl) ?_
  simp only [c35, go_sem, reduceCtorEq, reduceIte, Nat.reduceEqDiff, Nat.reduceAdd, Nat.reduceLeDiff, Nat.reduceMul, Int.reduceLT, Int.reduceLE, Int.reduceAdd, Int.reduceSub, Int.reduceMul, Int.reduceNeg, Int.reduceToNat, Int.reduceEq]
  exact endK_same ⟨rfl, rfl, rfl⟩

def ixI (l : List V) (p : V → Bool) (u f : Value) (F0 : Fz) (M0 : Hp) (m : Nat) (σ : Env) (F : Fz) (M : Hp) : Prop :=
  F = F0 ∧ M = M0 ∧ Ax.look σ 0 = some u ∧ Ax.look σ 1 = some f ∧ Ax.look σ 7 = some (.int .i64 l.length) ∧ ∃ i : Nat, i + m = l.length ∧ Ax.look σ 8 = some (.int .i64 i) ∧ l.any p = (l.drop i).any p
theorem k80 (u : Value) (l : List V) (g : Nat) (ca : List Value) (p : V → Bool) (h : RdV F M u l)
    (hp : ∀ v ∈ l, CallsA Try.prog g ([v.val] ++ ca) F M (Same F M (.bool (p v)))) :
    CallsA Try.prog 80 [u, .func (.func g) #[] ca.toArray] F M fun r F' M' => F' = F ∧ M' = M ∧ ∃ z : Int, r = .int .i64 z ∧ (0 ≤ z ↔ l.any p = true) := by
  refine callsA_of hm Try.func80 e80 (Nat.le_of_ble_eq_true rfl) ?_
  obtain ⟨hl, ad, cap, hlc, rfl, h⟩ := h
  simp only [c80, go_sem, reduceCtorEq, reduceIte, Nat.reduceEqDiff, Nat.reduceAdd, Nat.reduceLeDiff, Nat.reduceMul, Int.reduceLT, Int.reduceLE, Int.reduceAdd, Int.reduceSub, Int.reduceMul, Int.reduceNeg, Int.reduceToNat, Int.reduceEq]
  refine loop_of (ixI l p (.slice ad l.length cap) (.func (.func g) #[] ca.toArray) F M) l.length ?_ ?_
  · exact ⟨rfl, rfl, by simp only [go_sem, reduceCtorEq, reduceIte, Nat.reduceEqDiff, Nat.reduceAdd, Nat.reduceLeDiff, Nat.reduceMul, Int.reduceLT, Int.reduceLE, Int.reduceAdd, Int.reduceSub, Int.reduceMul, Int.reduceNeg, Int.reduceToNat, Int.reduceEq], by simp only [go_sem, reduceCtorEq, reduceIte, Nat.reduceEqDiff, Nat.reduceAdd, Nat.reduceLeDiff, Nat.reduceMul, Int.reduceLT, Int.reduceLE, Int.reduceAdd, Int.reduceSub, Int.reduceMul, Int.reduceNeg, Int.reduceToNat, Int.reduceEq], by simp only [go_sem, reduceCtorEq, reduceIte, Nat.reduceEqDiff, Nat.reduceAdd, Nat.reduceLeDiff, Nat.reduceMul, Int.reduceLT, Int.reduceLE, Int.reduceAdd, Int.reduceSub, Int.reduceMul, Int.reduceNeg, Int.reduceToNat, Int.reduceEq], 0, by omega, by simp only [go_sem, reduceCtorEq, reduceIte, Nat.reduceEqDiff, Nat.reduceAdd, Nat.reduceLeDiff, Nat.reduceMul, Int.reduceLT, Int.reduceLE, Int.reduceAdd, Int.reduceSub, Int.reduceMul, Int.reduceNeg, Int.reduceToNat, Int.reduceEq] <;> rfl, rfl⟩
  rintro m σ F' M' ⟨rfl, rfl, h0, h1, h7, i, hi, h8, ha⟩
  by_cases hil : (i : Int) < l.length
  · have hi0 : (0 : Int) ≤ i := by omega
    have hil' : i < l.length := by omega
    have ei : IntKind.i64.wrap ((i : Int) + 1) = i + 1 := w64 (by omega) (by omega)
    rcases h with h | ⟨b, o, cs, rfl, hb, hc⟩
    · rw [h] at hil'; simp at hil'
    obtain ⟨d1, d2⟩ := hc i hil'
    rw [List.drop_eq_getElem_cons hil', List.any_cons] at ha
    have hq := hp l[i] (List.getElem_mem _)
    generalize l[i] = v at *
    simp only [go_sem, reduceCtorEq, reduceIte, Nat.reduceEqDiff, Nat.reduceAdd, Nat.reduceLeDiff, Nat.reduceMul, Int.reduceLT, Int.reduceLE, Int.reduceAdd, Int.reduceSub, Int.reduceMul, Int.reduceNeg, Int.reduceToNat, Int.reduceEq, h0, h1, h7, h8, hil, hi0, Int.toNat_natCast, hb, d1, d2]
    refine callK_same hq ?_
    cases hv : p v
    · rw [hv, Bool.false_or] at ha
      simp only [go_sem, reduceCtorEq, reduceIte, Nat.reduceEqDiff, Nat.reduceAdd, Nat.reduceLeDiff, Nat.reduceMul, Int.reduceLT, Int.reduceLE, Int.reduceAdd, Int.reduceSub, Int.reduceMul, Int.reduceNeg, Int.reduceToNat, Int.reduceEq, h0, h1, h7, h8, ei]
      exact ⟨m - 1, by omega, rfl, rfl, by simp only [go_sem, reduceCtorEq, reduceIte, Nat.reduceEqDiff, Nat.reduceAdd, Nat.reduceLeDiff, Nat.reduceMul, Int.reduceLT, Int.reduceLE, Int.reduceAdd, Int.reduceSub, Int.reduceMul, Int.reduceNeg, Int.reduceToNat, Int.reduceEq, h0], by simp only [go_sem, reduceCtorEq, reduceIte, Nat.reduceEqDiff, Nat.reduceAdd, Nat.reduceLeDiff, Nat.reduceMul, Int.reduceLT, Int.reduceLE, Int.reduceAdd, Int.reduceSub, Int.reduceMul, Int.reduceNeg, Int.reduceToNat, Int.reduceEq, h1], by simp only [go_sem, reduceCtorEq, reduceIte, Nat.reduceEqDiff, Nat.reduceAdd, Nat.reduceLeDiff, Nat.reduceMul, Int.reduceLT, Int.reduceLE, Int.reduceAdd, Int.reduceSub, Int.reduceMul, Int.reduceNeg, Int.reduceToNat, Int.reduceEq, h7], i + 1, by omega, by simp only [go_sem, reduceCtorEq, reduceIte, Nat.reduceEqDiff, Nat.reduceAdd, Nat.reduceLeDiff, Nat.reduceMul, Int.reduceLT, Int.reduceLE, Int.reduceAdd, Int.reduceSub, Int.reduceMul, Int.reduceNeg, Int.reduceToNat, Int.reduceEq]; rfl, ha⟩
    · rw [hv, Bool.true_or] at ha
      simp only [go_sem, reduceCtorEq, reduceIte, Nat.reduceEqDiff, Nat.reduceAdd, Nat.reduceLeDiff, Nat.reduceMul, Int.reduceLT, Int.reduceLE, Int.reduceAdd, Int.reduceSub, Int.reduceMul, Int.reduceNeg, Int.reduceToNat, Int.reduceEq, h0, h1, h7, h8, ei]
      exact endK_same ⟨rfl, rfl, _, rfl, by simp [ha]⟩
  · have : l.drop i = [] := List.drop_eq_nil_of_le (by omega)
    rw [this] at ha
    simp only [go_sem, reduceCtorEq, reduceIte, Nat.reduceEqDiff, Nat.reduceAdd, Nat.reduceLeDiff, Nat.reduceMul, Int.reduceLT, Int.reduceLE, Int.reduceAdd, Int.reduceSub, Int.reduceMul, Int.reduceNeg, Int.reduceToNat, Int.reduceEq, h0, h1, h7, h8, hil]
    exact endK_same ⟨rfl, rfl, _, rfl, by rw [ha]; simp⟩
theorem k72 (u : Value) (l : List V) (g : Nat) (ca : List Value) (p : V → Bool) (h : RdV F M u l)
    (hp : ∀ v ∈ l, CallsA Try.prog g ([v.val] ++ ca) F M (Same F M (.bool (p v)))) :
    CallsA Try.prog 72 [u, .func (.func g) #[] ca.toArray] F M (Same F M (.bool (l.any p))) := by
  refine callsA_of hm Try.func72 e72 (Nat.le_of_ble_eq_true rfl) ?_
  simp only [c72, go_sem, reduceCtorEq, reduceIte, Nat.reduceEqDiff, Nat.reduceAdd, Nat.reduceLeDiff, Nat.reduceMul, Int.reduceLT, Int.reduceLE, Int.reduceAdd, Int.reduceSub, Int.reduceMul, Int.reduceNeg, Int.reduceToNat, Int.reduceEq]
  refine callK_of (k80 F M u l g ca p h hp) ?_
  rintro r G M' ⟨hG, rfl, z, rfl, hz⟩
  rw [hG]
  refine ⟨(fun h => by cases h), ?_⟩
  simp only [go_sem, reduceCtorEq, reduceIte, Nat.reduceEqDiff, Nat.reduceAdd, Nat.reduceLeDiff, Nat.reduceMul, Int.reduceLT, Int.reduceLE, Int.reduceAdd, Int.reduceSub, Int.reduceMul, Int.reduceNeg, Int.reduceToNat, Int.reduceEq]
  have : decide (0 ≤ z) = l.any p := by
    cases hq : l.any p
    · rw [hq] at hz; simp at hz; simp; omega
    · simp [hz.2 hq]
  exact endK_same ⟨by rw [← this], rfl, rfl⟩

theorem k73 (v v0 : V) (l : List V) (u : Value) (p : Nat) (e : Ent) (hp : M p = some e) (he : e.cells = [u]) (h : RdV F M u (v0 :: l)) :
    CallsA Try.prog 73 [v.val, .pointer (some ⟨p, 0, none⟩)] F M (Same F M (.bool (!v.ok || !decide (v.w = v0.w)))) := by
  refine callsA_of hm Try.func73 e73 (Nat.le_of_ble_eq_true rfl) ?_
  have bp := blk_M (F := F) hp
  rw [he] at bp
  obtain ⟨hl, ad, cap, hlc, rfl, h⟩ := h
  rcases h with h | ⟨b, o, cs, rfl, hb, hc⟩
  · cases h
  obtain ⟨d1, d2⟩ := hc 0 (by simp)
  simp only [c73, go_sem, reduceCtorEq, reduceIte, Nat.reduceEqDiff, Nat.reduceAdd, Nat.reduceLeDiff, Nat.reduceMul, Int.reduceLT, Int.reduceLE, Int.reduceAdd, Int.reduceSub, Int.reduceMul, Int.reduceNeg, Int.reduceToNat, Int.reduceEq]
  intro r hF hM
  have gp := ne_of_none hM hp
  have gb : ¬ b = r := by
    rintro rfl
    simp [blk, hM, hF] at hb
  simp only [go_sem, reduceCtorEq, reduceIte, Nat.reduceEqDiff, Nat.reduceAdd, Nat.reduceLeDiff, Nat.reduceMul, Int.reduceLT, Int.reduceLE, Int.reduceAdd, Int.reduceSub, Int.reduceMul, Int.reduceNeg, Int.reduceToNat, Int.reduceEq]
  refine callK_same (k52 F _ v) ?_
  cases hv : v.ok
  · simp only [go_sem, reduceCtorEq, reduceIte, Nat.reduceEqDiff, Nat.reduceAdd, Nat.reduceLeDiff, Nat.reduceMul, Int.reduceLT, Int.reduceLE, Int.reduceAdd, Int.reduceSub, Int.reduceMul, Int.reduceNeg, Int.reduceToNat, Int.reduceEq]
    exact endK_drop hM (endK_same ⟨by simp, rfl, rfl⟩)
  have hn : (0 : Int) < (l.length : Int) + 1 := by omega
  simp only [List.getElem_cons_zero] at d2
  simp only [Nat.zero_mul, Nat.add_zero] at d1 d2
  have d3 : cs[o]? = some (.int .i64 v0.w) := by
    have := congrArg (fun t => t[0]?) d2
    simpa [V.cs] using this
  have d4 : o + 1 ≤ cs.length := by omega
  simp only [go_sem, reduceCtorEq, reduceIte, Nat.reduceEqDiff, Nat.reduceAdd, Nat.reduceLeDiff, Nat.reduceMul, Int.reduceLT, Int.reduceLE, Int.reduceAdd, Int.reduceSub, Int.reduceMul, Int.reduceNeg, Int.reduceToNat, Int.reduceEq, gp, bp, gb, hb, List.length_cons, Int.natCast_succ, hn, d3, Nat.zero_mul, Nat.add_zero, Nat.zero_add]
  exact endK_drop hM (endK_same ⟨by simp, rfl, rfl⟩)

/-- May a row be, all of one width? -/
def askedB (v0 : V) (l : List V) : Bool := (v0 :: l).all fun v => v.ok && decide (v.w = v0.w)
theorem any_asked (v0 : V) (l : List V) : (!(v0 :: l).any fun v => !v.ok || !decide (v.w = v0.w)) = askedB v0 l := by
  unfold askedB
  rw [List.not_any_eq_all_not]
  congr 1
  funext v
  simp
theorem k58 (v0 : V) (l : List V) (u : Value) (h : RdV F M u (v0 :: l)) : CallsA Try.prog 58 [u] F M (Same F M (.bool (askedB v0 l))) := by
  refine callsA_of hm Try.func58 e58 (Nat.le_of_ble_eq_true rfl) ?_
  simp only [c58, go_sem, reduceCtorEq, reduceIte, Nat.reduceEqDiff, Nat.reduceAdd, Nat.reduceLeDiff, Nat.reduceMul, Int.reduceLT, Int.reduceLE, Int.reduceAdd, Int.reduceSub, Int.reduceMul, Int.reduceNeg, Int.reduceToNat, Int.reduceEq]
  obtain ⟨hl, ad, cap, hlc, rfl, h3⟩ := h
  have h : RdV F M (.slice ad (v0 :: l).length cap) (v0 :: l) := ⟨hl, ad, cap, hlc, rfl, h3⟩
  intro r hF hM
  simp only [go_sem, reduceCtorEq, reduceIte, Nat.reduceEqDiff, Nat.reduceAdd, Nat.reduceLeDiff, Nat.reduceMul, Int.reduceLT, Int.reduceLE, Int.reduceAdd, Int.reduceSub, Int.reduceMul, Int.reduceNeg, Int.reduceToNat, Int.reduceEq]
  have h' := h.new (e := ⟨[.slice ad (v0 :: l).length cap], 22, 1⟩) hF hM
  refine callK_same (k72 F _ _ (v0 :: l) _ [.pointer (some ⟨r, 0, none⟩)] (fun v => !v.ok || !decide (v.w = v0.w)) h' ?_) ?_
  · intro v hv
    exact k73 F _ v v0 l _ r _ (Hp.upd_same _ _ _) rfl h'
  simp only [go_sem, reduceCtorEq, reduceIte, Nat.reduceEqDiff, Nat.reduceAdd, Nat.reduceLeDiff, Nat.reduceMul, Int.reduceLT, Int.reduceLE, Int.reduceAdd, Int.reduceSub, Int.reduceMul, Int.reduceNeg, Int.reduceToNat, Int.reduceEq, any_asked]
  exact endK_drop hM (endK_same ⟨rfl, rfl, rfl⟩)
theorem k34 (a b : V) : CallsA Try.prog 34 [a.val, b.val] F M (Same F M (if V.pair a b then .tuple #[(a.out b).val, .int .i64 0] else .tuple #[V.zero.val, .int .i64 1])) := by
  refine callsA_of hm Try.func34 e34 (Nat.le_of_ble_eq_true rfl) ?_
  simp only [c34, go_sem, reduceCtorEq, reduceIte, Nat.reduceEqDiff, Nat.reduceAdd, Nat.reduceLeDiff, Nat.reduceMul, Int.reduceLT, Int.reduceLE, Int.reduceAdd, Int.reduceSub, Int.reduceMul, Int.reduceNeg, Int.reduceToNat, Int.reduceEq]
  intro ra hFa hMa
  simp only [go_sem, reduceCtorEq, reduceIte, Nat.reduceEqDiff, Nat.reduceAdd, Nat.reduceLeDiff, Nat.reduceMul, Int.reduceLT, Int.reduceLE, Int.reduceAdd, Int.reduceSub, Int.reduceMul, Int.reduceNeg, Int.reduceToNat, Int.reduceEq]
  intro rb hFb hMb
  have gb := fresh_of hMb
  simp only [go_sem, reduceCtorEq, reduceIte, Nat.reduceEqDiff, Nat.reduceAdd, Nat.reduceLeDiff, Nat.reduceMul, Int.reduceLT, Int.reduceLE, Int.reduceAdd, Int.reduceSub, Int.reduceMul, Int.reduceNeg, Int.reduceToNat, Int.reduceEq, gb]
  intro rz hFz hMz
  have gz := fresh_of hMz
  have gz2 := fresh_of gz.2.2
  simp only [go_sem, reduceCtorEq, reduceIte, Nat.reduceEqDiff, Nat.reduceAdd, Nat.reduceLeDiff, Nat.reduceMul, Int.reduceLT, Int.reduceLE, Int.reduceAdd, Int.reduceSub, Int.reduceMul, Int.reduceNeg, Int.reduceToNat, Int.reduceEq, gb, gz, gz2]
  intro rl hFl hMl
  have gl := fresh_of hMl
  have gl2 := fresh_of gl.2.2
  have gl3 := fresh_of gl2.2.2
  simp only [go_sem, reduceCtorEq, reduceIte, Nat.reduceEqDiff, Nat.reduceAdd, Nat.reduceLeDiff, Nat.reduceMul, Int.reduceLT, Int.reduceLE, Int.reduceAdd, Int.reduceSub, Int.reduceMul, Int.reduceNeg, Int.reduceToNat, Int.reduceEq, gb, gz, gz2, gl, gl2, gl3]
  have e : askedB a [b] = V.pair a b := by
    simp only [askedB, V.pair, List.all_cons, List.all_nil, Bool.and_true, decide_true]
    rw [← Bool.and_assoc]
    congr 1
    exact decide_eq_decide.2 ⟨fun h => h.symm, fun h => h.symm⟩
  refine callK_same (k58 F _ a [b] _ (rdV_flat (cap := 2) (by simp) (by simp) (by rw [blk_upd_same]; simp [V.cs]))) ?_
  rw [e]
  have kz : ∀ e x, Keep M ((((M.upd ra ⟨a.cs, 28, 6⟩).upd rb ⟨b.cs, 28, 6⟩).upd rz e).upd rl x) := fun e x => ((((Keep.refl M).new hMa).new gb.2.2).new gz2.2.2).new gl3.2.2
  cases hp : V.pair a b
  · simp only [go_sem, reduceCtorEq, reduceIte, Nat.reduceEqDiff, Nat.reduceAdd, Nat.reduceLeDiff, Nat.reduceMul, Int.reduceLT, Int.reduceLE, Int.reduceAdd, Int.reduceSub, Int.reduceMul, Int.reduceNeg, Int.reduceToNat, Int.reduceEq, gb, gz, gz2, gl, gl2, gl3]
    exact endK_keep (kz _ _) ⟨rfl, rfl, rfl⟩
  have hp' := hp
  simp [V.pair] at hp'
  simp only [go_sem, reduceCtorEq, reduceIte, Nat.reduceEqDiff, Nat.reduceAdd, Nat.reduceLeDiff, Nat.reduceMul, Int.reduceLT, Int.reduceLE, Int.reduceAdd, Int.reduceSub, Int.reduceMul, Int.reduceNeg, Int.reduceToNat, Int.reduceEq, gb, gz, gz2, gl, gl2, gl3]
  refine callK_same (k59 F _ a b hp'.1.1 hp'.1.2) ?_
  simp only [go_sem, reduceCtorEq, reduceIte, Nat.reduceEqDiff, Nat.reduceAdd, Nat.reduceLeDiff, Nat.reduceMul, Int.reduceLT, Int.reduceLE, Int.reduceAdd, Int.reduceSub, Int.reduceMul, Int.reduceNeg, Int.reduceToNat, Int.reduceEq, gb, gz, gz2, gl, gl2, gl3]
  exact endK_keep (kz _ _) ⟨rfl, rfl, rfl⟩
end Go.Proofs.Try.K
