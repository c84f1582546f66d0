/- The law CellsOf, walked: it returns true at every input. -/
import Derived.Test.YtjmgdglhhiccoaaGreatProg
import Derived.Test.YtjmgdglhhiccoaaGreatB9
namespace Go.Proofs.YtjmgdglhhiccoaaGreat.cellsOf
open Go Go.Ax Go.Proofs.Tryz.S Go.Proofs.Tryz.K
set_option maxRecDepth 100000
set_option linter.unusedSimpArgs false
set_option linter.unusedVariables false
set_option maxHeartbeats 4000000
def coI (M3 : Hp) (F0 : Fz) (i : Nat) (σ : Env) (F : Fz) (M : Hp) : Prop :=
  F0 = F ∧ Keep M3 M ∧ Old F0 M ∧ Ax.look σ 4 = some (.int .i64 i)
def coN (M0 : Hp) (F0 : Fz) (i : Nat) (σ : Env) (F : Fz) (M : Hp) : Prop :=
  F0 = F ∧ M0 = M ∧ Ax.look σ 8 = some (.int .i64 i)
theorem state_mem {p : Pg} {s : Ste} (h : stateB p s = true) : memIn p s.blocks = true := by
  unfold stateB at h; simp only [Bool.and_eq_true] at h; exact h.2
theorem call (W : World) (cs : List Value) (h : Rd (fzOf W) shAsk16 cs) :
  CallsA Tryz.prog 3 [.agg cs.toArray] (fzOf W) noHp fun r _ _ => r = .bool true := by
  obtain ⟨q, rfl, hq⟩ := rd_ask16 h
  refine callsA_of hm Tryz.func3 e3 (Nat.le_of_ble_eq_true rfl) ?_
  generalize hFW : fzOf W = F at *
  have hold : Old F noHp := Old.start F
  simp only [c3, go_sem]
  intro r1 hF1 hM1
  have old1 : Old F (noHp.upd r1 ⟨q.cs, 33, 10⟩) := hold.upd hF1
  have f1 : (noHp.upd r1 ⟨q.cs, 33, 10⟩) r1 = some ⟨q.cs, 33, 10⟩ := Hp.upd_same _ _ _
  generalize noHp.upd r1 ⟨q.cs, 33, 10⟩ = M1 at *
  have b1 := blk_M (F := F) f1
  simp only [go_sem, reduceIte, Nat.reduceEqDiff, b1]
  with_reducible refine callK_of (k5 F M1 q hq old1) ?_
  rintro u F' M' ⟨rfl, rfl, b, rfl, hb⟩
  refine ⟨(fun h => by cases h), ?_⟩
  cases b
  rotate_left
  · simp only [go_sem]
    exact endK_same rfl
  have hfew := hb rfl
  clear hb
  have hp : q.p.rd F' := hq.p.rd hfew.1
  have eP : Value.agg (List.take 7 q.cs).toArray = q.p.val := rfl
  simp only [go_sem, reduceIte, Nat.reduceEqDiff, Nat.reduceLeDiff, b1, eP]
  with_reducible refine callK_same (k6 F' M' q.p hp old1) ?_
  rw [prog_eq]
  simp only [go_sem]
  refine inBlock_st (fun σ F2 M2 => F' = F2 ∧ Old F' M2) ?_ ?_
  rotate_left
  · rintro σ F2 M4 _ ⟨rfl, old⟩
    simp only [go_sem]
    with_reducible refine callK_same (k13 F' M4 old) ?_
    simp only [go_sem]
    exact endK_same rfl
  refine loop_up q.s.length (coI M' F') ⟨rfl, Keep.refl _, old1, (by simp only [go_sem, *] <;> rfl)⟩ ?_
  rintro i σ F2 M2' hi hst ⟨rfl, kp, old, q5⟩
  have q1 := hst 1 rfl
  have q3 := hst 3 rfl
  simp only [go_sem, Nat.reduceEqDiff] at q1 q3
  clear hst
  by_cases hil : (i : Int) < q.s.length
  rotate_left
  · simp only [go_sem, reduceCtorEq, reduceIte, Nat.reduceEqDiff, q1, q5, hil, blk_M (F := F') (kp _ _ f1)]
    exact At.mk ⟨rfl, old⟩
  by_cases hi7 : (i : Int) < 5
  rotate_left
  · simp only [go_sem, reduceIte, Nat.reduceEqDiff, q1, q5, hil, hi7, blk_M (F := F') (kp _ _ f1)]
    exact At.mk ⟨rfl, old⟩
  have hi0 : (0 : Int) ≤ i := by omega
  have hi1 : i < q.s.length := by omega
  have ei : IntKind.i64.wrap ((i : Int) + 1) = i + 1 := w64 (by omega) (by omega)
  have hrow : ∀ M, Old F' M → ∃ b o cs, q.sA = some ⟨b, o, none⟩ ∧ blk F' M b = some cs ∧ o + i * 5 + 5 ≤ cs.length ∧ (cs.drop (o + i * 5)).take 5 = (q.s[i]).cs := fun M oo => by
    obtain ⟨b, o, cs, ea, hbk, rows⟩ := (hq.s F' M (Ext.old oo)).rows (by omega)
    exact ⟨b, o, cs, ea, hbk, rows i hi1⟩
  have hsr : ∀ M, Old F' M → (q.s[i]).rd F' M := fun M oo => (hq.ss _ (List.getElem_mem hi1)).rd F' M (Ext.old oo)
  generalize q.s[i] = s at *
  have b12 := blk_M (F := F') (kp _ _ f1)
  obtain ⟨b, o, cs, ea, hbk, d1, d2⟩ := hrow M2' old
  simp only [go_sem, reduceIte, Nat.reduceEqDiff, Nat.reduceLeDiff, q1, q5, hil, hi7, hi0, b12, eP, ea, Int.toNat_natCast, hbk, d1, d2]
  with_reducible refine callK_of (k7 F' M2' q.p s hp old (hsr M2' old)) ?_
  rintro u F2 M4 ⟨rfl, kp4, old4, e, n, rfl, her, hcase⟩
  refine ⟨(fun _ => kp4.le old4), ?_⟩
  simp only [go_sem, Nat.reduceEqDiff, Nat.reduceAdd]
  intro r5 hF5 hM5
  have kp5 : Keep M4 (M4.upd r5 ⟨e.cs, 38, 3⟩) := (Keep.refl M4).new hM5
  have old5 : Old F2 (M4.upd r5 ⟨e.cs, 38, 3⟩) := old4.upd hF5
  have f5 : (M4.upd r5 ⟨e.cs, 38, 3⟩) r5 = some ⟨e.cs, 38, 3⟩ := Hp.upd_same _ _ _
  simp only [setH, Hp.upd_upd, go_sem, Nat.reduceEqDiff, Nat.reduceAdd]
  generalize M4.upd r5 ⟨e.cs, 38, 3⟩ = M5 at *
  have kp6 : Keep M2' M5 := kp4.trans kp5
  have he5 := her.keep kp5 old5
  have b5 := blk_M (F := F2) f5
  have b15 := blk_M (F := F2) (kp6 _ _ (kp _ _ f1))
  obtain ⟨b', o', cs', ea', hbk', g1, g2⟩ := hrow M5 old5
  rw [ea] at ea'
  obtain ⟨rfl, rfl⟩ : b = b' ∧ o = o' := by cases ea'; exact ⟨rfl, rfl⟩
  have hs5 := hsr M5 old5
  clear hF5 hM5 kp5 kp4 old4 her ea'
  rcases hcase with ⟨hc, hsB, rfl, hpe⟩ | ⟨hno, rfl, rfl⟩
  · have hfm := FitM.of (state_mem hsB)
    have hE : envB q.p e.pe = true := by rw [hpe]; exact justV_env hc hfm
    have hX : exactB q.p e.pe s.blocks = true := by rw [hpe]; exact justV_exact hc hfm
    have hN : ∀ i, i < q.p.news.length → e.news[i]? = some (shlv .i64 1 (blAt s.blocks ((q.p.vars.length : Int) + 1 + i)).st) := fun i hi => by
      have := justV_news hfm hi
      rw [← hpe] at this
      exact this
    have hnl : e.news.length = q.p.news.length := by
      have := justV_len hfm
      rw [← hpe] at this
      exact this
    have hfc : (∀ c ∈ e.cells, FitC q.p s.blocks c.pc) ∧ e.news.length = q.p.news.length := by
      have h1 := envB_cells hE (by rw [hpe]; rfl)
      exact ⟨fun c hcm => FitC.of hfm (h1.1 _ (List.mem_map_of_mem hcm)), hnl⟩
    simp only [go_sem, reduceIte, Nat.reduceEqDiff, Nat.reduceLeDiff, hc, q1, q3, q5, hil, hi0, b15, eP, ea, Int.toNat_natCast, hbk', g1, g2]
    with_reducible refine callK_same (k8 F2 M5 q.p s hp old5 hs5) ?_
    simp only [go_sem, reduceIte, Nat.reduceEqDiff, hsB]
    with_reducible refine callK_same (k9 F2 M5 _) ?_
    simp only [go_sem, reduceIte, Nat.reduceEqDiff, Nat.reduceLeDiff, q1, b15, eP, b5]
    with_reducible refine callK_same (k10 F2 M5 q.p e hp old5 hc he5) ?_
    simp only [go_sem, reduceIte, Nat.reduceEqDiff, Nat.reduceLeDiff, hE, q1, q5, hil, hi0, b15, eP, ea, Int.toNat_natCast, hbk', g1, g2, b5]
    with_reducible refine callK_same (k11 F2 M5 q.p e s hp old5 he5 hs5 hc hfm hfc) ?_
    simp only [go_sem, reduceCtorEq, reduceIte, Nat.reduceEqDiff, hX]
    refine inBlock_st (fun σ F' M' => F2 = F' ∧ M5 = M') ?_ ?_
    rotate_left
    · rintro σ' F' M' hst ⟨rfl, rfl⟩
      have t4 := hst 4 rfl
      simp only [go_sem, Nat.reduceEqDiff, q5] at t4
      clear hst
      simp only [go_sem, reduceIte, t4, ei]
      exact ⟨hi1, rfl, kp.trans kp6, old5, (by simp only [go_sem, *] <;> rfl)⟩
    refine loop_up e.news.length (coN M5 F2) ⟨rfl, rfl, (by simp only [go_sem, *] <;> rfl)⟩ ?_
    rintro k σ2 F' M' hk hst ⟨rfl, rfl, q8⟩
    have t1 := hst 1 rfl
    have t4 := hst 4 rfl
    have t5 := hst 5 rfl
    have t7 := hst 7 rfl
    simp only [go_sem, Nat.reduceEqDiff, q1, q5] at t1 t4 t5 t7
    clear hst
    by_cases hkl : (k : Int) < e.news.length
    rotate_left
    · simp only [go_sem, reduceCtorEq, reduceIte, Nat.reduceEqDiff, t5, q8, b5, hkl]
      exact At.mk ⟨rfl, rfl⟩
    have hk0 : (0 : Int) ≤ k := by omega
    have hk1 : k < e.news.length := by omega
    have hpre := progC_pre hc
    have hml := hfm.len
    have ek : IntKind.i64.wrap ((k : Int) + 1) = k + 1 := w64 (by omega) (by omega)
    have ew : IntKind.i64.wrap ((q.p.vars.length : Int) + 1) = q.p.vars.length + 1 := w64 (by omega) (by omega)
    have ew2 : IntKind.i64.wrap ((q.p.vars.length : Int) + 1 + k) = ((q.p.vars.length + 1 + k : Nat) : Int) := by rw [w64 (by omega) (by omega)]; omega
    have hj0 : (0 : Int) ≤ ((q.p.vars.length + 1 + k : Nat) : Int) := by omega
    have hj1 : q.p.vars.length + 1 + k < s.blocks.length := by omega
    have hj2 : ((q.p.vars.length + 1 + k : Nat) : Int) < s.blocks.length := by omega
    have ej : (q.p.vars.length : Int) + 1 + k = ((q.p.vars.length + 1 + k : Nat) : Int) := by omega
    obtain ⟨b4, o4, cs4, ea4, hb4, e1⟩ := Ax.int_at he5.news hk1
    obtain ⟨b7, o7, cs7, ea7, hb7, rows⟩ := hs5.blocks.rows (by omega)
    obtain ⟨d3, d4⟩ := rows _ hj1
    clear rows
    obtain ⟨d4, _⟩ := Go.Ax.Bl.row d4
    have hst0 := (hfm.bytes _ hj1).2.1
    have hv := hN k (by omega)
    rw [ej, blAt_get hj1, List.getElem?_eq_getElem hk1] at hv
    have hv := Option.some.inj hv
    have hst1 : ¬ (s.blocks[q.p.vars.length + 1 + k]).st < 0 := by omega
    rw [hv] at e1
    generalize s.blocks[q.p.vars.length + 1 + k] = y at *
    have g3 := (Go.Ax.Ste.row g2).1
    simp only [go_sem, reduceIte, Nat.reduceEqDiff, t1, t4, t5, t7, q8, b5, hkl, hk0, ea4, hb4, e1, b15, ea, hi0, hil, Int.toNat_natCast, Nat.add_zero, hbk', g3, ew, ew2, ea7, hb7, d4, hj0, hj2, hst1, ek]
    exact ⟨hk1, rfl, rfl, (by simp only [go_sem, *] <;> rfl)⟩
  · have eN : Value.agg #[.bool false, .slice none 0 0, .slice none 0 0] = noEnv.val := rfl
    have eL : noEnv.news.length = 0 := rfl
    have hsN : progC q.p = true → stateB q.p s = false := fun hc => by
      cases h : stateB q.p s
      · rfl
      · exact absurd ⟨hc, h⟩ hno
    cases hc : progC q.p
    all_goals simp only [go_sem, reduceCtorEq, reduceIte, Nat.reduceEqDiff, Nat.reduceLeDiff, hc, q1, q3, q5, hil, hi0, b15, eP, ea, Int.toNat_natCast, hbk', g1, g2]
    all_goals try (with_reducible refine callK_same (k8 F2 M5 q.p s hp old5 hs5) ?_)
    all_goals try simp only [go_sem, reduceIte, Nat.reduceEqDiff, hsN hc]
    all_goals (with_reducible refine callK_same (k9 F2 M5 _) ?_)
    all_goals simp only [go_sem, reduceCtorEq, reduceIte, Nat.reduceEqDiff, Int.reduceEq, b5, eN]
    all_goals (with_reducible refine callK_same (k12 F2 M5 noEnv noEnv noEnv_rd noEnv_rd) ?_)
    all_goals simp only [go_sem, reduceCtorEq, reduceIte, Nat.reduceEqDiff, decide_true]
    all_goals
      refine loop_out ?_
      simp only [go_sem, reduceCtorEq, reduceIte, Nat.reduceEqDiff, Int.reduceLT, eL, b5, q5, ei]
      exact ⟨hi1, rfl, kp.trans kp6, old5, (by simp only [go_sem, *] <;> rfl)⟩
end Go.Proofs.YtjmgdglhhiccoaaGreat.cellsOf
