/- The law CellsTells, walked: it returns true at every input. -/
import Derived.Test.YtjmgdglhhiccoaaGreatProg
import Derived.Test.YtjmgdglhhiccoaaGreatB9
namespace Go.Proofs.YtjmgdglhhiccoaaGreat.cellsTells
open Go Go.Ax Go.Proofs.Tryz.S Go.Proofs.Tryz.K
set_option maxRecDepth 100000
set_option linter.unusedSimpArgs false
set_option linter.unusedVariables false
set_option maxHeartbeats 4000000
def ctI (q : Ask16) (L : List En) (r1 : Nat) (M3 : Hp) (F0 : Fz) (i : Nat) (σ : Env) (F : Fz) (M : Hp) : Prop :=
  F0 = F ∧ Keep M3 M ∧ Old F0 M ∧ Ax.look σ 5 = some (.int .i64 i)
theorem state_mem {p : Pg} {s : Ste} (h : stateB p s = true) : memIn p s.blocks = true := by
  unfold stateB at h; simp only [Bool.and_eq_true] at h; exact h.2
def ctK (M0 : Hp) (F0 : Fz) (i : Nat) (σ : Env) (F : Fz) (M : Hp) : Prop :=
  F0 = F ∧ M0 = M ∧ Ax.look σ 8 = some (.int .i64 i)
theorem call (W : World) (cs : List Value) (h : Rd (fzOf W) shAsk16 cs) :
  CallsA Tryz.prog 4 [.agg cs.toArray] (fzOf W) noHp fun r _ _ => r = .bool true := by
  obtain ⟨q, rfl, hq, hq56⟩ := rd_ask16b h
  refine callsA_of hm Tryz.func4 e4 (Nat.le_of_ble_eq_true rfl) ?_
  generalize hFW : fzOf W = F at *
  have hold : Old F noHp := Old.start F
  simp only [c4, go_sem]
  intro r1 hF1 hM1
  have old1 : Old F (noHp.upd r1 ⟨q.cs, 33, 10⟩) := hold.upd hF1
  have f1 : (noHp.upd r1 ⟨q.cs, 33, 10⟩) r1 = some ⟨q.cs, 33, 10⟩ := Hp.upd_same _ _ _
  generalize noHp.upd r1 ⟨q.cs, 33, 10⟩ = M1 at *
  have b1 := blk_M (F := F) f1
  simp only [go_sem, reduceIte, Nat.reduceEqDiff, b1]
  with_reducible refine callK_of (k5 F M1 q hq old1) ?_
  rintro u F' M' ⟨rfl, rfl, b, rfl, hb⟩
  refine ⟨(fun h => by cases h), ?_⟩
  cases b
  rotate_left
  · simp only [go_sem]
    exact endK_same rfl
  have hfew := hb rfl
  clear hb
  have hp : q.p.rd F' := hq.p.rd hfew.1
  simp only [go_sem, reduceIte, Nat.reduceEqDiff, Nat.reduceAdd, Nat.reduceLeDiff]
  intro rb hFb hMb
  have kpb : Keep M' (M'.upd rb ⟨[.bool false, .slice none 0 0, .slice none 0 0, .bool true, .slice none 0 0, .slice none 0 0], 38, 6⟩) := (Keep.refl M').new hMb
  have oldb : Old F' (M'.upd rb ⟨[.bool false, .slice none 0 0, .slice none 0 0, .bool true, .slice none 0 0, .slice none 0 0], 38, 6⟩) := old1.upd hFb
  have mine0 : MineG 3 En.cs 38 F' M' (M'.upd rb ⟨[.bool false, .slice none 0 0, .slice none 0 0, .bool true, .slice none 0 0, .slice none 0 0], 38, 6⟩) (.slice (some ⟨rb, 0, none⟩) 2 2) [noEnv, ⟨true, none, 0, [], none, 0, []⟩] :=
    ⟨.inr ⟨rb, 2, rfl, hFb, Hp.upd_same _ _ _, by decide, by decide⟩, fun g n c h => by cases h; exact hMb⟩
  have f1b := kpb _ _ f1
  generalize M'.upd rb ⟨[.bool false, .slice none 0 0, .slice none 0 0, .bool true, .slice none 0 0, .slice none 0 0], 38, 6⟩ = M2 at *
  have b1b := blk_M (F := F') f1b
  simp only [go_sem, Nat.reduceEqDiff, b1b]
  refine apMG_big (xs := [noEnv, ⟨true, none, 0, [], none, 0, []⟩]) (ys := q.e) En.len En.plain mine0 kpb (RdG.src En.len (hq.e F' M2 (Ext.old oldb)) hq.zero.2.1) (by simp only [List.length_cons, List.length_nil]; omega) (by simp only [List.length_cons, List.length_nil]; omega) ?_
  rintro v' M3 fr kp3 o3 mine
  obtain ⟨a3, c3, rfl⟩ := mine.shape
  obtain ⟨L, hL⟩ : ∃ L : List En, L = [noEnv, ⟨true, none, 0, [], none, 0, []⟩] ++ q.e := ⟨_, rfl⟩
  have hLe : ∀ e ∈ L, e.few ∧ ∀ M, Old F' M → e.rd F' M := fun e he => by
    rw [hL] at he
    rcases List.mem_append.1 he with he | he
    · rcases List.mem_cons.1 he with rfl | he
      · exact ⟨⟨by decide, by decide, fun c hc => by cases hc⟩, fun M _ => noEnv_rd⟩
      · rw [List.mem_singleton.1 he]
        exact ⟨⟨by decide, by decide, fun c hc => by cases hc⟩, fun M _ => ⟨rdG_nil, (fun x hx => by cases hx), rdG_nil, (fun _ => rfl), (fun _ => rfl), (fun x hx => by cases hx)⟩⟩
    · exact ⟨hfew.2.2.1 e he, fun M o => (hq.es e he).rd F' M (Ext.old o)⟩
  rw [← hL] at mine ⊢
  have hLn : L.length ≤ 4611686018427387904 := by rw [hL]; simp only [List.length_append, List.length_cons, List.length_nil]; omega
  have hLr := mine.own.rd En.len hLn
  have old3 := o3 oldb
  have f13 := kp3 _ _ f1
  clear mine fr mine0 hL kpb f1b b1b b1
  have b13 := blk_M (F := F') f13
  have eP : Value.agg (List.take 7 q.cs).toArray = q.p.val := rfl
  simp only [go_sem, reduceIte, Nat.reduceEqDiff, Nat.reduceLeDiff, b13, eP]
  with_reducible refine callK_same (k6 F' M3 q.p hp old3) ?_
  rw [prog_eq]
  simp only [go_sem]
  refine inBlock_st (fun σ F2 M' => F' = F2 ∧ Keep M3 M' ∧ Old F' M') ?_ ?_
  rotate_left
  · rintro σ F2 M4 _ ⟨rfl, kp, old⟩
    simp only [go_sem]
    with_reducible refine callK_same (k13 F' M4 old) ?_
    simp only [go_sem]
    exact endK_same rfl
  refine loop_up L.length (ctI q L r1 M3 F') ⟨rfl, Keep.refl _, old3, (by simp only [go_sem, *] <;> rfl)⟩ ?_
  rintro i σ F2 M2' hi hst ⟨rfl, kp, old, q5⟩
  have q1 := hst 1 rfl
  have q3 := hst 3 rfl
  have q4 := hst 4 rfl
  simp only [go_sem, Nat.reduceEqDiff] at q1 q3 q4
  clear hst
  by_cases hil : (i : Int) < L.length
  rotate_left
  · simp only [go_sem, reduceCtorEq, reduceIte, Nat.reduceEqDiff, q3, q5, hil]
    exact At.mk ⟨rfl, kp, old⟩
  by_cases hi7 : (i : Int) < 7
  rotate_left
  · simp only [go_sem, reduceIte, Nat.reduceEqDiff, q3, q5, hil, hi7]
    exact At.mk ⟨rfl, kp, old⟩
  have hi0 : (0 : Int) ≤ i := by omega
  have hi1 : i < L.length := by omega
  have ei : IntKind.i64.wrap ((i : Int) + 1) = i + 1 := w64 (by omega) (by omega)
  obtain ⟨b, o, cs, ea, hbk, rows⟩ := (hLr.keep kp old).rows (by omega)
  obtain ⟨d1, d2⟩ := rows i hi1
  have hrow : ∀ M, Keep M2' M → Old F' M → ∃ b o cs, a3 = some ⟨b, o, none⟩ ∧ blk F' M b = some cs ∧ o + i * 3 + 3 ≤ cs.length ∧ (cs.drop (o + i * 3)).take 3 = (L[i]).cs := fun M k oo => by
    obtain ⟨b, o, cs, ea, hbk, rows⟩ := ((hLr.keep kp old).keep k oo).rows (by omega)
    exact ⟨b, o, cs, ea, hbk, rows i hi1⟩
  clear rows
  obtain ⟨hef, her⟩ := hLe _ (List.getElem_mem hi1)
  generalize L[i] = e at *
  obtain ⟨he1, he2, he3⟩ := hef
  simp only [go_sem, reduceIte, Nat.reduceEqDiff, q3, q5, hil, hi7, hi0, ea, Int.toNat_natCast, hbk, d1, d2]
  with_reducible refine callK_of (k14 F' M2' e (her M2' old) old ⟨by omega, by omega⟩ (fun x hx => by have := he3 x hx; omega)) ?_
  rintro u F2 M4 ⟨rfl, kp4, old4, x, rfl, hxe, hx⟩
  refine ⟨(fun h => by cases h), ?_⟩
  simp only [go_sem, Nat.reduceAdd]
  intro r6 hF6 hM6
  simp only [setH, Hp.upd_upd, go_sem, Nat.reduceEqDiff, Nat.reduceAdd]
  have kp6 : Keep M4 (M4.upd r6 ⟨x.cs, 38, 3⟩) := (Keep.refl M4).new hM6
  have old6 : Old F2 (M4.upd r6 ⟨x.cs, 38, 3⟩) := old4.upd hF6
  have f6 : (M4.upd r6 ⟨x.cs, 38, 3⟩) r6 = some ⟨x.cs, 38, 3⟩ := Hp.upd_same _ _ _
  generalize M4.upd r6 ⟨x.cs, 38, 3⟩ = M5 at *
  have kp5 : Keep M2' M5 := kp4.trans kp6
  have hx5 := hx.keep kp6 old6
  have hxl : x.cells.length = e.cells.length ∧ x.news.length = e.news.length := ⟨by have := congrArg (fun z => z.cells.length) hxe; simpa [En.pe] using this, by have := congrArg (fun z => z.news.length) hxe; simpa [En.pe] using this⟩
  have b6 := blk_M (F := F2) f6
  have b15 := blk_M (F := F2) (kp5 _ _ (kp _ _ f13))
  obtain ⟨b5, o5', cs5, ea5, hbk5, g1, g2⟩ := hrow M5 kp5 old6
  clear hF6 hM6 kp6 kp4 old4 hx
  rw [ea] at ea5
  obtain ⟨rfl, rfl⟩ : b = b5 ∧ o = o5' := by cases ea5; exact ⟨rfl, rfl⟩
  have kpo : Keep M3 M5 := kp.trans kp5
  clear ea5
  cases he : envB q.p e.pe <;> cases hc : progC q.p
  all_goals simp only [go_sem, reduceCtorEq, reduceIte, Nat.reduceEqDiff, Nat.reduceLeDiff, q1, q3, q4, q5, hc, b15, eP, ea, hi0, hil, Int.toNat_natCast, hbk5, g1, g2, b6]
  all_goals try (with_reducible refine callK_same (k10 F2 M5 q.p e hp old6 hc (her M5 old6)) ?_)
  all_goals try simp only [go_sem, reduceIte, Nat.reduceEqDiff, Nat.reduceLeDiff, q1, he, b15, eP, b6]
  all_goals (with_reducible refine callK_same (k15 F2 M5 q.p x hp old6 hx5 ⟨by rw [hxl.1]; omega, by rw [hxl.2]; omega⟩) ?_)
  all_goals simp only [go_sem, reduceCtorEq, reduceIte, hxe, hc, he, and_self, and_false, false_and]
  all_goals (with_reducible refine callK_same (k9 F2 M5 _) ?_)
  all_goals simp only [go_sem, reduceIte, Nat.reduceEqDiff, Int.reduceEq]
  all_goals
    refine inBlock_st (fun σ F' M' => F2 = F' ∧ M5 = M') ?_ ?_
    rotate_left
    · rintro σ' F' M' hst ⟨rfl, rfl⟩
      have t5 := hst 5 rfl
      simp only [go_sem, Nat.reduceEqDiff, q5] at t5
      clear hst
      simp only [go_sem, reduceIte, t5, ei]
      exact ⟨hi1, rfl, kpo, old6, (by simp only [go_sem, *] <;> rfl)⟩
    refine loop_up q.s.length (ctK M5 F2) ⟨rfl, rfl, (by simp only [go_sem, *] <;> rfl)⟩ ?_
    rintro k σ2 F' M' hk hst ⟨rfl, rfl, q8⟩
    have t1 := hst 1 rfl
    have t3 := hst 3 rfl
    have t5 := hst 5 rfl
    have t6 := hst 6 rfl
    have t7 := hst 7 rfl
    simp only [go_sem, Nat.reduceEqDiff, q1, q3, q5] at t1 t3 t5 t6 t7
    clear hst
    by_cases hkl : (k : Int) < q.s.length
    rotate_left
    · simp only [go_sem, reduceCtorEq, reduceIte, Nat.reduceEqDiff, t1, q8, b15, hkl]
      exact At.mk ⟨rfl, rfl⟩
    by_cases hk5 : (k : Int) < 5
    rotate_left
    · simp only [go_sem, reduceIte, Nat.reduceEqDiff, t1, q8, b15, hkl, hk5]
      exact At.mk ⟨rfl, rfl⟩
    have hk0 : (0 : Int) ≤ k := by omega
    have hk1 : k < q.s.length := by omega
    have ek : IntKind.i64.wrap ((k : Int) + 1) = k + 1 := w64 (by omega) (by omega)
    obtain ⟨bs, os, css, eas, hbs, rows⟩ := (hq.s F2 M5 (Ext.old old6)).rows (by omega)
    obtain ⟨r1', r2'⟩ := rows k hk1
    clear rows
    have hsr : (q.s[k]).rd F2 M5 := (hq.ss _ (List.getElem_mem hk1)).rd F2 M5 (Ext.old old6)
    generalize q.s[k] = s at *
    simp only [go_sem, reduceIte, Nat.reduceEqDiff, Nat.reduceLeDiff, t1, t6, q8, hkl, hk5, hk0, b15, eP, b6, eas, Int.toNat_natCast, hbs, r1', r2']
    with_reducible refine callK_same (k16 F2 M5 q.p x s hp old6 hx5 hsr ⟨by rw [hxl.1]; omega, by rw [hxl.2]; omega⟩) ?_
    rw [hxe, hc, he]
    have hfc : envB q.p e.pe = true → stateB q.p s = true → FitM q.p s.blocks ∧ (e.no = false → (∀ c ∈ e.cells, FitC q.p s.blocks c.pc) ∧ e.news.length = q.p.news.length) := fun he hsB => by
      have hfm := FitM.of (state_mem hsB)
      refine ⟨hfm, fun hn => ?_⟩
      have := envB_cells he hn
      exact ⟨fun c hcm => FitC.of hfm (this.1 _ (List.mem_map_of_mem hcm)), this.2.1⟩
    cases hsB : stateB q.p s
    all_goals simp only [go_sem, reduceCtorEq, reduceIte, Nat.reduceEqDiff, and_self, and_false, false_and]
    all_goals simp only [go_sem, reduceCtorEq, reduceIte, Nat.reduceEqDiff, Nat.reduceLeDiff, t1, t7, q8, hkl, hk0, b15, eP, eas, Int.toNat_natCast, hbs, r1', r2']
    all_goals try (with_reducible refine callK_same (k8 F2 M5 q.p s hp old6 hsr) ?_)
    all_goals try simp only [go_sem, reduceIte, Nat.reduceEqDiff, Nat.reduceLeDiff, hsB, t1, t3, t5, q8, hi0, hil, hkl, hk0, b15, eP, ea, eas, Int.toNat_natCast, hbs, r1', r2', hbk5, g1, g2]
    all_goals try (with_reducible refine callK_same (k17 F2 M5 q.p e s hp old6 (her M5 old6) hsr hc (hfc he hsB).1 (hfc he hsB).2) ?_)
    all_goals try simp only [go_sem, Nat.reduceEqDiff]
    all_goals (with_reducible refine callK_same (k9 F2 M5 _) ?_)
    all_goals simp only [go_sem, reduceCtorEq, reduceIte, Nat.reduceEqDiff, t3, t5, t6, hi0, hil, b6, ea, Int.toNat_natCast, hbk5, g1, g2]
    all_goals (with_reducible refine callK_same (k12 F2 M5 x e hx5 (her M5 old6)) ?_)
    all_goals simp only [go_sem, reduceCtorEq, reduceIte, Nat.reduceEqDiff, hxe, decide_true, q8, ek]
    all_goals exact ⟨hk1, rfl, rfl, (by simp only [go_sem, *] <;> rfl)⟩
end Go.Proofs.YtjmgdglhhiccoaaGreat.cellsTells
