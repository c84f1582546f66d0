/- Parts B9: the machine's runs of small codes, contracts of functions, plain facts. -/
import Derived.Test.YtjmgdglhhiccoaaGreatB8
namespace Go.Proofs.Tryz.K
open Go Go.Ax Go.Proofs.Tryz.S
set_option maxRecDepth 100000
set_option linter.unusedSimpArgs false
set_option linter.unusedVariables false
set_option maxHeartbeats 4000000
variable (F : Fz) (M : Hp)
structure EnOwn (F : Fz) (M : Hp) (e : En) : Prop where
  own : OwnG 10 Cl.cs 87 F M (.slice e.cellsA e.cells.length e.cellsC) e.cells
  owns : ∀ x ∈ e.cells, OwnG 7 Ba.cs 157 F M (.slice x.lA x.l.length x.lC) x.l
  nums : OwnG 1 intC 3 F M (.slice e.newsA e.news.length e.newsC) e.news
  few : e.cells.length ≤ 100000 ∧ e.news.length ≤ 100000 ∧ ∀ x ∈ e.cells, x.l.length ≤ 100000
theorem EnOwn.rd {F : Fz} {M : Hp} {e : En} (h : EnOwn F M e) : e.rd F M :=
  ⟨h.own.rd Cl.len (by have := h.few.1; omega), fun x hx => (h.owns x hx).rd (fun x => rfl) (by have := h.few.2.2 x hx; omega), h.nums.rd intC_len (by have := h.few.2.1; omega), own_zero h.own, own_zero h.nums, fun x hx => own_zero (h.owns x hx)⟩
theorem EnOwn.frame {F : Fz} {M M' : Hp} {e : En} (h : EnOwn F M e) {te : TypeId} (fr : ∀ r x, M r = some x → ¬ x.elem = te → M' r = some x) (h1 : ¬ 87 = te) (h2 : ¬ 157 = te) (h3 : ¬ 3 = te) : EnOwn F M' e :=
  ⟨h.own.frame fr h1, fun x hx => (h.owns x hx).frame fr h2, h.nums.frame fr h3, h.few⟩
def envOwn (e : Pe) (F : Fz) (M : Hp) (u : Value) (F' : Fz) (M' : Hp) : Prop := F' = F ∧ Keep M M' ∧ Old F M' ∧ ∃ e' : En, u = e'.val ∧ e'.pe = e ∧ EnOwn F M' e'
structure JuB (p : Pg) (s : Ste) (r2 r3 r4 r5 : Nat) (F0 : Fz) (M0 : Hp) (wc wn : Value) (lc : List Cl) (ln : List Int) (M : Hp) : Prop where
  kp : Keep M0 M
  old : Old F0 M
  f2 : M r2 = some ⟨p.cs, 28, 7⟩
  f3 : M r3 = some ⟨s.cs, 46, 5⟩
  f4 : M r4 = some ⟨[.bool false, .slice none 0 0, .slice none 0 0], 38, 3⟩
  f5 : M r5 = some ⟨[.bool false, wc, wn], 38, 3⟩
  own : MineG 10 Cl.cs 87 F0 M0 M wc lc
  owns : ∀ x ∈ lc, OwnG 7 Ba.cs 157 F0 M (.slice x.lA x.l.length x.lC) x.l
  nums : MineG 1 intC 3 F0 M0 M wn ln
section
variable {p : Pg} {s : Ste} {r2 r3 r4 r5 : Nat} {F0 : Fz} {M0 M1 M2 : Hp} {wc wn : Value} {lc : List Cl} {ln : List Int}
theorem JuB.keep (h : JuB p s r2 r3 r4 r5 F0 M0 wc wn lc ln M1) (k : Keep M1 M2) (o : Old F0 M2) : JuB p s r2 r3 r4 r5 F0 M0 wc wn lc ln M2 :=
  ⟨h.kp.trans k, o, k _ _ h.f2, k _ _ h.f3, k _ _ h.f4, k _ _ h.f5, h.own.keep k, fun x hx => (h.owns x hx).keep k, h.nums.keep k⟩
theorem JuB.cell (h : JuB p s r2 r3 r4 r5 F0 M0 wc wn lc ln M1) (hF5 : F0 r5 = none) (h5 : M0 r5 = none) (h45 : ¬ r4 = r5) (h25 : ¬ r2 = r5) (h35 : ¬ r3 = r5) {w : Value} {c : Cl} (hc : OwnG 7 Ba.cs 157 F0 M1 (.slice c.lA c.l.length c.lC) c.l)
    (fr : ∀ r x, M1 r = some x → ¬ x.elem = 87 → M2 r = some x) (kp : Keep M0 M2) (o : Old F0 M2) (mine : MineG 10 Cl.cs 87 F0 M0 M2 w (lc ++ [c])) :
    JuB p s r2 r3 r4 r5 F0 M0 w wn (lc ++ [c]) ln (M2.upd r5 ⟨[.bool false, w, wn], 38, 3⟩) := by
  have g5 := fr _ _ h.f5 (by decide : ¬ (38 : Nat) = 87)
  have fr5 : ∀ r x, M2 r = some x → ¬ x.elem = 38 → (M2.upd r5 ⟨[.bool false, w, wn], 38, 3⟩) r = some x := fun r x hx hne => by
    have : ¬ r = r5 := by rintro rfl; rw [g5] at hx; cases hx; exact hne rfl
    rw [Hp.upd_ne' this]; exact hx
  refine ⟨kp.new h5, o.upd hF5, ?_, ?_, ?_, Hp.upd_same _ _ _, ⟨mine.own.frame fr5 (by decide), mine.new⟩, fun x hx => ?_, ⟨(h.nums.own.frame fr (by decide)).frame fr5 (by decide), h.nums.new⟩⟩
  · rw [Hp.upd_ne' h25]; exact fr _ _ h.f2 (by decide : ¬ (28 : Nat) = 87)
  · rw [Hp.upd_ne' h35]; exact fr _ _ h.f3 (by decide : ¬ (46 : Nat) = 87)
  · rw [Hp.upd_ne' h45]; exact fr _ _ h.f4 (by decide : ¬ (38 : Nat) = 87)
  · rcases List.mem_append.1 hx with hx | hx
    · exact ((h.owns x hx).frame fr (by decide)).frame fr5 (by decide)
    · rw [List.mem_singleton.1 hx]; exact (hc.frame fr (by decide)).frame fr5 (by decide)
theorem JuB.num (h : JuB p s r2 r3 r4 r5 F0 M0 wc wn lc ln M1) (hF5 : F0 r5 = none) (h5 : M0 r5 = none) (h45 : ¬ r4 = r5) (h25 : ¬ r2 = r5) (h35 : ¬ r3 = r5) {w : Value} {n : Int}
    (fr : ∀ r x, M1 r = some x → ¬ x.elem = 3 → M2 r = some x) (kp : Keep M0 M2) (o : Old F0 M2) (mine : MineG 1 intC 3 F0 M0 M2 w (ln ++ [n])) :
    JuB p s r2 r3 r4 r5 F0 M0 wc w lc (ln ++ [n]) (M2.upd r5 ⟨[.bool false, wc, w], 38, 3⟩) := by
  have g5 := fr _ _ h.f5 (by decide : ¬ (38 : Nat) = 3)
  have fr5 : ∀ r x, M2 r = some x → ¬ x.elem = 38 → (M2.upd r5 ⟨[.bool false, wc, w], 38, 3⟩) r = some x := fun r x hx hne => by
    have : ¬ r = r5 := by rintro rfl; rw [g5] at hx; cases hx; exact hne rfl
    rw [Hp.upd_ne' this]; exact hx
  refine ⟨kp.new h5, o.upd hF5, ?_, ?_, ?_, Hp.upd_same _ _ _, ⟨(h.own.own.frame fr (by decide)).frame fr5 (by decide), h.own.new⟩, fun x hx => ((h.owns x hx).frame fr (by decide)).frame fr5 (by decide), ⟨mine.own.frame fr5 (by decide), mine.new⟩⟩
  · rw [Hp.upd_ne' h25]; exact fr _ _ h.f2 (by decide : ¬ (28 : Nat) = 3)
  · rw [Hp.upd_ne' h35]; exact fr _ _ h.f3 (by decide : ¬ (46 : Nat) = 3)
  · rw [Hp.upd_ne' h45]; exact fr _ _ h.f4 (by decide : ¬ (38 : Nat) = 3)
end
theorem cellsAt_len (big : Bool) (q : Nat) (b : Int) (l : List By) : ∀ (n at_ : Nat), (cellsAt big q b l n at_).length ≤ n
  | 0, _ => by simp [cellsAt]
  | n + 1, at_ => by
    rw [cellsAt]
    split
    · have := cellsAt_len big q b l n (stepV big q b l at_).2
      simp only [List.length_cons]; omega
    · simp
theorem justL_len (big : Bool) (q : Nat) {p : Pg} {m : List Bl} (h : FitM p m) : ∀ i, (justL big q m i).length ≤ 32 * i
  | 0 => by simp [justL]
  | i + 1 => by
    have h1 := justL_len big q h i
    have h2 := cellsAt_len big q i (blAt m i).l (blAt m i).l.length 0
    have h3 : (blAt m i).l.length ≤ 32 := by
      by_cases hi : i < m.length
      · rw [blAt_get hi]; exact (h.bytes i hi).2.2.2
      · unfold blAt; rw [Int.toNat_natCast, List.getElem?_eq_none (by omega)]; decide
    rw [justL, List.length_append]
    omega
def juI (p : Pg) (s : Ste) (q : Nat) (r2 r3 r4 r5 : Nat) (F0 : Fz) (M0 : Hp) (i : Nat) (σ : Env) (F : Fz) (M : Hp) : Prop :=
  F0 = F ∧ Ax.look σ 16 = some (.int .i64 i) ∧ ∃ wc, ∃ lc : List Cl, JuB p s r2 r3 r4 r5 F0 M0 wc (.slice none 0 0) lc [] M ∧ lc.map Cl.pc = justL p.big q s.blocks i
def juB (p : Pg) (s : Ste) (q : Nat) (r2 r3 r4 r5 r7 : Nat) (x : Bl) (i : Nat) (F0 : Fz) (M0 : Hp) (n : Nat) (σ : Env) (F : Fz) (M : Hp) : Prop :=
  F0 = F ∧ ∃ at_ : Nat, at_ + n = x.l.length ∧ Ax.look σ 8 = some (.int .i64 at_) ∧ M r7 = some ⟨x.cs, 54, 2⟩ ∧ ∃ wc, ∃ lc : List Cl, JuB p s r2 r3 r4 r5 F0 M0 wc (.slice none 0 0) lc [] M ∧ lc.map Cl.pc ++ cellsAt p.big q i x.l n at_ = justL p.big q s.blocks (i + 1)
theorem step_one (big : Bool) (q : Nat) (b : Int) (l : List By) (at_ : Nat) : (stepV big q b l at_).1.l.length ≤ 1 := by
  unfold stepV
  split
  · simp [ptrC]
  · unfold singleV
    split
    · simp
    split <;> simp
theorem cellsAt_one (big : Bool) (q : Nat) (b : Int) (l : List By) : ∀ (n at_ : Nat), ∀ c ∈ cellsAt big q b l n at_, c.l.length ≤ 1
  | 0, _, c, hc => by simp [cellsAt] at hc
  | n + 1, at_, c, hc => by
    rw [cellsAt] at hc
    split at hc
    · rcases List.mem_cons.1 hc with rfl | hc
      · exact step_one _ _ _ _ _
      · exact cellsAt_one big q b l n _ c hc
    · simp at hc
theorem justL_one (big : Bool) (q : Nat) (m : List Bl) : ∀ i, ∀ c ∈ justL big q m i, c.l.length ≤ 1
  | 0, c, hc => by simp [justL] at hc
  | i + 1, c, hc => by
    rw [justL] at hc
    rcases List.mem_append.1 hc with hc | hc
    · exact justL_one big q m i c hc
    · exact cellsAt_one big q _ _ _ _ c hc
def juN (p : Pg) (s : Ste) (D : List Bl) (G : Bl → Int) (r2 r3 r4 r5 : Nat) (wc : Value) (lc : List Cl) (F0 : Fz) (M0 : Hp) (k : Nat) (σ : Env) (F : Fz) (M : Hp) : Prop :=
  F0 = F ∧ Ax.look σ 75 = some (.int .i64 k) ∧ ∃ wn, JuB p s r2 r3 r4 r5 F0 M0 wc wn lc ((D.take k).map G) M
theorem k29 (p : Pg) (s : Ste) (hp : p.rd F) (hold : Old F M) (hs : s.rd F M) (hc : progC p = true) (hfm : FitM p s.blocks) :
    CallsA Tryz.prog 29 [p.val, s.val] F M (envOwn (justV p s.blocks) F M) := by
  refine callsA_of hm Tryz.func29 e29 (Nat.le_of_ble_eq_true rfl) ?_
  have hpre := progC_pre hc
  obtain ⟨q, hq⟩ := Int.eq_ofNat_of_zero_le (by omega : 0 ≤ p.ptr)
  have hq' : q = 2 ∨ q = 4 := by omega
  have hq0 : 0 < q := by omega
  have hlen := hfm.len
  simp only [c29, go_sem]
  intro r2 hF2 hM2
  simp only [go_sem, reduceCtorEq, Nat.reduceEqDiff]
  intro r3 hF3 hM3
  simp only [upd_none2] at hM3
  simp only [go_sem, Nat.reduceAdd]
  intro r4 hF4 hM4
  simp only [upd_none2] at hM4
  simp only [go_sem, Nat.reduceAdd]
  intro r5 hF5 hM5
  simp only [upd_none2] at hM5
  have n4 : M r4 = none := hM4.2.2
  have n5 : M r5 = none := hM5.2.2.2
  have h45 : ¬ r4 = r5 := by simp [hM5]
  have h54 : ¬ r5 = r4 := by simp [hM5]
  have h25 : ¬ r2 = r5 := by simp [hM5]
  have h35 : ¬ r3 = r5 := by simp [hM5]
  have st : JuB p s r2 r3 r4 r5 F M (.slice none 0 0) (.slice none 0 0) [] [] ((((M.upd r2 ⟨p.cs, 28, 7⟩).upd r3 ⟨s.cs, 46, 5⟩).upd r4 ⟨[.bool false, .slice none 0 0, .slice none 0 0], 38, 3⟩).upd r5 ⟨[.bool false, .slice none 0 0, .slice none 0 0], 38, 3⟩) := by
    refine ⟨(by repeat' first | exact Keep.refl _ | (refine Keep.new ?_ (by simp only [*]))), (by repeat' first | assumption | (refine Old.upd ?_ (by assumption))), ?_, ?_, ?_, Hp.upd_same _ _ _, MineG.nil, fun x hx => by (cases hx), MineG.nil⟩
    · rw [Hp.upd_ne' h25, Hp.upd_ne' (by simp [hM4]), Hp.upd_ne' (by simp [hM3])]; exact Hp.upd_same _ _ _
    · rw [Hp.upd_ne' h35, Hp.upd_ne' (by simp [hM4])]; exact Hp.upd_same _ _ _
    · rw [Hp.upd_ne' h45]; exact Hp.upd_same _ _ _
  generalize ((((M.upd r2 ⟨p.cs, 28, 7⟩).upd r3 ⟨s.cs, 46, 5⟩).upd r4 ⟨[.bool false, .slice none 0 0, .slice none 0 0], 38, 3⟩).upd r5 ⟨[.bool false, .slice none 0 0, .slice none 0 0], 38, 3⟩) = M1 at *
  clear hM2 hM3 hM4 hM5 hF2 hF3
  have b2 := blk_M (F := F) st.f2
  have b3 := blk_M (F := F) st.f3
  simp only [go_sem, Nat.reduceEqDiff, b3]
  refine inBlock_st (fun σ F' M' => F = F' ∧ ∃ wc, ∃ lc : List Cl, JuB p s r2 r3 r4 r5 F M wc (.slice none 0 0) lc [] M' ∧ lc.map Cl.pc = justL p.big q s.blocks s.blocks.length) ?_ ?_
  · refine loop_up s.blocks.length (juI p s q r2 r3 r4 r5 F M) ⟨rfl, (by simp only [go_sem, *] <;> rfl), _, [], st, rfl⟩ ?_
    clear b2 b3 st
    rintro i σ F' M2 hi hst ⟨rfl, q16, wc, lc, st, hlc⟩
    have q2 := hst 2 rfl
    have q3 := hst 3 rfl
    have q5 := hst 5 rfl
    have q14 := hst 14 rfl
    have q15 := hst 15 rfl
    simp only [go_sem, Nat.reduceEqDiff] at q2 q3 q5 q14 q15
    clear hst
    by_cases hil : (i : Int) < s.blocks.length
    rotate_left
    · have : i = s.blocks.length := by omega
      rw [this] at hlc
      simp only [go_sem, reduceIte, q16, q15, hil]
      exact At.mk ⟨rfl, wc, lc, st, hlc⟩
    have hi0 : (0 : Int) ≤ i := by omega
    have hi1 : i < s.blocks.length := by omega
    have ei : IntKind.i64.wrap ((i : Int) + 1) = i + 1 := w64 (by omega) (by omega)
    obtain ⟨b, o, cs, ea, hb, rows⟩ := (hs.keep st.kp st.old).blocks.rows (by omega)
    obtain ⟨d1, d2⟩ := rows i hi1
    clear rows
    have hx := hs.bytes _ (List.getElem_mem hi1)
    have hxb := hfm.bytes i hi1
    have hjs : justL p.big q s.blocks (i + 1) = justL p.big q s.blocks i ++ cellsAt p.big q i (s.blocks[i]).l (s.blocks[i]).l.length 0 := by
      rw [← blAt_get hi1]; rfl
    generalize s.blocks[i] = x at *
    simp only [go_sem, reduceIte, Nat.reduceEqDiff, Nat.reduceAdd, q14, q15, q16, hil, hi0, ea, Int.toNat_natCast, hb, d1, d2]
    intro r7 hF7 hM7
    simp only [setH, Hp.upd_upd, go_sem, Nat.reduceEqDiff, Nat.reduceAdd]
    have kp7 : Keep M2 (M2.upd r7 ⟨x.cs, 54, 2⟩) := (Keep.refl M2).new hM7
    have st7 := st.keep kp7 (st.old.upd hF7)
    have f7 : (M2.upd r7 ⟨x.cs, 54, 2⟩) r7 = some ⟨x.cs, 54, 2⟩ := Hp.upd_same _ _ _
    have h75 : ¬ r7 = r5 := by rintro rfl; rw [st.f5] at hM7; cases hM7
    generalize M2.upd r7 ⟨x.cs, 54, 2⟩ = M3 at *
    clear st kp7 hM7 hF7
    refine inBlock_st (fun σ F' M' => F = F' ∧ ∃ wc, ∃ lc : List Cl, JuB p s r2 r3 r4 r5 F M wc (.slice none 0 0) lc [] M' ∧ lc.map Cl.pc = justL p.big q s.blocks (i + 1)) ?_ ?_
    · refine loop_st (juB p s q r2 r3 r4 r5 r7 x i F M) x.l.length ⟨rfl, 0, by omega, (by simp only [go_sem, *] <;> rfl), f7, wc, lc, st7, by rw [hjs, hlc]⟩ ?_
      clear hlc st7 f7
      rintro n σ2 F' M2 hst ⟨rfl, at_, hat, q8, f7, wc, lc, st, hlc⟩
      have t2 := hst 2 rfl
      have t5 := hst 5 rfl
      have t6 := hst 6 rfl
      have t7 := hst 7 rfl
      simp only [go_sem, Nat.reduceEqDiff, q2, q5] at t2 t5 t6 t7
      clear hst
      have b2 := blk_M (F := F) st.f2
      have b5 := blk_M (F := F) st.f5
      have b7 := blk_M (F := F) f7
      by_cases hal : (at_ : Int) < x.l.length
      rotate_left
      · have hn : n = 0 := by omega
        rw [hn] at hlc
        have hlc' : lc.map Cl.pc = justL p.big q s.blocks (i + 1) := by rw [← hlc]; simp [cellsAt]
        simp only [go_sem, reduceIte, Nat.reduceEqDiff, t7, q8, b7, hal]
        exact At.mk ⟨rfl, wc, lc, st, hlc'⟩
      have ha0 : (0 : Int) ≤ at_ := by omega
      have ha1 : at_ < x.l.length := by omega
      have hx2 : x.rd F M2 := RdG.keep hx st.kp st.old
      have hn : n = x.l.length - at_ := by omega
      rw [hn, cellsAt_step hq0 ha1] at hlc
      have kW := k68 F M2 p.big q x.lA x.lC x.l at_ hq' st.old hx2 (by omega) (by omega)
      rw [← hq] at kW
      simp only [go_sem, reduceIte, Nat.reduceEqDiff, Nat.reduceLeDiff, t2, t7, q8, b2, b7, hal]
      with_reducible refine callK_same kW ?_
      have hsv : stepV p.big q i x.l at_ = if (wholeV p.big q x.l at_).2 = true then (ptrC i at_ (wholeV p.big q x.l at_).1, at_ + q) else (singleV i at_ (byAt x.l at_), at_ + 1) := rfl
      have hle : (wholeV p.big q x.l at_).2 = true → at_ + q ≤ x.l.length := fun h => by
        unfold wholeV at h
        split at h
        · rename_i h2; exact h2.2
        · cases h
      generalize wholeV p.big q x.l at_ = rv at *
      obtain ⟨sc, ok⟩ := rv
      simp only [go_sem, Nat.reduceEqDiff, Nat.reduceAdd]
      intro r9 hF9 hM9
      have kp9 : ∀ e, Keep M2 (M2.upd r9 e) := fun e => (Keep.refl M2).new hM9
      have st9 := fun e => st.keep (kp9 e) (st.old.upd hF9)
      have f79 := fun e => kp9 e _ _ f7
      simp only [setH, Hp.upd_upd, go_sem, Nat.reduceEqDiff, Nat.reduceAdd]
      have st9 := st9 ⟨sc.cs, 119, 4⟩
      have f79 := f79 ⟨sc.cs, 119, 4⟩
      have f9 : (M2.upd r9 ⟨sc.cs, 119, 4⟩) r9 = some ⟨sc.cs, 119, 4⟩ := Hp.upd_same _ _ _
      generalize M2.upd r9 ⟨sc.cs, 119, 4⟩ = M3 at *
      have b29 := blk_M (F := F) st9.f2
      have b59 := blk_M (F := F) st9.f5
      have b79 := blk_M (F := F) f79
      have b9 := blk_M (F := F) f9
      clear kp9 hM9 hF9 st f7 b2 b5 b7
      have done : ∀ (c : Cl) (M4 : Hp), Keep M3 M4 → Old F M4 → OwnG 7 Ba.cs 157 F M4 (.slice c.lA c.l.length c.lC) c.l → ∀ w M5, (∀ r x, M4 r = some x → ¬ x.elem = 87 → M5 r = some x) → Keep M M5 → Old F M5 → MineG 10 Cl.cs 87 F M M5 w (lc ++ [c]) →
          JuB p s r2 r3 r4 r5 F M w (.slice none 0 0) (lc ++ [c]) [] (M5.upd r5 ⟨[.bool false, w, .slice none 0 0], 38, 3⟩) ∧ (M5.upd r5 ⟨[.bool false, w, .slice none 0 0], 38, 3⟩) r7 = some ⟨x.cs, 54, 2⟩ := fun c M4 kp4 o4 own w M5 fr kp5 o5 mine =>
        ⟨(st9.keep kp4 o4).cell hF5 n5 h45 h25 h35 own fr kp5 o5 mine, by rw [Hp.upd_ne' h75]; exact fr _ _ (kp4 _ _ f79) (by decide : ¬ (54 : Nat) = 87)⟩
      have hbig : lc.length + 1 ≤ 1000000 := by
        have h1 := justL_len p.big q hfm (i + 1)
        rw [← hlc] at h1
        have h2 := hpre.2.1
        have h3 := hpre.2.2.1
        simp only [List.length_append, List.length_map, List.length_cons] at h1
        omega
      cases ok
      · have hy := List.getElem_mem ha1
        have hby : byAt x.l at_ = x.l[at_] := by unfold byAt; rw [List.getElem?_eq_getElem ha1]; rfl
        have hx3 : x.rd F M3 := RdG.keep hx st9.kp st9.old
        obtain ⟨b', o', cs', ea', hb', rows⟩ := hx3.rows (by omega)
        obtain ⟨e1, e2⟩ := rows at_ ha1
        clear rows
        rw [if_neg Bool.false_ne_true] at hsv
        rw [hby] at hsv
        rw [hsv] at hlc
        generalize x.l[at_] = y at *
        simp only [go_sem, reduceIte, Nat.reduceEqDiff, t5, t6, t7, q8, b59, b79, hal, ha0, ea', Int.toNat_natCast, hb', e1, e2]
        with_reducible refine callK_of (k70 F M3 i at_ y st9.old) ?_
        rintro u F' M4 ⟨hG, kp4, old4, c, rfl, hc', own⟩
        subst hG
        refine ⟨fun _ => kp4.le old4, ?_⟩
        simp only [go_sem, reduceIte, Nat.reduceAdd]
        intro rb hFb hMb
        simp only [go_sem, Nat.reduceEqDiff]
        have kpb : Keep M4 (M4.upd rb ⟨c.cs, 87, 10⟩) := (Keep.refl M4).new hMb
        refine apMG_of (xs := lc) (ys := [c]) Cl.len Cl.plain (by decide) ((st9.own.keep kp4).keep kpb) ((st9.kp.trans kp4).trans kpb) ⟨rfl, .inr ⟨⟨rb, 0, none⟩, 1, rfl, .inr ⟨rb, 0, _, rfl, blk_upd_same, by simp [Cl.take_all]⟩⟩⟩ (by simp) (by simpa using hbig) ?_
        rintro _ M5 ⟨g', c'', rfl⟩ fr kp5 o5 mine
        obtain ⟨stN, f7N⟩ := done c _ (kp4.trans kpb) (old4.upd hFb) (own.keep kpb) _ M5 fr kp5 (o5 (old4.upd hFb)) mine
        rw [show (lc ++ [c]).length = lc.length + 1 by simp] at stN f7N
        have g5 := fr _ _ (kpb _ _ (kp4 _ _ st9.f5)) (by decide : ¬ (38 : Nat) = 87)
        have ew : IntKind.i64.wrap ((at_ : Int) + 1) = ((at_ + 1 : Nat) : Int) := by rw [w64 (by omega) (by omega)]; omega
        simp only [setH, go_sem, reduceIte, Nat.reduceEqDiff, Nat.reduceAdd, Nat.reduceLeDiff, t5, q8, g5, ew]
        exact ⟨⟨n - 1, by omega, rfl, at_ + 1, by omega, (by simp only [go_sem, *] <;> rfl), f7N, _, lc ++ [c], stN, by rw [← hlc, List.map_append, List.map_singleton, hc', List.append_assoc, List.singleton_append, show n - 1 = x.l.length - (at_ + 1) from by omega]⟩⟩
      · rw [if_pos rfl] at hsv
        rw [hsv] at hlc
        simp only [go_sem, reduceIte, Nat.reduceEqDiff, t5, t6, q8, b59, b9]
        with_reducible refine callK_of (k69 F M3 7 sc (.inl rfl)) ?_
        rintro u F' M4 ⟨hG, hu⟩
        subst hG
        rw [if_pos rfl, if_pos rfl] at hu
        obtain ⟨hh, _⟩ | ⟨g, cap, gF, gM, rfl, hcap, rfl⟩ := hu
        · cases hh
        refine ⟨fun _ => Le.upd gF gM, ?_⟩
        have kp4 : Keep M3 (M3.upd g ⟨[(⟨sc.b, V.just 8 sc.o⟩ : Ba)].flatMap Ba.cs, 157, cap * 7⟩) := (Keep.refl M3).new gM
        have old4 := st9.old.upd (e := ⟨[(⟨sc.b, V.just 8 sc.o⟩ : Ba)].flatMap Ba.cs, 157, cap * 7⟩) gF
        have own : OwnG 7 Ba.cs 157 F' (M3.upd g ⟨[(⟨sc.b, V.just 8 sc.o⟩ : Ba)].flatMap Ba.cs, 157, cap * 7⟩) (.slice (some ⟨g, 0, none⟩) [(⟨sc.b, V.just 8 sc.o⟩ : Ba)].length cap) [⟨sc.b, V.just 8 sc.o⟩] := .inr ⟨g, cap, rfl, gF, Hp.upd_same _ _ _, hcap⟩
        generalize M3.upd g ⟨[(⟨sc.b, V.just 8 sc.o⟩ : Ba)].flatMap Ba.cs, 157, cap * 7⟩ = M4 at *
        simp only [go_sem, reduceIte, Nat.reduceEqDiff, Nat.reduceAdd, Nat.reduceLeDiff]
        intro rb hFb hMb
        have eC : (Value.int .i64 ↑i :: Value.int .i64 ↑at_ :: Value.int .i64 7 :: abCs V.zero (Value.slice (some ⟨g, 0, none⟩) 1 cap)) = Cl.cs ⟨i, at_, 7, V.zero, some ⟨g, 0, none⟩, cap, [⟨sc.b, V.just 8 sc.o⟩]⟩ := rfl
        rw [eC]
        obtain ⟨c, hc⟩ : ∃ c : Cl, c = ⟨i, at_, 7, V.zero, some ⟨g, 0, none⟩, cap, [⟨sc.b, V.just 8 sc.o⟩]⟩ := ⟨_, rfl⟩
        have hc' : c.pc = ptrC i at_ sc := by rw [hc]; rfl
        have own : OwnG 7 Ba.cs 157 F' M4 (.slice c.lA c.l.length c.lC) c.l := by rw [hc]; exact own
        rw [← hc]
        clear eC hc
        simp only [go_sem, Nat.reduceEqDiff]
        have kpb : Keep M4 (M4.upd rb ⟨c.cs, 87, 10⟩) := (Keep.refl M4).new hMb
        refine apMG_of (xs := lc) (ys := [c]) Cl.len Cl.plain (by decide) ((st9.own.keep kp4).keep kpb) ((st9.kp.trans kp4).trans kpb) ⟨rfl, .inr ⟨⟨rb, 0, none⟩, 1, rfl, .inr ⟨rb, 0, _, rfl, blk_upd_same, by simp [Cl.take_all]⟩⟩⟩ (by simp) (by simpa using hbig) ?_
        rintro _ M5 ⟨g', c'', rfl⟩ fr kp5 o5 mine
        obtain ⟨stN, f7N⟩ := done c _ (kp4.trans kpb) (old4.upd hFb) (own.keep kpb) _ M5 fr kp5 (o5 (old4.upd hFb)) mine
        rw [show (lc ++ [c]).length = lc.length + 1 by simp] at stN f7N
        have g5 := fr _ _ (kpb _ _ (kp4 _ _ st9.f5)) (by decide : ¬ (38 : Nat) = 87)
        have b2N := blk_M (F := F') stN.f2
        have hle2 := hle rfl
        have ew : IntKind.i64.wrap ((at_ : Int) + p.ptr) = ((at_ + q : Nat) : Int) := by rw [hq, w64 (by omega) (by omega)]; omega
        simp only [setH, go_sem, reduceIte, Nat.reduceEqDiff, Nat.reduceAdd, Nat.reduceLeDiff, t2, t5, q8, g5, b2N, ew]
        exact ⟨⟨n - q, by omega, rfl, at_ + q, by omega, (by simp only [go_sem, *] <;> rfl), f7N, _, lc ++ [c], stN, by rw [← hlc, List.map_append, List.map_singleton, hc', List.append_assoc, List.singleton_append, show n - q = x.l.length - (at_ + q) from by omega]⟩⟩
    · clear hlc st7 f7
      rintro σ2 F' M4 hst ⟨rfl, wc, lc, st, hlc⟩
      have t16 := hst 16 rfl
      simp only [go_sem, Nat.reduceEqDiff, q16] at t16
      clear hst
      simp only [go_sem, reduceIte, t16, ei]
      exact ⟨hi1, rfl, (by simp only [go_sem, *] <;> rfl), wc, lc, st, hlc⟩
  · clear st b2 b3
    rintro σ F' M2 hst ⟨rfl, wc, lc, st, hlc⟩
    have q2 := hst 2 rfl
    have q3 := hst 3 rfl
    have q4 := hst 4 rfl
    have q5 := hst 5 rfl
    simp only [go_sem, Nat.reduceEqDiff] at q2 q3 q4 q5
    clear hst
    have b2 := blk_M (F := F) st.f2
    have b3 := blk_M (F := F) st.f3
    have hb0 := (hs.keep st.kp st.old).blocks
    have hbc : s.blocks.length ≤ s.blocksC := by
      obtain ⟨_, ad, cap, hc, e, _⟩ := hb0
      cases e; exact hc
    have hlo : 1 + p.vars.length ≤ s.blocks.length := by omega
    have ew : IntKind.i64.wrap (1 + (p.vars.length : Int)) = ((1 + p.vars.length : Nat) : Int) := by rw [w64 (by omega) (by omega)]; omega
    have e1 : (0 : Int) ≤ ((1 + p.vars.length : Nat) : Int) := by omega
    have e2 : ((1 + p.vars.length : Nat) : Int) ≤ s.blocks.length := by omega
    have hdl : (s.blocks.drop (1 + p.vars.length)).length = s.blocks.length - (1 + p.vars.length) := by simp
    obtain ⟨da, hda⟩ : ∃ da : Option Addr, da = (if (s.blocksC : Int) = ((1 + p.vars.length : Nat) : Int) then s.blocksA else s.blocksA.map (·.add ((1 + p.vars.length) * 2))) := ⟨_, rfl⟩
    have hD : ∀ M', Keep M M' → Old F M' → RdG 2 Bl.cs F M' (.slice da (s.blocks.drop (1 + p.vars.length)).length (s.blocksC - (1 + p.vars.length))) (s.blocks.drop (1 + p.vars.length)) := fun M' k o => by
      have := RdG.cut (hs.keep k o).blocks (lo := 1 + p.vars.length) (n := s.blocks.length - (1 + p.vars.length)) (by omega)
      rw [List.take_of_length_le (by omega), ← hda] at this
      exact this
    simp only [go_sem, reduceIte, Nat.reduceEqDiff, q2, q3, b2, b3, ew, e1, e2, Int.toNat_natCast]
    rw [← hda, ← hdl]
    obtain ⟨G, hG⟩ : ∃ G : Bl → Int, G = fun x => shlv .i64 1 x.st := ⟨_, rfl⟩
    have hGx : ∀ x, shlv .i64 1 x.st = G x := fun x => by rw [hG]
    have hpe : ∀ (a1 a2 : Option Addr) (c1 c2 : Nat), (En.mk false a1 c1 lc a2 c2 ((s.blocks.drop (1 + p.vars.length)).map G)).pe = justV p s.blocks := fun a1 a2 c1 c2 => by
      unfold En.pe justV
      simp only [hlc, hq, Int.toNat_natCast, hG]
    have hst : ∀ x ∈ s.blocks.drop (1 + p.vars.length), ¬ x.st < 0 := fun x hx => by
      obtain ⟨j, hj, e⟩ := List.getElem_of_mem (List.mem_of_mem_drop hx)
      have := (hfm.bytes j hj).2.1
      rw [e] at this; omega
    have hDn : (s.blocks.drop (1 + p.vars.length)).length ≤ 2 := by have := hpre.2.2.1; omega
    have hll : lc.length ≤ 224 := by
      have h1 := justL_len p.big q hfm s.blocks.length
      rw [← hlc, List.length_map] at h1
      have := hpre.2.1
      have := hpre.2.2.1
      omega
    have hlp : ∀ x ∈ lc, x.l.length ≤ 1 := fun x hx => justL_one p.big q s.blocks s.blocks.length x.pc (by rw [← hlc]; exact List.mem_map_of_mem hx)
    clear hda hdl hG
    generalize s.blocks.drop (1 + p.vars.length) = D at *
    refine loop_up D.length (juN p s D G r2 r3 r4 r5 wc lc F M) ⟨rfl, (by simp only [go_sem, *] <;> rfl), _, st⟩ ?_
    clear st b2 b3
    rintro k σ2 F' M2 hk hs2 ⟨rfl, q75, wn, st⟩
    have t4 := hs2 4 rfl
    have t5 := hs2 5 rfl
    have t73 := hs2 73 rfl
    have t74 := hs2 74 rfl
    simp only [go_sem, Nat.reduceEqDiff, q4, q5] at t4 t5 t73 t74
    clear hs2
    have b5 := blk_M (F := F) st.f5
    by_cases hkl : (k : Int) < D.length
    rotate_left
    · rw [List.take_of_length_le (by omega)] at st
      obtain ⟨a1, c1, rfl⟩ := st.own.shape
      obtain ⟨a2, c2, rfl⟩ := st.nums.shape
      have f4 := st.f4
      simp only [setH, go_sem, reduceIte, Nat.reduceEqDiff, Nat.reduceAdd, t4, t5, t74, q75, hkl, b5, f4]
      have fr4 : ∀ r x, M2 r = some x → ¬ x.elem = 38 → (M2.upd r4 ⟨[.bool false, .slice a1 lc.length c1, .slice a2 (D.map G).length c2], 38, 3⟩) r = some x := fun r x hx hne => by
        have : ¬ r = r4 := by rintro rfl; rw [f4] at hx; cases hx; exact hne rfl
        rw [Hp.upd_ne' this]; exact hx
      have o1 := st.own.own.frame fr4 (by decide)
      have o2 := st.nums.own.frame fr4 (by decide)
      have o3 := fun x hx => (st.owns x hx).frame fr4 (by decide)
      exact endK_same ⟨rfl, st.kp.new n4, st.old.upd hF4, ⟨false, a1, c1, lc, a2, c2, D.map G⟩, rfl, hpe a1 a2 c1 c2, ⟨o1, o3, o2, by show lc.length ≤ _; omega, by show (D.map G).length ≤ _; simp; omega, fun x hx => by have := hlp x hx; omega⟩⟩
    have hk0 : (0 : Int) ≤ k := by omega
    have hk1 : k < D.length := by omega
    have ek : IntKind.i64.wrap ((k : Int) + 1) = k + 1 := w64 (by omega) (by omega)
    obtain ⟨b', o', cs', ea', hb', rows⟩ := (hD M2 st.kp st.old).rows (by omega)
    obtain ⟨d1, d2⟩ := rows k hk1
    clear rows
    have hx0 := hst _ (List.getElem_mem hk1)
    have t1 := List.take_succ_eq_append_getElem hk1
    generalize D[k] = x at *
    simp only [go_sem, reduceIte, Nat.reduceEqDiff, Nat.reduceAdd, t73, t74, q75, hkl, hk0, ea', Int.toNat_natCast, hb', d1, d2]
    intro r12 hF12 hM12
    have kp12 : Keep M2 (M2.upd r12 ⟨x.cs, 54, 2⟩) := (Keep.refl M2).new hM12
    have st12 := st.keep kp12 (st.old.upd hF12)
    have f12 : (M2.upd r12 ⟨x.cs, 54, 2⟩) r12 = some ⟨x.cs, 54, 2⟩ := Hp.upd_same _ _ _
    simp only [setH, Hp.upd_upd, go_sem, Nat.reduceEqDiff, Nat.reduceAdd]
    generalize M2.upd r12 ⟨x.cs, 54, 2⟩ = M3 at *
    have b512 := blk_M (F := F) st12.f5
    have b12 := blk_M (F := F) f12
    simp only [go_sem, reduceIte, Nat.reduceEqDiff, t5, b512, b12, hx0, hGx]
    intro rb hFb hMb
    simp only [go_sem, Nat.reduceEqDiff]
    obtain ⟨y, hy⟩ : ∃ y, G x = y := ⟨_, rfl⟩
    rw [hy]
    have kpb : Keep M3 (M3.upd rb ⟨[.int .i64 y], 3, 1⟩) := (Keep.refl M3).new hMb
    have stb := st12.keep kpb (st12.old.upd hFb)
    refine apMG_of (xs := (D.take k).map G) (ys := [y]) intC_len intC_plain (by decide) stb.nums stb.kp ⟨rfl, .inr ⟨⟨rb, 0, none⟩, 1, rfl, .inr ⟨rb, 0, _, rfl, blk_upd_same, by simp [intC, intV]⟩⟩⟩ (by simp) (by simp; omega) ?_
    rintro _ M5 ⟨g', c'', rfl⟩ fr kp5 o5 mine
    have stN := stb.num hF5 n5 h45 h25 h35 fr kp5 (o5 stb.old) mine
    have g5 := fr _ _ stb.f5 (by decide : ¬ (38 : Nat) = 3)
    have et : ((D.take (k + 1)).map G) = ((D.take k).map G) ++ [y] := by rw [t1]; simp [← hy]
    rw [← et] at stN ⊢
    simp only [setH, go_sem, reduceIte, Nat.reduceEqDiff, Nat.reduceAdd, t5, q75, g5, ek]
    exact ⟨hk1, rfl, (by simp only [go_sem, *] <;> rfl), _, stN⟩
end Go.Proofs.Tryz.K
namespace Go.Proofs.Tryz.K
open Go Go.Ax Go.Proofs.Tryz.S
set_option maxRecDepth 100000
set_option linter.unusedSimpArgs false
set_option linter.unusedVariables false
set_option maxHeartbeats 4000000
variable (F : Fz) (M : Hp)
def noEnv : En := ⟨false, none, 0, [], none, 0, []⟩
theorem noEnv_val : Value.agg #[.bool false, .slice none 0 0, .slice none 0 0] = noEnv.val := rfl
theorem noEnv_rd {F : Fz} {M : Hp} : noEnv.rd F M := ⟨rdG_nil, (fun x hx => by cases hx), rdG_nil, (fun _ => rfl), (fun _ => rfl), (fun x hx => by cases hx)⟩
def ofR (p : Pg) (s : Ste) (F : Fz) (M : Hp) (v : Value) (F' : Fz) (M' : Hp) : Prop :=
  F' = F ∧ Keep M M' ∧ Old F M' ∧ ∃ e : En, ∃ n : Int, v = .tuple #[e.val, .int .i64 n] ∧ e.rd F M' ∧ ((progC p = true ∧ stateB p s = true ∧ n = 0 ∧ e.pe = justV p s.blocks) ∨ (¬ (progC p = true ∧ stateB p s = true) ∧ n = 1 ∧ e = noEnv))
theorem k7 (p : Pg) (s : Ste) (hp : p.rd F) (hold : Old F M) (hs : s.rd F M) : CallsA Tryz.prog 7 [p.val, s.val] F M (ofR p s F M) := by
  refine callsA_of hm Tryz.func7 e7 (Nat.le_of_ble_eq_true rfl) ?_
  simp only [c7, go_sem]
  intro r2 hF2 hM2
  simp only [go_sem, reduceCtorEq, Nat.reduceEqDiff]
  intro r3 hF3 hM3
  simp only [upd_none2] at hM3
  simp only [go_sem, Nat.reduceAdd]
  intro r4 hF4 hM4
  simp only [upd_none2] at hM4
  have kp4 : Keep M (((M.upd r2 ⟨p.cs, 28, 7⟩).upd r3 ⟨s.cs, 46, 5⟩).upd r4 ⟨[.bool false, .slice none 0 0, .slice none 0 0], 38, 3⟩) := (by repeat' first | exact Keep.refl _ | (refine Keep.new ?_ (by simp only [*])))
  have old4 : Old F (((M.upd r2 ⟨p.cs, 28, 7⟩).upd r3 ⟨s.cs, 46, 5⟩).upd r4 ⟨[.bool false, .slice none 0 0, .slice none 0 0], 38, 3⟩) := (by repeat' first | assumption | (refine Old.upd ?_ (by assumption)))
  have f2 : (((M.upd r2 ⟨p.cs, 28, 7⟩).upd r3 ⟨s.cs, 46, 5⟩).upd r4 ⟨[.bool false, .slice none 0 0, .slice none 0 0], 38, 3⟩) r2 = some ⟨p.cs, 28, 7⟩ := by rw [Hp.upd_ne' (by simp [hM4]), Hp.upd_ne' (by simp [hM3])]; exact Hp.upd_same _ _ _
  have f3 : (((M.upd r2 ⟨p.cs, 28, 7⟩).upd r3 ⟨s.cs, 46, 5⟩).upd r4 ⟨[.bool false, .slice none 0 0, .slice none 0 0], 38, 3⟩) r3 = some ⟨s.cs, 46, 5⟩ := by rw [Hp.upd_ne' (by simp [hM4])]; exact Hp.upd_same _ _ _
  have f4 : (((M.upd r2 ⟨p.cs, 28, 7⟩).upd r3 ⟨s.cs, 46, 5⟩).upd r4 ⟨[.bool false, .slice none 0 0, .slice none 0 0], 38, 3⟩) r4 = some ⟨[.bool false, .slice none 0 0, .slice none 0 0], 38, 3⟩ := Hp.upd_same _ _ _
  have n4 : M r4 = none := hM4.2.2
  generalize (((M.upd r2 ⟨p.cs, 28, 7⟩).upd r3 ⟨s.cs, 46, 5⟩).upd r4 ⟨[.bool false, .slice none 0 0, .slice none 0 0], 38, 3⟩) = M1 at *
  have hs1 := hs.keep kp4 old4
  have b2 := blk_M (F := F) f2
  have b3 := blk_M (F := F) f3
  have b4 := blk_M (F := F) f4
  clear hM2 hM3 hM4 hF2 hF3
  have bad : ¬ (progC p = true ∧ stateB p s = true) → ∀ X, endK F (M1.upd r4 X) (ofR p s F M) (.tuple #[noEnv.val, .int .i64 1]) := fun h X =>
    endK_same ⟨rfl, kp4.new n4, old4.upd hF4, noEnv, 1, rfl, noEnv_rd, .inr ⟨h, rfl, rfl⟩⟩
  simp only [go_sem, reduceIte, Nat.reduceEqDiff, b2]
  with_reducible refine callK_same (k27 F M1 p hp old4) ?_
  cases hc : progC p
  · simp only [setH, go_sem, reduceIte, Nat.reduceEqDiff, Nat.reduceAdd, f4, noEnv_val]
    exact bad (fun h => by rw [hc] at h; cases h.1) _
  simp only [go_sem, reduceIte, Nat.reduceEqDiff, b2, b3]
  with_reducible refine callK_same (k28 F M1 p s hp old4 hs1) ?_
  cases hb : stateB p s
  · simp only [setH, go_sem, reduceCtorEq, reduceIte, Nat.reduceEqDiff, Nat.reduceAdd, f4, noEnv_val]
    exact bad (fun h => by rw [hb] at h; cases h.2) _
  have hfm : FitM p s.blocks := FitM.of (by unfold stateB at hb; simp only [Bool.and_eq_true] at hb; exact hb.2)
  simp only [go_sem, reduceCtorEq, reduceIte, Nat.reduceEqDiff, b2, b3]
  with_reducible refine callK_of (k29 F M1 p s hp old4 hs1 hc hfm) ?_
  rintro u F' M2 ⟨hG, kp2, old2, e, rfl, hpe, own⟩
  subst hG
  refine ⟨(fun h => by cases h), ?_⟩
  have g4 := kp2 _ _ f4
  simp only [setH, go_sem, reduceIte, Nat.reduceEqDiff, Nat.reduceAdd, g4]
  have fr : ∀ r x, M2 r = some x → ¬ x.elem = 38 → (M2.upd r4 ⟨e.cs, 38, 3⟩) r = some x := fun r x hx hne => by
    have : ¬ r = r4 := by rintro rfl; rw [g4] at hx; cases hx; exact hne rfl
    rw [Hp.upd_ne' this]; exact hx
  have own2 := own.frame fr (by decide) (by decide) (by decide)
  exact endK_same ⟨rfl, (kp4.trans kp2).new n4, old2.upd hF4, e, 0, rfl, own2.rd, .inl ⟨hc, hb, rfl, hpe⟩⟩
end Go.Proofs.Tryz.K
namespace Go.Ax
open Go
set_option linter.unusedVariables false
set_option linter.unusedSimpArgs false
def soleB (c : Pc) : Bool := if c.k = 0 then true else if c.k = 11 then c.v.is1 && (onlyB 7 V.zero c.l).2 else (onlyB c.k c.v c.l).2
def coverB (ptr : Int) (b k : Nat) (c : Pc) : Bool := decide (c.b = b) && (decide (c.p ≤ k) && (decide ((k : Int) < c.p + spanK ptr c.k) && soleB c))
def byteOne (ptr : Int) (l : List Pc) (b k : Nat) : Bool := l.any (coverB ptr b k)
def blockOne (ptr : Int) (l : List Pc) (m : List Bl) (b : Nat) : Bool := (List.range (blAt m b).l.length).all (byteOne ptr l b)
def exactB (p : Pg) (e : Pe) (m : List Bl) : Bool := inEnv p e m && (List.range m.length).all fun b => decide (b = 0) || blockOne p.ptr e.cells m b
theorem content_pre {c : Pc} (h : contentB c = true) : c.l.length ≤ 7 ∧ (¬ c.k = 0 → ¬ c.k = 7 → c.v.ok = true) ∧ ∀ x ∈ c.l, 0 ≤ x.v.w ∧ x.v.w ≤ 62 ∧ x.v.ok = true := by
  unfold contentB at h
  split at h
  · rename_i h0
    simp only [Bool.and_eq_true, decide_eq_true_eq] at h
    have hl := List.eq_nil_of_length_eq_zero h.2
    rw [hl]
    exact ⟨by simp, fun h => absurd h0 h, fun x hx => by cases hx⟩
  split at h
  · rename_i h0 h11
    simp only [Bool.and_eq_true, decide_eq_true_eq] at h
    have ha : absB 7 V.zero c.l = true := by simp [absB, h.2]
    have hp := abs_pre ha
    exact ⟨hp.1, fun _ _ => h.1.1, fun x hx => ⟨(hp.2.2 x hx).1, (hp.2.2 x hx).2.1, (hp.2.2 x hx).2.2.1⟩⟩
  · rename_i h0 h11
    simp only [Bool.and_eq_true] at h
    have hp := abs_pre h.2
    exact ⟨hp.1, fun _ h7 => (hp.2.1 h7).1, fun x hx => ⟨(hp.2.2 x hx).1, (hp.2.2 x hx).2.1, (hp.2.2 x hx).2.2.1⟩⟩
end Go.Ax
namespace Go.Proofs.Tryz.K
open Go Go.Ax Go.Proofs.Tryz.S
set_option maxRecDepth 100000
set_option linter.unusedSimpArgs false
set_option linter.unusedVariables false
set_option maxHeartbeats 4000000
variable (F : Fz) (M : Hp)
theorem k37 (c : Cl) (h : c.rd F M) (hc : contentB c.pc = true) : CallsA Tryz.prog 37 [c.val] F M (Same F M (.bool (soleB c.pc))) := by
  refine callsA_of hm Tryz.func37 e37 (Nat.le_of_ble_eq_true rfl) ?_
  obtain ⟨hl, hok, hb⟩ := content_pre hc
  have hl : c.l.length ≤ 1000000 := Nat.le_trans hl (by decide)
  have hok : ¬ c.k = 0 → ¬ c.k = 7 → c.v.ok = true := hok
  have hb : ∀ x ∈ c.l, 0 ≤ x.v.w ∧ x.v.w ≤ 62 ∧ x.v.ok = true := hb
  simp only [c37, go_sem]
  intro r1 hF1 hM1
  have h1 : c.rd F (M.upd r1 ⟨c.cs, 87, 10⟩) := RdG.new h hF1 hM1
  have f1 : (M.upd r1 ⟨c.cs, 87, 10⟩) r1 = some ⟨c.cs, 87, 10⟩ := Hp.upd_same _ _ _
  have kp1 : Keep M (M.upd r1 ⟨c.cs, 87, 10⟩) := (by repeat' first | exact Keep.refl _ | (refine Keep.new ?_ (by simp only [*])))
  generalize M.upd r1 ⟨c.cs, 87, 10⟩ = M1 at *
  have h1 : RdG 7 Ba.cs F M1 (.slice c.lA c.l.length c.lC) c.l := h1
  have b1 := blk_M (F := F) f1
  have fin : ∀ v : Bool, soleB c.pc = v → ∀ M3, Keep M1 M3 → endK F M3 (Same F M (.bool (soleB c.pc))) (.bool v) := fun v e M3 k => endK_keep (kp1.trans k) ⟨by rw [e], rfl, rfl⟩
  by_cases h0 : c.k = 0
  · have hv : soleB c.pc = true := by unfold soleB; rw [if_pos (show c.pc.k = 0 from h0)]
    simp only [go_sem, reduceIte, Nat.reduceEqDiff, b1, h0]
    exact fin _ hv _ (Keep.refl _)
  by_cases h11 : c.k = 11
  · have hv : soleB c.pc = (c.v.is1 && (onlyB 7 V.zero c.l).2) := by unfold soleB; rw [if_neg (show ¬ c.pc.k = 0 from h0), if_pos (show c.pc.k = 11 from h11)]; rfl
    have hok : c.v.ok = true := hok h0 (by omega)
    simp only [go_sem, reduceIte, Nat.reduceEqDiff, Nat.reduceAdd, Nat.reduceLeDiff, Int.reduceEq, b1, h11]
    with_reducible refine callK_same (k78 F M1 c.v hok) ?_
    simp only [onlyA, go_sem, reduceIte, Nat.reduceEqDiff, Nat.reduceAdd, b1]
    with_reducible refine callK_same (k79 F M1 7 V.zero (.slice c.lA c.l.length c.lC) c.l h1 hl (fun h => absurd rfl h) hb) ?_
    simp only [go_sem, Nat.reduceEqDiff, Nat.reduceAdd]
    intro r5 hF5 hM5
    have kp5 : ∀ e, Keep M1 (M1.upd r5 e) := fun e => (Keep.refl M1).new hM5
    have his : c.v.is1 = (decide (0 ≤ c.v.nextR 0) && decide (c.v.nextR (c.v.nextR 0 + 1) < 0)) := rfl
    rw [his] at hv
    generalize (decide (0 ≤ c.v.nextR 0) && decide (c.v.nextR (c.v.nextR 0 + 1) < 0)) = v1 at *
    cases v1
    · simp only [setH, Hp.upd_upd, go_sem, reduceCtorEq, reduceIte, Nat.reduceEqDiff, Nat.reduceAdd]
      exact fin _ (by rw [hv]; rfl) _ (kp5 _)
    · simp only [setH, Hp.upd_upd, go_sem, reduceIte, Nat.reduceEqDiff, Nat.reduceAdd]
      exact fin _ (by rw [hv]; rfl) _ (kp5 _)
  have hv : soleB c.pc = (onlyB c.k c.v c.l).2 := by unfold soleB; rw [if_neg (show ¬ c.pc.k = 0 from h0), if_neg (show ¬ c.pc.k = 11 from h11)]; rfl
  simp only [go_sem, reduceIte, Nat.reduceEqDiff, Nat.reduceAdd, b1, h0, h11]
  with_reducible refine callK_same (k79 F M1 c.k c.v (.slice c.lA c.l.length c.lC) c.l h1 hl (hok h0) hb) ?_
  simp only [go_sem, Nat.reduceEqDiff, Nat.reduceAdd]
  intro r7 hF7 hM7
  simp only [setH, Hp.upd_upd, go_sem, Nat.reduceEqDiff, Nat.reduceAdd]
  exact fin _ hv _ (by repeat' first | exact Keep.refl _ | (refine Keep.new ?_ (by simp only [*])))
def exI (p : Pg) (e : En) (m : List Bl) (F0 : Fz) (M0 : Hp) (i : Nat) (σ : Env) (F : Fz) (M : Hp) : Prop :=
  F0 = F ∧ Keep M0 M ∧ Old F0 M ∧ Ax.look σ 7 = some (.int .i64 ((i + 1 : Nat) : Int)) ∧ ((List.range (i + 1)).all fun b => decide (b = 0) || blockOne p.ptr e.pe.cells m b) = true
def exB (p : Pg) (e : En) (b : Nat) (F0 : Fz) (M0 : Hp) (k : Nat) (σ : Env) (F : Fz) (M : Hp) : Prop :=
  F0 = F ∧ Keep M0 M ∧ Old F0 M ∧ Ax.look σ 8 = some (.int .i64 k) ∧ (List.range k).all (byteOne p.ptr e.pe.cells b) = true
def exC (p : Pg) (e : En) (b k : Nat) (F0 : Fz) (M0 : Hp) (i : Nat) (σ : Env) (F : Fz) (M : Hp) : Prop :=
  F0 = F ∧ Keep M0 M ∧ Old F0 M ∧ Ax.look σ 10 = some (.int .i64 i) ∧ Ax.look σ 9 = some (.bool ((e.pe.cells.take i).any (coverB p.ptr b k)))
theorem k11 (p : Pg) (e : En) (s : Ste) (hp : p.rd F) (hold : Old F M) (h : e.rd F M) (hs : s.rd F M) (hc : progC p = true) (hfm : FitM p s.blocks) (hfc : (∀ c ∈ e.cells, FitC p s.blocks c.pc) ∧ e.news.length = p.news.length) :
    CallsA Tryz.prog 11 [p.val, e.val, s.val] F M (Same F M (.bool (exactB p e.pe s.blocks))) := by
  refine callsA_of hm Tryz.func11 e11 (Nat.le_of_ble_eq_true rfl) ?_
  have hpre := progC_pre hc
  have hlen := hfm.len
  have hel := h.cells.1
  simp only [c11, go_sem, Nat.reduceAdd]
  intro r3 hF3 hM3
  simp only [go_sem, reduceCtorEq, Nat.reduceEqDiff]
  intro r4 hF4 hM4
  simp only [upd_none2] at hM4
  simp only [go_sem, reduceCtorEq, Nat.reduceEqDiff]
  intro r5 hF5 hM5
  simp only [upd_none2] at hM5
  have kp5 : Keep M (((M.upd r3 ⟨p.cs, 28, 7⟩).upd r4 ⟨e.cs, 38, 3⟩).upd r5 ⟨s.cs, 46, 5⟩) := (by repeat' first | exact Keep.refl _ | (refine Keep.new ?_ (by simp only [*])))
  have old5 : Old F (((M.upd r3 ⟨p.cs, 28, 7⟩).upd r4 ⟨e.cs, 38, 3⟩).upd r5 ⟨s.cs, 46, 5⟩) := (by repeat' first | assumption | (refine Old.upd ?_ (by assumption)))
  have f3 : (((M.upd r3 ⟨p.cs, 28, 7⟩).upd r4 ⟨e.cs, 38, 3⟩).upd r5 ⟨s.cs, 46, 5⟩) r3 = some ⟨p.cs, 28, 7⟩ := by rw [Hp.upd_ne' (by simp [hM5]), Hp.upd_ne' (by simp [hM4])]; exact Hp.upd_same _ _ _
  have f4 : (((M.upd r3 ⟨p.cs, 28, 7⟩).upd r4 ⟨e.cs, 38, 3⟩).upd r5 ⟨s.cs, 46, 5⟩) r4 = some ⟨e.cs, 38, 3⟩ := by rw [Hp.upd_ne' (by simp [hM5])]; exact Hp.upd_same _ _ _
  have f5 : (((M.upd r3 ⟨p.cs, 28, 7⟩).upd r4 ⟨e.cs, 38, 3⟩).upd r5 ⟨s.cs, 46, 5⟩) r5 = some ⟨s.cs, 46, 5⟩ := Hp.upd_same _ _ _
  generalize (((M.upd r3 ⟨p.cs, 28, 7⟩).upd r4 ⟨e.cs, 38, 3⟩).upd r5 ⟨s.cs, 46, 5⟩) = M1 at *
  have h1 := h.keep kp5 old5
  have hs1 := hs.keep kp5 old5
  have b3 := blk_M (F := F) f3
  have b4 := blk_M (F := F) f4
  have b5 := blk_M (F := F) f5
  clear hM3 hM4 hM5 hF3 hF4 hF5 h hs
  have fin : ∀ v : Bool, exactB p e.pe s.blocks = v → ∀ M', Keep M1 M' → endK F M' (Same F M (.bool (exactB p e.pe s.blocks))) (.bool v) := fun v h M' k => endK_keep (kp5.trans k) ⟨by rw [h], rfl, rfl⟩
  simp only [go_sem, reduceIte, Nat.reduceEqDiff, b3, b4, b5]
  with_reducible refine callK_same (k17 F M1 p e s hp old5 h1 hs1 hc hfm (fun _ => hfc)) ?_
  have hR : exactB p e.pe s.blocks = (inEnv p e.pe s.blocks && (List.range s.blocks.length).all fun b => decide (b = 0) || blockOne p.ptr e.pe.cells s.blocks b) := rfl
  generalize exactB p e.pe s.blocks = R at *
  cases hin : inEnv p e.pe s.blocks
  · simp only [go_sem]
    exact fin _ (by rw [hR, hin]; rfl) _ (Keep.refl _)
  rw [hin, Bool.true_and] at hR
  simp only [go_sem]
  refine loop_up (s.blocks.length - 1) (exI p e s.blocks F M1) ⟨rfl, Keep.refl _, old5, (by simp only [go_sem, *] <;> rfl), by simp⟩ ?_
  rintro i σ F' M2 hi hst ⟨rfl, kp, old, q7, he⟩
  have q3 := hst 3 rfl
  have q4 := hst 4 rfl
  have q5 := hst 5 rfl
  simp only [go_sem, Nat.reduceEqDiff] at q3 q4 q5
  clear hst
  have b3' := blk_M (F := F) (kp _ _ f3)
  have b4' := blk_M (F := F) (kp _ _ f4)
  have b5' := blk_M (F := F) (kp _ _ f5)
  have h2 := h1.keep kp old
  have hs2 := hs1.keep kp old
  by_cases hil : ((i + 1 : Nat) : Int) < s.blocks.length
  rotate_left
  · have : i + 1 = s.blocks.length := by omega
    rw [this] at he
    simp only [go_sem, reduceIte, Nat.reduceEqDiff, q5, q7, b5', hil]
    exact fin _ (by rw [hR, he]) _ kp
  have hi0 : (0 : Int) ≤ ((i + 1 : Nat) : Int) := by omega
  have hi1 : i + 1 < s.blocks.length := by omega
  have ei : IntKind.i64.wrap (((i + 1 : Nat) : Int) + 1) = ((i + 1 + 1 : Nat) : Int) := by rw [w64 (by omega) (by omega)]; omega
  have hno : blockOne p.ptr e.pe.cells s.blocks (i + 1) = false → R = false := fun h => by
    rw [hR]; exact range_no hi1 (by rw [h]; simp)
  have hbO : blockOne p.ptr e.pe.cells s.blocks (i + 1) = (List.range (s.blocks[i + 1]).l.length).all (byteOne p.ptr e.pe.cells (i + 1)) := by
    unfold blockOne; rw [blAt_get hi1]
  have hx32 := (hfm.bytes _ hi1).2.2.2
  have hxd := hfm.dead _ hi1
  have hat := blAt_get (m := s.blocks) hi1
  generalize hxe : s.blocks[i + 1] = x at *
  have hbr : ∀ M', Keep M1 M' → Old F M' → ∃ b o cs, s.blocksA = some ⟨b, o, none⟩ ∧ blk F M' b = some cs ∧ o + (i + 1) * 2 + 2 ≤ cs.length ∧ cs[o + (i + 1) * 2 + 1]? = some (.slice x.lA x.l.length x.lC) := fun M' k o => by
    obtain ⟨b, o, cs, ea, hb, rows⟩ := (hs1.keep k o).blocks.rows (by omega)
    obtain ⟨d1, d2⟩ := rows _ hi1
    rw [hxe] at d2
    exact ⟨b, o, cs, ea, hb, d1, (Go.Ax.Bl.row d2).2⟩
  simp only [go_sem, reduceIte, Nat.reduceEqDiff, q5, q7, b5', hil]
  refine inBlock_st (fun σ F' M' => F = F' ∧ Keep M1 M' ∧ Old F M' ∧ blockOne p.ptr e.pe.cells s.blocks (i + 1) = true) ?_ ?_
  · refine loop_up x.l.length (exB p e (i + 1) F M1) ⟨rfl, kp, old, (by simp only [go_sem, *] <;> rfl), rfl⟩ ?_
    clear b3' b4' b5'
    rintro k σ2 F' M3 hk hst ⟨rfl, kp3, old3, q8, hb⟩
    have t3 := hst 3 rfl
    have t4 := hst 4 rfl
    have t5 := hst 5 rfl
    have t7 := hst 7 rfl
    simp only [go_sem, Nat.reduceEqDiff, q3, q4, q5, q7] at t3 t4 t5 t7
    clear hst
    have b3 := blk_M (F := F) (kp3 _ _ f3)
    have b4 := blk_M (F := F) (kp3 _ _ f4)
    have b5 := blk_M (F := F) (kp3 _ _ f5)
    obtain ⟨bb, bo, bcs, ea, hbb, d1, d2⟩ := hbr M3 kp3 old3
    by_cases hkl : (k : Int) < x.l.length
    rotate_left
    · have : k = x.l.length := by omega
      rw [this] at hb
      simp only [go_sem, reduceIte, Nat.reduceEqDiff, t5, t7, q8, b5, hi0, hil, ea, Int.toNat_natCast, hbb, d2, hkl]
      exact At.mk ⟨rfl, kp3, old3, by rw [hbO, hb]⟩
    have hk0 : (0 : Int) ≤ k := by omega
    have hk1 : k < x.l.length := by omega
    have ek : IntKind.i64.wrap ((k : Int) + 1) = ((k + 1 : Nat) : Int) := by rw [w64 (by omega) (by omega)]; omega
    simp only [go_sem, reduceIte, Nat.reduceEqDiff, t5, t7, q8, b5, hi0, hil, ea, Int.toNat_natCast, hbb, d2, hkl]
    refine inBlock_st (fun σ F' M' => F = F' ∧ Keep M1 M' ∧ Old F M' ∧ Ax.look σ 9 = some (.bool (byteOne p.ptr e.pe.cells (i + 1) k))) ?_ ?_
    · refine loop_up e.cells.length (exC p e (i + 1) k F M1) ⟨rfl, kp3, old3, (by simp only [go_sem, *] <;> rfl), by simp only [go_sem, Nat.reduceEqDiff, List.take_zero, List.any_nil]⟩ ?_
      clear b3 b4 b5 d1 d2 ea hbb
      rintro j σ3 F' M4 hj hst ⟨rfl, kp4, old4, q10, q9⟩
      have u3 := hst 3 rfl
      have u4 := hst 4 rfl
      have u7 := hst 7 rfl
      have u8 := hst 8 rfl
      simp only [go_sem, Nat.reduceEqDiff, t3, t4, t7, q8] at u3 u4 u7 u8
      clear hst
      have b3 := blk_M (F := F) (kp4 _ _ f3)
      have b4 := blk_M (F := F) (kp4 _ _ f4)
      have hpl : e.pe.cells.length = e.cells.length := by simp [En.pe]
      by_cases hjl : (j : Int) < e.cells.length
      rotate_left
      · have : j = e.cells.length := by omega
        rw [List.take_of_length_le (by omega)] at q9
        simp only [go_sem, reduceCtorEq, reduceIte, Nat.reduceEqDiff, u4, q10, b4, hjl]
        exact At.mk ⟨rfl, kp4, old4, q9⟩
      cases hfd : (e.pe.cells.take j).any (coverB p.ptr (i + 1) k)
      rotate_left
      · rw [hfd] at q9
        have hall : byteOne p.ptr e.pe.cells (i + 1) k = true := by
          unfold byteOne
          rw [List.any_eq_true] at hfd ⊢
          obtain ⟨c, hc1, hc2⟩ := hfd
          exact ⟨c, List.mem_of_mem_take hc1, hc2⟩
        simp only [go_sem, reduceIte, Nat.reduceEqDiff, u4, q9, q10, b4, hjl]
        exact At.mk ⟨rfl, kp4, old4, by rw [hall]; exact q9⟩
      rw [hfd] at q9
      have hj0 : (0 : Int) ≤ j := by omega
      have hj1 : j < e.cells.length := by omega
      have ej : IntKind.i64.wrap ((j : Int) + 1) = j + 1 := w64 (by omega) (by omega)
      obtain ⟨cb, co, ccs, ca, hcb, rows⟩ := (h1.keep kp4 old4).cells.rows (by omega)
      obtain ⟨d1, d2⟩ := rows j hj1
      clear rows
      have hfi := hfc.1 _ (List.getElem_mem hj1)
      have hcr := (h1.keep kp4 old4).ptrs _ (List.getElem_mem hj1)
      have tk : (e.pe.cells.take (j + 1)).any (coverB p.ptr (i + 1) k) = coverB p.ptr (i + 1) k (e.cells[j]).pc := by
        rw [List.take_succ_eq_append_getElem (by omega), List.any_append, hfd]
        simp [En.pe]
      generalize e.cells[j] = c at *
      simp only [go_sem, reduceIte, Nat.reduceEqDiff, Nat.reduceAdd, u4, q9, q10, b4, hjl, hj0, ca, Int.toNat_natCast, hcb, d1, d2]
      intro r11 hF11 hM11
      have kp11 : Keep M4 (M4.upd r11 ⟨c.cs, 87, 10⟩) := (Keep.refl M4).new hM11
      have old11 : Old F (M4.upd r11 ⟨c.cs, 87, 10⟩) := old4.upd hF11
      have f11 : (M4.upd r11 ⟨c.cs, 87, 10⟩) r11 = some ⟨c.cs, 87, 10⟩ := Hp.upd_same _ _ _
      simp only [setH, Hp.upd_upd, go_sem, Nat.reduceEqDiff, Nat.reduceAdd]
      generalize M4.upd r11 ⟨c.cs, 87, 10⟩ = M5 at *
      have b11 := blk_M (F := F) f11
      have b35 := blk_M (F := F) (kp11 _ _ (kp4 _ _ f3))
      have hcr5 : c.rd F M5 := RdG.keep hcr kp11 old11
      have nx : ∀ v σ', coverB p.ptr (i + 1) k c.pc = v → Ax.look σ' 9 = some (.bool v) → Ax.look σ' 10 = some (.int .i64 ((j + 1 : Nat) : Int)) → Nxt (exC p e (i + 1) k F M1) e.cells.length j σ' F M5 := fun v σ' hv h9 h10 =>
        ⟨hj1, rfl, kp4.trans kp11, old11, h10, by rw [tk, hv]; exact h9⟩
      have hcv : coverB p.ptr (i + 1) k c.pc = (decide (c.b = ((i + 1 : Nat) : Int)) && (decide (c.p ≤ k) && (decide ((k : Int) < c.p + spanK p.ptr c.k) && soleB c.pc))) := rfl
      by_cases hcb1 : c.b = ((i + 1 : Nat) : Int)
      rotate_left
      · simp only [go_sem, reduceCtorEq, reduceIte, Nat.reduceEqDiff, u7, hcb1, q10, ej]
        exact nx false _ (by rw [hcv, decide_eq_false hcb1]; rfl) (by simp only [go_sem, Nat.reduceEqDiff, *] <;> rfl) (by simp only [go_sem, *] <;> rfl)
      by_cases hcp : c.p ≤ k
      rotate_left
      · simp only [go_sem, reduceCtorEq, reduceIte, Nat.reduceEqDiff, u7, u8, b11, hcb1, hcp, q10, ej]
        exact nx false _ (by rw [hcv, decide_eq_false hcp]; simp) (by simp only [go_sem, Nat.reduceEqDiff, *] <;> rfl) (by simp only [go_sem, *] <;> rfl)
      have hspan := spanK_in hpre.1 hfi.kind
      have hx1 : x.st = 1 := by
        rcases Decidable.em (x.st = 1) with h | h
        · exact h
        · rw [hxd h] at hk1; simp at hk1
      have hin : (blAt s.blocks c.b).st = 1 → 0 ≤ c.p ∧ c.p + spanK p.ptr c.k ≤ (blAt s.blocks c.b).l.length := hfi.inside
      rw [hcb1, hat] at hin
      obtain ⟨hp0, hp1⟩ := hin hx1
      have hspan : 1 ≤ spanK p.ptr c.k ∧ spanK p.ptr c.k ≤ 4 := hspan
      have es : IntKind.i64.wrap (c.p + spanK p.ptr c.k) = c.p + spanK p.ptr c.k := w64 (by omega) (by omega)
      simp only [go_sem, reduceIte, Nat.reduceEqDiff, u3, u7, u8, b11, b35, hcb1, hcp]
      with_reducible refine callK_same (k36 F M5 p c.k) ?_
      by_cases hks : (k : Int) < c.p + spanK p.ptr c.k
      rotate_left
      · simp only [go_sem, reduceCtorEq, reduceIte, Nat.reduceEqDiff, es, hks, q10, ej]
        exact nx false _ (by rw [hcv, decide_eq_false hks]; simp) (by simp only [go_sem, Nat.reduceEqDiff, *] <;> rfl) (by simp only [go_sem, *] <;> rfl)
      simp only [go_sem, reduceIte, Nat.reduceEqDiff, es, hks, b11]
      with_reducible refine callK_same (k37 F M5 c hcr5 hfi.content) ?_
      simp only [go_sem, reduceIte, Nat.reduceEqDiff, q10, ej]
      exact nx _ _ (by rw [hcv, decide_eq_true hcb1, decide_eq_true hcp, decide_eq_true hks]) (by simp only [go_sem, Nat.reduceEqDiff, *] <;> rfl) (by simp only [go_sem, *] <;> rfl)
    · rintro σ3 F' M4 hst ⟨rfl, kp4, old4, q9⟩
      have u8 := hst 8 rfl
      simp only [go_sem, Nat.reduceEqDiff, q8] at u8
      cases hbo : byteOne p.ptr e.pe.cells (i + 1) k
      · rw [hbo] at q9
        simp only [go_sem, q9]
        exact fin _ (hno (by rw [hbO]; exact range_no hk1 hbo)) _ kp4
      · rw [hbo] at q9
        simp only [go_sem, reduceIte, Nat.reduceEqDiff, q9, u8, ek]
        exact ⟨hk1, rfl, kp4, old4, (by simp only [go_sem, *] <;> rfl), by rw [all_range, hb, hbo]; rfl⟩
  · rintro σ2 F' M3 hst ⟨rfl, kp3, old3, hb⟩
    have t7 := hst 7 rfl
    simp only [go_sem, Nat.reduceEqDiff, q7] at t7
    simp only [go_sem, reduceIte, t7, ei]
    exact ⟨by omega, rfl, kp3, old3, (by simp only [go_sem, *] <;> rfl), by rw [all_range, he, hb]; simp⟩
end Go.Proofs.Tryz.K
namespace Go.Proofs.Tryz.K
open Go Go.Ax Go.Proofs.Tryz.S
set_option maxRecDepth 100000
set_option linter.unusedSimpArgs false
set_option linter.unusedVariables false
set_option maxHeartbeats 4000000
variable (F : Fz) (M : Hp)
theorem k81 (n : Nat) (hn : n ≤ 100000) : CallsA Tryz.prog 81 [.int .i64 n] F M (rowR 5 By.cs 83 (List.replicate n ⟨0, 0, 0, 0, 0⟩) F M) := by
  refine callsA_of hm Tryz.func81 e81 (Nat.le_of_ble_eq_true rfl) ?_
  simp only [c81, go_sem, reduceCtorEq]
  refine msK_of (Nat.le_refl _) (by simp only [maxLen]; omega) (by omega) ?_
  intro r4 hF4 hM4
  have hrep : (List.replicate n [Value.int .i64 0, .int .i64 0, .int .i64 0, .int .i64 0, .int .i64 0]).flatten = (List.replicate n (⟨0, 0, 0, 0, 0⟩ : By)).flatMap By.cs := flatG_rep (f := By.cs) ⟨0, 0, 0, 0, 0⟩ n
  rw [hrep]
  simp only [go_sem]
  refine endK_same ⟨rfl, .inr ⟨r4, n, hF4, hM4, by rw [List.length_replicate], ⟨by rw [List.length_replicate]; omega, by simp only [maxLen]; omega⟩, rfl⟩⟩
def smallP (a b c : Option Addr) : Pg := ⟨false, 4, a, 1, [1], none, 0, [], none, 0, [], b, 1, [⟨7, 0, 0, 0, 0, none, 0, [], none, 0, []⟩], c, 1, [0]⟩
theorem k40 (hold : Old F M) : CallsA Tryz.prog 40 [] F M (fun u F' M' => F' = F ∧ Keep M M' ∧ Old F M' ∧ ∃ a b c, u = (smallP a b c).val ∧ (smallP a b c).rdM F M') := by
  refine callsA_of hm Tryz.func40 e40 (Nat.le_of_ble_eq_true rfl) ?_
  simp only [c40, go_sem, Nat.reduceAdd]
  intro r0 hF0 hM0
  simp only [go_sem, reduceIte, Nat.reduceAdd]
  intro r2 hF2 hM2
  simp only [upd_none2] at hM2
  simp only [go_sem, reduceIte, Nat.reduceAdd, Nat.reduceLeDiff]
  intro r4 hF4 hM4
  simp only [upd_none2] at hM4
  simp only [go_sem, reduceIte]
  intro r5 hF5 hM5
  simp only [upd_none2] at hM5
  simp only [setH, go_sem, reduceCtorEq, reduceIte, Nat.reduceEqDiff, Nat.reduceAdd, Nat.reduceLeDiff, hM2, hM4, hM5]
  have n0 : M r0 = none := hM0
  have h20 : ¬ r2 = r0 := by simp [hM2]
  have h40 : ¬ r4 = r0 := by simp [hM4]
  have h50 : ¬ r5 = r0 := by simp [hM5]
  have h24 : ¬ r2 = r4 := by simp [hM4]
  have h25 : ¬ r2 = r5 := by simp [hM5]
  have h45 : ¬ r4 = r5 := by simp [hM5]
  refine endK_same ⟨rfl, ?_, ?_, some ⟨r2, 0, none⟩, some ⟨r4, 0, none⟩, some ⟨r5, 0, none⟩, rfl, ?_⟩
  · refine Keep.new ?_ n0
    exact (by repeat' first | exact Keep.refl _ | (refine Keep.new ?_ (by simp only [*])))
  · exact Old.upd (by repeat' first | assumption | (refine Old.upd ?_ (by assumption))) hF0
  · have b2 : ∀ X0 X2 X4 X5 X, blk F (((((M.upd r0 X0).upd r2 X2).upd r4 X4).upd r5 X5).upd r0 X) r2 = some X2.cells := fun X0 X2 X4 X5 X => blk_M (e := X2) (by rw [Hp.upd_ne' h20, Hp.upd_ne' h25, Hp.upd_ne' h24]; exact Hp.upd_same _ _ _)
    have b4 : ∀ X0 X2 X4 X5 X, blk F (((((M.upd r0 X0).upd r2 X2).upd r4 X4).upd r5 X5).upd r0 X) r4 = some X4.cells := fun X0 X2 X4 X5 X => blk_M (e := X4) (by rw [Hp.upd_ne' h40, Hp.upd_ne' h45]; exact Hp.upd_same _ _ _)
    have b5 : ∀ X0 X2 X4 X5 X, blk F (((((M.upd r0 X0).upd r2 X2).upd r4 X4).upd r5 X5).upd r0 X) r5 = some X5.cells := fun X0 X2 X4 X5 X => blk_M (e := X5) (by rw [Hp.upd_ne' h50]; exact Hp.upd_same _ _ _)
    exact ⟨rdG_flat intC_len (by show 1 ≤ _; decide) (by show 1 ≤ 1; decide) (b2 _ _ _ _ _), rdG_nil, rdG_nil, rdG_flat (f := Sm.cs) Sm.len (by show 1 ≤ _; decide) (by show 1 ≤ 1; decide) (b4 _ _ _ _ _), rdG_flat intC_len (by show 1 ≤ _; decide) (by show 1 ≤ 1; decide) (b5 _ _ _ _ _), fun s hs => by
      simp only [smallP, List.mem_singleton] at hs
      subst hs
      exact ⟨rdG_nil, rdG_nil⟩, ⟨(fun h => by cases h), (fun _ => rfl), fun s hs => by
      simp only [smallP, List.mem_singleton] at hs
      subst hs
      exact ⟨fun _ => rfl, fun _ => rfl⟩⟩, by
      refine ⟨by simp [smallP], by simp [smallP], by simp [smallP], by simp [smallP], by simp [smallP], fun s hs => ?_⟩
      simp only [smallP, List.mem_singleton] at hs
      subst hs
      exact ⟨by decide, by decide⟩⟩
end Go.Proofs.Tryz.K
namespace Go.Proofs.Tryz.K
open Go Go.Ax Go.Proofs.Tryz.S
set_option maxRecDepth 100000
set_option linter.unusedSimpArgs false
set_option linter.unusedVariables false
set_option maxHeartbeats 4000000
variable (F : Fz) (M : Hp)
structure BeB (p : Pg) (r1 r2 r3 : Nat) (F0 : Fz) (M0 : Hp) (wb wn : Value) (lb : List Bl) (M : Hp) : Prop where
  kp : Keep M0 M
  old : Old F0 M
  f1 : M r1 = some ⟨p.cs, 28, 7⟩
  f2 : M r2 = some ⟨[.slice none 0 0, .slice none 0 0, .int .i64 0, .int .i64 0, .int .i64 0], 46, 5⟩
  f3 : M r3 = some ⟨[wb, wn, .int .i64 0, .int .i64 0, .int .i64 0], 46, 5⟩
  own : MineG 2 Bl.cs 54 F0 M0 M wb lb
  owns : ∀ x ∈ lb, OwnG 5 By.cs 83 F0 M (.slice x.lA x.l.length x.lC) x.l
  nums : OwnG 1 intC 3 F0 M wn p.main
section
variable {p : Pg} {r1 r2 r3 : Nat} {F0 : Fz} {M0 M1 M2 : Hp} {wb wn : Value} {lb : List Bl}
theorem BeB.keep (h : BeB p r1 r2 r3 F0 M0 wb wn lb M1) (k : Keep M1 M2) (o : Old F0 M2) : BeB p r1 r2 r3 F0 M0 wb wn lb M2 :=
  ⟨h.kp.trans k, o, k _ _ h.f1, k _ _ h.f2, k _ _ h.f3, h.own.keep k, fun x hx => (h.owns x hx).keep k, h.nums.keep k⟩
theorem BeB.block (h : BeB p r1 r2 r3 F0 M0 wb wn lb M1) (hF3 : F0 r3 = none) (h3 : M0 r3 = none) (h13 : ¬ r1 = r3) (h23 : ¬ r2 = r3) {w : Value} {c : Bl} (hc : OwnG 5 By.cs 83 F0 M1 (.slice c.lA c.l.length c.lC) c.l)
    (fr : ∀ r x, M1 r = some x → ¬ x.elem = 54 → M2 r = some x) (kp : Keep M0 M2) (o : Old F0 M2) (mine : MineG 2 Bl.cs 54 F0 M0 M2 w (lb ++ [c])) :
    BeB p r1 r2 r3 F0 M0 w wn (lb ++ [c]) (M2.upd r3 ⟨[w, wn, .int .i64 0, .int .i64 0, .int .i64 0], 46, 5⟩) := by
  have g3 := fr _ _ h.f3 (by decide : ¬ (46 : Nat) = 54)
  have fr3 : ∀ r x, M2 r = some x → ¬ x.elem = 46 → (M2.upd r3 ⟨[w, wn, .int .i64 0, .int .i64 0, .int .i64 0], 46, 5⟩) r = some x := fun r x hx hne => by
    have : ¬ r = r3 := by rintro rfl; rw [g3] at hx; cases hx; exact hne rfl
    rw [Hp.upd_ne' this]; exact hx
  refine ⟨kp.new h3, o.upd hF3, ?_, ?_, Hp.upd_same _ _ _, ⟨mine.own.frame fr3 (by decide), mine.new⟩, fun x hx => ?_, (h.nums.frame fr (by decide)).frame fr3 (by decide)⟩
  · rw [Hp.upd_ne' h13]; exact fr _ _ h.f1 (by decide : ¬ (28 : Nat) = 54)
  · rw [Hp.upd_ne' h23]; exact fr _ _ h.f2 (by decide : ¬ (46 : Nat) = 54)
  · rcases List.mem_append.1 hx with hx | hx
    · exact ((h.owns x hx).frame fr (by decide)).frame fr3 (by decide)
    · rw [List.mem_singleton.1 hx]; exact (hc.frame fr (by decide)).frame fr3 (by decide)
end
def bkP (b : Bl) : Int × List By := (b.st, b.l)
def varP (n : Int) : Int × List By := (1, List.replicate n.toNat ⟨0, 0, 0, 0, 0⟩)
def beI (p : Pg) (r1 r2 r3 : Nat) (wn : Value) (F0 : Fz) (M0 : Hp) (i : Nat) (σ : Env) (F : Fz) (M : Hp) : Prop :=
  F0 = F ∧ Ax.look σ 4 = some (.int .i64 i) ∧ ∃ wb, ∃ lb : List Bl, BeB p r1 r2 r3 F0 M0 wb wn lb M ∧ lb.map bkP = (0, []) :: (p.vars.take i).map varP
def beN (p : Pg) (r1 r2 r3 : Nat) (wn : Value) (F0 : Fz) (M0 : Hp) (i : Nat) (σ : Env) (F : Fz) (M : Hp) : Prop :=
  F0 = F ∧ Ax.look σ 5 = some (.int .i64 i) ∧ ∃ wb, ∃ lb : List Bl, BeB p r1 r2 r3 F0 M0 wb wn lb M ∧ lb.map bkP = (0, []) :: p.vars.map varP ++ (p.news.take i).map fun _ => (0, [])
def beginR (p : Pg) (F : Fz) (M : Hp) (u : Value) (F' : Fz) (M' : Hp) : Prop := F' = F ∧ Keep M M' ∧ Old F M' ∧ ∃ s : Ste, u = s.val ∧ s.blocks.map bkP = (0, []) :: p.vars.map varP ++ p.news.map (fun _ => (0, [])) ∧ s.next = p.main ∧ s.inp = 0 ∧ s.p = 0 ∧ s.w = 0 ∧ s.rd F M'
theorem k41 (p : Pg) (hp : p.rd F) (hold : Old F M) (hv : ∀ n ∈ p.vars, 0 ≤ n ∧ n ≤ 32) : CallsA Tryz.prog 41 [p.val] F M (beginR p F M) := by
  refine callsA_of hm Tryz.func41 e41 (Nat.le_of_ble_eq_true rfl) ?_
  obtain ⟨w1, w2, _, _, w5, _⟩ := hp.few
  simp only [c41, go_sem]
  intro r1 hF1 hM1
  simp only [go_sem, Nat.reduceAdd]
  intro r2 hF2 hM2
  simp only [upd_none2] at hM2
  simp only [go_sem, reduceIte, Nat.reduceAdd]
  intro rb hFb hMb
  simp only [upd_none2] at hMb
  simp only [go_sem, Nat.reduceEqDiff, hM2, hMb]
  have kpb : Keep M (((M.upd r1 ⟨p.cs, 28, 7⟩).upd r2 ⟨[.slice none 0 0, .slice none 0 0, .int .i64 0, .int .i64 0, .int .i64 0], 46, 5⟩).upd rb ⟨[.int .i64 0, .slice none 0 0], 54, 2⟩) := (by repeat' first | exact Keep.refl _ | (refine Keep.new ?_ (by simp only [*])))
  have oldb : Old F (((M.upd r1 ⟨p.cs, 28, 7⟩).upd r2 ⟨[.slice none 0 0, .slice none 0 0, .int .i64 0, .int .i64 0, .int .i64 0], 46, 5⟩).upd rb ⟨[.int .i64 0, .slice none 0 0], 54, 2⟩) := (by repeat' first | assumption | (refine Old.upd ?_ (by assumption)))
  have f1 : (((M.upd r1 ⟨p.cs, 28, 7⟩).upd r2 ⟨[.slice none 0 0, .slice none 0 0, .int .i64 0, .int .i64 0, .int .i64 0], 46, 5⟩).upd rb ⟨[.int .i64 0, .slice none 0 0], 54, 2⟩) r1 = some ⟨p.cs, 28, 7⟩ := by rw [Hp.upd_ne' (by simp [hMb]), Hp.upd_ne' (by simp [hM2])]; exact Hp.upd_same _ _ _
  have f2 : (((M.upd r1 ⟨p.cs, 28, 7⟩).upd r2 ⟨[.slice none 0 0, .slice none 0 0, .int .i64 0, .int .i64 0, .int .i64 0], 46, 5⟩).upd rb ⟨[.int .i64 0, .slice none 0 0], 54, 2⟩) r2 = some ⟨[.slice none 0 0, .slice none 0 0, .int .i64 0, .int .i64 0, .int .i64 0], 46, 5⟩ := by rw [Hp.upd_ne' (by simp [hMb])]; exact Hp.upd_same _ _ _
  have n2 : M r2 = none := hM2.2
  have nb : M rb = none := hMb.2.2
  have mine0 : MineG 2 Bl.cs 54 F M (((M.upd r1 ⟨p.cs, 28, 7⟩).upd r2 ⟨[.slice none 0 0, .slice none 0 0, .int .i64 0, .int .i64 0, .int .i64 0], 46, 5⟩).upd rb ⟨[.int .i64 0, .slice none 0 0], 54, 2⟩) (.slice (some ⟨rb, 0, none⟩) 1 1) [⟨0, none, 0, []⟩] := MineG.one (x := (⟨0, none, 0, []⟩ : Bl)) hFb nb rfl
  generalize (((M.upd r1 ⟨p.cs, 28, 7⟩).upd r2 ⟨[.slice none 0 0, .slice none 0 0, .int .i64 0, .int .i64 0, .int .i64 0], 46, 5⟩).upd rb ⟨[.int .i64 0, .slice none 0 0], 54, 2⟩) = M1 at *
  have b1 := blk_M (F := F) f1
  clear hM1 hM2 hMb hF1
  with_reducible refine callK_of (k43 F M1 _ _ p.main (hp.main M1 oldb) oldb (by omega)) ?_
  rintro u F' M2 hr
  have ownN := hr.own
  obtain ⟨hG, le, kq, oq, a, c, rfl, rdq⟩ := hr.le (f := intC) intC_len (by omega)
  subst hG
  refine ⟨(fun h => by cases h), ?_⟩
  have old2 := oq oldb
  clear hr le rdq oq
  simp only [go_sem, reduceIte, Nat.reduceEqDiff, Nat.reduceAdd, Nat.reduceLeDiff]
  intro r3 hF3 hM3
  simp only [setH, Hp.upd_upd, go_sem, Nat.reduceEqDiff, Nat.reduceAdd]
  have n3 : M r3 = none := (kpb.trans kq).free hM3
  have h13 : ¬ r1 = r3 := (ne_of_none hM3 (kq _ _ f1)).1
  have h23 : ¬ r2 = r3 := (ne_of_none hM3 (kq _ _ f2)).1
  have h32 : ¬ r3 = r2 := fun h => h23 h.symm
  have kp3 : ∀ e, Keep M2 (M2.upd r3 e) := fun e => (Keep.refl M2).new hM3
  have st : BeB p r1 r2 r3 F' M (.slice (some ⟨rb, 0, none⟩) 1 1) (.slice a p.main.length c) [⟨0, none, 0, []⟩] (M2.upd r3 ⟨[.slice (some ⟨rb, 0, none⟩) 1 1, .slice a p.main.length c, .int .i64 0, .int .i64 0, .int .i64 0], 46, 5⟩) :=
    ⟨(kpb.trans kq).new n3, old2.upd hF3, kp3 _ _ _ (kq _ _ f1), kp3 _ _ _ (kq _ _ f2), Hp.upd_same _ _ _, (mine0.keep kq).keep (kp3 _), fun x hx => by rw [List.mem_singleton.1 hx]; exact .inl ⟨rfl, rfl⟩, ownN.keep (kp3 _)⟩
  clear mine0 f1 f2 kp3 ownN hM3 kq b1
  generalize M2.upd r3 ⟨[.slice (some ⟨rb, 0, none⟩) 1 1, .slice a p.main.length c, .int .i64 0, .int .i64 0, .int .i64 0], 46, 5⟩ = M3 at *
  clear kpb oldb old2
  refine inBlock_st (fun σ F2 M' => F' = F2 ∧ ∃ wb, ∃ lb : List Bl, BeB p r1 r2 r3 F' M wb (.slice a p.main.length c) lb M' ∧ lb.map bkP = (0, []) :: p.vars.map varP) ?_ ?_
  · refine loop_up p.vars.length (beI p r1 r2 r3 (.slice a p.main.length c) F' M) ⟨rfl, (by simp only [go_sem, *] <;> rfl), _, _, st, rfl⟩ ?_
    clear st
    rintro i σ F2 M2 hi hst ⟨rfl, q4, wb, lb, st, hlb⟩
    have q1 := hst 1 rfl
    have q3 := hst 3 rfl
    simp only [go_sem, Nat.reduceEqDiff] at q1 q3
    clear hst
    have b1 := blk_M (F := F') st.f1
    have b3 := blk_M (F := F') st.f3
    by_cases hil : (i : Int) < p.vars.length
    rotate_left
    · rw [List.take_of_length_le (by omega)] at hlb
      simp only [go_sem, reduceIte, Nat.reduceEqDiff, q1, q4, b1, hil]
      exact At.mk ⟨rfl, wb, lb, st, hlb⟩
    have hi0 : (0 : Int) ≤ i := by omega
    have hi1 : i < p.vars.length := by omega
    have ei : IntKind.i64.wrap ((i : Int) + 1) = i + 1 := w64 (by omega) (by omega)
    obtain ⟨b, o, cs, ea, hb, d1⟩ := Ax.int_at (hp.vars M2 st.old) hi1
    have t1 := List.take_succ_eq_append_getElem hi1
    have hvx := hv _ (List.getElem_mem hi1)
    have hll : lb.length = i + 1 := by have := congrArg List.length hlb; simp at this; omega
    generalize p.vars[i] = x at *
    obtain ⟨n, hn⟩ := Int.eq_ofNat_of_zero_le hvx.1
    have hvn : varP x = (1, List.replicate n ⟨0, 0, 0, 0, 0⟩) := by unfold varP; rw [hn]; rfl
    rw [hn] at d1
    simp only [go_sem, reduceIte, Nat.reduceEqDiff, q1, q3, q4, b1, b3, hil, hi0, ea, Int.toNat_natCast, hb, d1]
    with_reducible refine callK_of (k81 F' M2 n (by omega)) ?_
    rintro u F2 M4 hr
    have ownB := hr.own
    obtain ⟨hG, le, kq, oq, a4, c4, rfl, rdq⟩ := hr.le (f := By.cs) By.len (by rw [List.length_replicate]; omega)
    subst hG
    refine ⟨fun _ => le, ?_⟩
    have st4 := st.keep kq (oq st.old)
    obtain ⟨nb', hnb⟩ : ∃ nb' : Bl, nb' = ⟨1, a4, c4, List.replicate n ⟨0, 0, 0, 0, 0⟩⟩ := ⟨_, rfl⟩
    have own' : OwnG 5 By.cs 83 F2 M4 (.slice nb'.lA nb'.l.length nb'.lC) nb'.l := by rw [hnb]; exact ownB
    have hbk : bkP nb' = varP x := by rw [hvn, hnb]; rfl
    simp only [go_sem, reduceIte, Nat.reduceAdd, Nat.reduceLeDiff]
    intro rc hFc hMc
    have eC : [Value.int .i64 1, Value.slice a4 (List.replicate n (⟨0, 0, 0, 0, 0⟩ : By)).length c4] = Bl.cs nb' := by rw [hnb]; rfl
    rw [eC]
    clear eC hnb ownB rdq hr
    simp only [go_sem, Nat.reduceEqDiff]
    have kpc : Keep M4 (M4.upd rc ⟨nb'.cs, 54, 2⟩) := (Keep.refl M4).new hMc
    have stc := st4.keep kpc (st4.old.upd hFc)
    have f3' := stc.f3
    have b3' := blk_M (F := F2) stc.f3
    refine apMG_of (xs := lb) (ys := [nb']) Bl.len Bl.plain (by decide) stc.own stc.kp ⟨rfl, .inr ⟨⟨rc, 0, none⟩, 1, rfl, .inr ⟨rc, 0, _, rfl, blk_upd_same, by simp [Bl.take_all]⟩⟩⟩ (by simp) (by simp; omega) ?_
    rintro _ M5 ⟨g', c'', rfl⟩ fr kp5 o5 mine
    have stN := stc.block hF3 n3 h13 h23 (own'.keep kpc) fr kp5 (o5 stc.old) mine
    rw [show (lb ++ [nb']).length = lb.length + 1 by simp] at stN
    have g3 := fr _ _ stc.f3 (by decide : ¬ (46 : Nat) = 54)
    simp only [setH, go_sem, reduceIte, Nat.reduceEqDiff, Nat.reduceAdd, Nat.reduceLeDiff, q3, q4, g3, ei]
    exact ⟨hi1, rfl, (by simp only [go_sem, *] <;> rfl), _, lb ++ [nb'], stN, by rw [List.map_append, hlb, t1, List.map_append, List.map_singleton, List.map_singleton, hbk]; rfl⟩
  · clear st
    rintro σ F2 M2 hst ⟨rfl, wb, lb, st, hlb⟩
    have q1 := hst 1 rfl
    have q2 := hst 2 rfl
    have q3 := hst 3 rfl
    simp only [go_sem, Nat.reduceEqDiff] at q1 q2 q3
    clear hst
    simp only [go_sem]
    refine loop_up p.news.length (beN p r1 r2 r3 (.slice a p.main.length c) F' M) ⟨rfl, (by simp only [go_sem, *] <;> rfl), _, _, st, by rw [hlb]; simp⟩ ?_
    clear st hlb
    rintro i σ2 F2 M2 hi hst ⟨rfl, q5, wb, lb, st, hlb⟩
    have t1 := hst 1 rfl
    have t2 := hst 2 rfl
    have t3 := hst 3 rfl
    simp only [go_sem, Nat.reduceEqDiff, q1, q2, q3] at t1 t2 t3
    clear hst
    have b1 := blk_M (F := F') st.f1
    have b3 := blk_M (F := F') st.f3
    have f2 := st.f2
    have hll : lb.length = 1 + p.vars.length + i := by have := congrArg List.length hlb; simp at this; omega
    by_cases hil : (i : Int) < p.news.length
    rotate_left
    · rw [List.take_of_length_le (by omega)] at hlb
      obtain ⟨a', c', rfl⟩ := st.own.shape
      simp only [setH, go_sem, reduceIte, Nat.reduceEqDiff, Nat.reduceAdd, t1, t2, t3, q5, b1, b3, f2, hil]
      have fr2 : ∀ r x, M2 r = some x → ¬ x.elem = 46 → (M2.upd r2 ⟨[.slice a' lb.length c', .slice a p.main.length c, .int .i64 0, .int .i64 0, .int .i64 0], 46, 5⟩) r = some x := fun r x hx hne => by
        have : ¬ r = r2 := by rintro rfl; rw [f2] at hx; cases hx; exact hne rfl
        rw [Hp.upd_ne' this]; exact hx
      have o1 := st.own.own.frame fr2 (by decide)
      have o2 := fun x hx => (st.owns x hx).frame fr2 (by decide)
      have o3 := st.nums.frame fr2 (by decide)
      have hle : ∀ x ∈ lb, x.l.length ≤ 32 := fun x hx => by
        have hm : bkP x ∈ lb.map bkP := List.mem_map_of_mem hx
        rw [hlb] at hm
        rcases List.mem_append.1 hm with hm | hm
        · rcases List.mem_cons.1 hm with hm | hm
          · have : x.l = [] := congrArg Prod.snd hm
            rw [this]; simp
          · obtain ⟨n, hn, e⟩ := List.mem_map.1 hm
            have : x.l = List.replicate n.toNat ⟨0, 0, 0, 0, 0⟩ := (congrArg Prod.snd e).symm
            rw [this, List.length_replicate]
            have := hv n hn
            omega
        · obtain ⟨n, hn, e⟩ := List.mem_map.1 hm
          have : x.l = [] := (congrArg Prod.snd e).symm
          rw [this]; simp
      exact endK_same ⟨rfl, st.kp.new n2, st.old.upd hF2, ⟨a', c', lb, a, c, p.main, 0, 0, 0⟩, rfl, hlb, rfl, rfl, rfl, rfl,
        ⟨o1.rd Bl.len (by show lb.length ≤ _; omega), fun x hx => (o2 x hx).rd By.len (by have := hle x hx; omega), o3.rd intC_len (by show p.main.length ≤ _; omega), own_zero o1, own_zero o3, fun x hx => own_zero (o2 x hx)⟩⟩
    have hi0 : (0 : Int) ≤ i := by omega
    have hi1 : i < p.news.length := by omega
    have ei : IntKind.i64.wrap ((i : Int) + 1) = i + 1 := w64 (by omega) (by omega)
    have tk := List.take_succ_eq_append_getElem hi1
    simp only [go_sem, reduceIte, Nat.reduceEqDiff, Nat.reduceAdd, t1, t3, q5, b1, b3, hil]
    intro rc hFc hMc
    simp only [go_sem, Nat.reduceEqDiff]
    have kpc : Keep M2 (M2.upd rc ⟨Bl.cs ⟨0, none, 0, []⟩, 54, 2⟩) := (Keep.refl M2).new hMc
    have stc := st.keep kpc (st.old.upd hFc)
    refine apMG_of (xs := lb) (ys := [(⟨0, none, 0, []⟩ : Bl)]) Bl.len Bl.plain (by decide) stc.own stc.kp ⟨rfl, .inr ⟨⟨rc, 0, none⟩, 1, rfl, .inr ⟨rc, 0, _, rfl, blk_upd_same, by simp [Bl.cs]⟩⟩⟩ (by simp) (by simp; omega) ?_
    rintro _ M5 ⟨g', c'', rfl⟩ fr kp5 o5 mine
    have stN := stc.block hF3 n3 h13 h23 (.inl ⟨rfl, rfl⟩) fr kp5 (o5 stc.old) mine
    rw [show (lb ++ [(⟨0, none, 0, []⟩ : Bl)]).length = lb.length + 1 by simp] at stN
    have g3 := fr _ _ stc.f3 (by decide : ¬ (46 : Nat) = 54)
    simp only [setH, go_sem, reduceIte, Nat.reduceEqDiff, Nat.reduceAdd, Nat.reduceLeDiff, t3, q5, g3, ei]
    exact ⟨hi1, rfl, (by simp only [go_sem, *] <;> rfl), _, lb ++ [⟨0, none, 0, []⟩], stN, by rw [List.map_append, hlb, tk, List.map_append, ← List.append_assoc]; rfl⟩
end Go.Proofs.Tryz.K
namespace Go.Proofs.Tryz.K
open Go Go.Ax Go.Proofs.Tryz.S
set_option maxRecDepth 100000
set_option linter.unusedSimpArgs false
set_option linter.unusedVariables false
set_option maxHeartbeats 4000000
variable (F : Fz) (M : Hp)
theorem beginM (p : Pg) (h : p.rdM F M) (hold : Old F M) (hv : ∀ n ∈ p.vars, 0 ≤ n ∧ n ≤ 32) : CallsA Tryz.prog 41 [p.val] F M (beginR p F M) := by
  refine (CallsA.lendAll (Q := fun v N => ∃ s : Ste, v = s.val ∧ s.blocks.map bkP = (0, []) :: p.vars.map varP ++ p.news.map (fun _ => (0, [])) ∧ s.next = p.main ∧ s.inp = 0 ∧ s.p = 0 ∧ s.w = 0 ∧ s.rd (F.all M) N) hold ((k41 (F.all M) noHp p h.lent (Old.start _) hv).mono ?_)).mono ?_
  · rintro v F' N ⟨rfl, kp, old, s, hs⟩
    exact ⟨rfl, kp, old, s, hs⟩
  · rintro v F' M' ⟨rfl, kp, old, N, rfl, hN, s, h1, h2, h3, h4, h5, h6, h7⟩
    exact ⟨rfl, kp, old, s, h1, h2, h3, h4, h5, h6, h7.all hN⟩
theorem ofM (p : Pg) (s : Ste) (h : p.rdM F M) (hold : Old F M) (hs : s.rd F M) : CallsA Tryz.prog 7 [p.val, s.val] F M (ofR p s F M) := by
  refine (CallsA.lendAll (Q := fun v N => ∃ e : En, ∃ n : Int, v = .tuple #[e.val, .int .i64 n] ∧ e.rd (F.all M) N ∧ ((progC p = true ∧ stateB p s = true ∧ n = 0 ∧ e.pe = justV p s.blocks) ∨ (¬ (progC p = true ∧ stateB p s = true) ∧ n = 1 ∧ e = noEnv))) hold ((k7 (F.all M) noHp p s h.lent (Old.start _) (hs.lent (Old.start _))).mono ?_)).mono ?_
  · rintro v F' N ⟨rfl, kp, old, e, hs⟩
    exact ⟨rfl, kp, old, e, hs⟩
  · rintro v F' M' ⟨rfl, kp, old, N, rfl, hN, e, n, h1, h2, h3⟩
    exact ⟨rfl, kp, old, e, n, h1, h2.all hN, h3⟩
theorem hasM (p : Pg) (e : En) (s : Ste) (hp : p.rdM F M) (h : e.rd F M) (hs : s.rd F M) (hfe : e.cells.length ≤ 100000 ∧ e.news.length ≤ 100000) :
    CallsA Tryz.prog 16 [p.val, e.val, s.val] F M (Same F M (if progC p = true ∧ envB p e.pe = true ∧ stateB p s = true then .tuple #[.bool (inEnv p e.pe s.blocks), .int .i64 0] else .tuple #[.bool false, .int .i64 1])) :=
  CallsA.lendSame (k16 (F.all M) noHp p e s hp.lent (Old.start _) (h.lent (Old.start _)) (hs.lent (Old.start _)) hfe)
theorem exactM (p : Pg) (e : En) (s : Ste) (hp : p.rdM F M) (h : e.rd F M) (hs : s.rd F M) (hc : progC p = true) (hfm : FitM p s.blocks) (hfc : (∀ c ∈ e.cells, FitC p s.blocks c.pc) ∧ e.news.length = p.news.length) :
    CallsA Tryz.prog 11 [p.val, e.val, s.val] F M (Same F M (.bool (exactB p e.pe s.blocks))) :=
  CallsA.lendSame (k11 (F.all M) noHp p e s hp.lent (Old.start _) (h.lent (Old.start _)) (hs.lent (Old.start _)) hc hfm hfc)
theorem small_may (a b c : Option Addr) : progC (smallP a b c) = true := by rfl
theorem small_blocks {a b c : Option Addr} {m : List Bl} (h : m.map bkP = (0, []) :: (smallP a b c).vars.map varP ++ (smallP a b c).news.map (fun _ => (0, []))) : ∃ a0 c0 a1 c1, m = [⟨0, a0, c0, []⟩, ⟨1, a1, c1, [⟨0, 0, 0, 0, 0⟩]⟩] := by
  have h : m.map bkP = [(0, []), (1, [⟨0, 0, 0, 0, 0⟩])] := h
  match m, h with
  | [x, y], h =>
    simp only [List.map_cons, List.map_nil, List.cons.injEq, and_true] at h
    obtain ⟨h1, h2⟩ := h
    obtain ⟨s1, a1, c1, l1⟩ := x
    obtain ⟨s2, a2, c2, l2⟩ := y
    simp only [bkP, Prod.mk.injEq] at h1 h2
    obtain ⟨rfl, rfl⟩ := h1
    obtain ⟨rfl, rfl⟩ := h2
    exact ⟨a1, c1, a2, c2, rfl⟩
  | [], h => simp at h
  | [x], h => simp at h
  | x :: y :: z :: m, h => simp at h
theorem small_exact (a b c a0 a1 : Option Addr) (c0 c1 : Nat) : exactB (smallP a b c) (justV (smallP a b c) [⟨0, a0, c0, []⟩, ⟨1, a1, c1, [⟨0, 0, 0, 0, 0⟩]⟩]) [⟨0, a0, c0, []⟩, ⟨1, a1, c1, [⟨0, 0, 0, 0, 0⟩]⟩] = true := by rfl
theorem small_env (a b c a0 a1 : Option Addr) (c0 c1 : Nat) : envB (smallP a b c) (justV (smallP a b c) [⟨0, a0, c0, []⟩, ⟨1, a1, c1, [⟨0, 0, 0, 0, 0⟩]⟩]) = true := by rfl
theorem rdM_keep {F : Fz} {M M' : Hp} {p : Pg} (h : p.rdM F M) (kp : Keep M M') (o : Old F M') : p.rdM F M' :=
  ⟨h.vars.keep kp o, h.news.keep kp o, h.exprs.keep kp o, h.stmts.keep kp o, h.main.keep kp o, fun s hs => ⟨(h.bodies s hs).1.keep kp o, (h.bodies s hs).2.keep kp o⟩, h.zero, h.few⟩
theorem k13 (hold : Old F M) : CallsA Tryz.prog 13 [] F M (Same F M (.bool true)) := by
  refine callsA_of hm Tryz.func13 e13 (Nat.le_of_ble_eq_true rfl) ?_
  simp only [c13, go_sem]
  with_reducible refine callK_of (k40 F M hold) ?_
  rintro u F' M1 ⟨rfl, kp1, old1, a, b, c, rfl, hp1⟩
  refine ⟨(fun h => by cases h), ?_⟩
  have hmay := small_may a b c
  have hfl : ∀ n ∈ (smallP a b c).vars, 0 ≤ n ∧ n ≤ 32 := fun n hn => by
    simp only [smallP, List.mem_singleton] at hn
    omega
  have hsb : ∀ {m : List Bl}, m.map bkP = (0, []) :: (smallP a b c).vars.map varP ++ (smallP a b c).news.map (fun _ => (0, [])) → ∃ a0 c0 a1 c1, m = [⟨0, a0, c0, []⟩, ⟨1, a1, c1, [⟨0, 0, 0, 0, 0⟩]⟩] := fun h => small_blocks h
  have hmn : (smallP a b c).main = [0] := rfl
  have hex := fun a0 a1 c0 c1 => small_exact a b c a0 a1 c0 c1
  have hst : ∀ s : Ste, (∃ a0 c0 a1 c1, s.blocks = [⟨0, a0, c0, []⟩, ⟨1, a1, c1, [⟨0, 0, 0, 0, 0⟩]⟩]) → s.next = [0] → s.inp = 0 → s.p = 0 → s.w = 0 → stateB (smallP a b c) s = true := by
    rintro ⟨x1, x2, m, x3, x4, nx, i1, i2, i3⟩ ⟨a0, c0, a1, c1, h1⟩ h2 h3 h4 h5
    simp only at h1 h2 h3 h4 h5
    subst h1 h2 h3 h4 h5
    rfl
  have hev := fun a0 a1 c0 c1 => small_env a b c a0 a1 c0 c1
  generalize smallP a b c = p at *
  simp only [go_sem, Nat.reduceAdd]
  intro r1 hF1 hM1
  simp only [setH, Hp.upd_upd, go_sem, reduceIte, Nat.reduceEqDiff, Nat.reduceAdd]
  have kp2 : Keep M (M1.upd r1 ⟨p.cs, 28, 7⟩) := kp1.new (kp1.free hM1)
  have kp12 : Keep M1 (M1.upd r1 ⟨p.cs, 28, 7⟩) := (Keep.refl M1).new hM1
  have old2 : Old F' (M1.upd r1 ⟨p.cs, 28, 7⟩) := old1.upd hF1
  have f1 : (M1.upd r1 ⟨p.cs, 28, 7⟩) r1 = some ⟨p.cs, 28, 7⟩ := Hp.upd_same _ _ _
  have hp2 := rdM_keep hp1 kp12 old2
  generalize M1.upd r1 ⟨p.cs, 28, 7⟩ = M2 at *
  clear hp1 kp12 kp1 old1 hM1 hF1
  with_reducible refine callK_of (beginM F' M2 p hp2 old2 hfl) ?_
  rintro u F2 M3 ⟨rfl, kp3, old3, s, rfl, hb, hn, h0, h1, h2, hs⟩
  refine ⟨(fun h => by cases h), ?_⟩
  obtain ⟨a0, c0, a1, c1, hm'⟩ := hsb hb
  have hst := hst s ⟨a0, c0, a1, c1, hm'⟩ (by rw [hn, hmn]) h0 h1 h2
  simp only [go_sem, Nat.reduceAdd]
  intro r2 hF2 hM2
  simp only [setH, Hp.upd_upd, go_sem, Nat.reduceEqDiff, Nat.reduceAdd]
  have kp24 : Keep M2 (M3.upd r2 ⟨s.cs, 46, 5⟩) := kp3.new (kp3.free hM2)
  have kp34 : Keep M3 (M3.upd r2 ⟨s.cs, 46, 5⟩) := (Keep.refl M3).new hM2
  have old4 : Old F2 (M3.upd r2 ⟨s.cs, 46, 5⟩) := old3.upd hF2
  have f2 : (M3.upd r2 ⟨s.cs, 46, 5⟩) r2 = some ⟨s.cs, 46, 5⟩ := Hp.upd_same _ _ _
  generalize M3.upd r2 ⟨s.cs, 46, 5⟩ = M4 at *
  have hp4 := rdM_keep hp2 kp24 old4
  have hs4 := hs.keep kp34 old4
  have f1' := kp24 _ _ f1
  have b1 := blk_M (F := F2) f1'
  have b2 := blk_M (F := F2) f2
  clear kp3 kp34 old3 hF2 hM2 hp2 hs
  have hnoE : envB p (En.pe ⟨true, none, 0, [], none, 0, []⟩) = true := by unfold envB; simp [En.pe]
  have hnoR : (⟨true, none, 0, [], none, 0, []⟩ : En).rd F2 M4 := ⟨rdG_nil, (fun x hx => by cases hx), rdG_nil, (fun _ => rfl), (fun _ => rfl), (fun x hx => by cases hx)⟩
  have hnoI : inEnv p (En.pe ⟨true, none, 0, [], none, 0, []⟩) s.blocks = false := rfl
  have kH := hasM F2 M4 p ⟨true, none, 0, [], none, 0, []⟩ s hp4 hnoR hs4 ⟨by decide, by decide⟩
  rw [if_pos ⟨hmay, hnoE, hst⟩, hnoI] at kH
  have eN : Value.agg #[.bool true, .slice none 0 0, .slice none 0 0] = En.val ⟨true, none, 0, [], none, 0, []⟩ := rfl
  simp only [go_sem, reduceIte, Nat.reduceEqDiff, Nat.reduceAdd, Nat.reduceLeDiff, b1, b2, eN]
  with_reducible refine callK_same kH ?_
  simp only [go_sem, reduceIte, Nat.reduceEqDiff, b1, b2]
  with_reducible refine callK_of (ofM F2 M4 p s hp4 old4 hs4) ?_
  rintro u F3 M5 ⟨rfl, kp5, old5, x, n, rfl, hx, hcase⟩
  refine ⟨(fun h => by cases h), ?_⟩
  rcases hcase with ⟨_, _, rfl, hpe⟩ | ⟨h, _⟩
  rotate_left
  · exact absurd ⟨hmay, hst⟩ h
  have hp5 := rdM_keep hp4 kp5 old5
  have hs5 := hs4.keep kp5 old5
  have f1'' := kp5 _ _ f1'
  have f2'' := kp5 _ _ f2
  simp only [go_sem, Nat.reduceEqDiff, Nat.reduceAdd]
  intro r5 hF5 hM5
  simp only [setH, Hp.upd_upd, go_sem, Nat.reduceEqDiff, Nat.reduceAdd]
  have kp6 : Keep M5 (M5.upd r5 ⟨x.cs, 38, 3⟩) := (Keep.refl M5).new hM5
  have old6 : Old F3 (M5.upd r5 ⟨x.cs, 38, 3⟩) := old5.upd hF5
  have f5 : (M5.upd r5 ⟨x.cs, 38, 3⟩) r5 = some ⟨x.cs, 38, 3⟩ := Hp.upd_same _ _ _
  generalize M5.upd r5 ⟨x.cs, 38, 3⟩ = M6 at *
  have hp6 := rdM_keep hp5 kp6 old6
  have hs6 := hs5.keep kp6 old6
  have hx6 := hx.keep kp6 old6
  have b16 := blk_M (F := F3) (kp6 _ _ f1'')
  have b26 := blk_M (F := F3) (kp6 _ _ f2'')
  have b56 := blk_M (F := F3) f5
  have hfm : FitM p s.blocks := FitM.of (by unfold stateB at hst; simp only [Bool.and_eq_true] at hst; exact hst.2)
  have hevx : envB p x.pe = true := by rw [hpe, hm']; exact hev _ _ _ _
  have hnox : x.no = false := by
    have : x.pe.no = false := by rw [hpe]; rfl
    exact this
  have hec := envB_cells hevx hnox
  have kE := exactM F3 M6 p x s hp6 hx6 hs6 hmay hfm ⟨fun c hc => FitC.of hfm (hec.1 _ (by simp only [En.pe]; exact List.mem_map_of_mem hc)), hec.2.1⟩
  have hexx : exactB p x.pe s.blocks = true := by rw [hpe, hm']; exact hex _ _ _ _
  rw [hexx] at kE
  with_reducible refine callK_same (k9 F3 M6 0) ?_
  simp only [go_sem, reduceIte, Nat.reduceEqDiff]
  with_reducible refine callK_same (k9 F3 M6 0) ?_
  simp only [go_sem, reduceIte, Nat.reduceEqDiff, b16, b26, b56]
  with_reducible refine callK_same kE ?_
  simp only [go_sem, reduceIte, Nat.reduceEqDiff]
  exact endK_keep (kp2.trans (kp24.trans (kp5.trans kp6))) ⟨rfl, rfl, rfl⟩
end Go.Proofs.Tryz.K
namespace Go.Ax
open Go
set_option linter.unusedVariables false
set_option linter.unusedSimpArgs false
theorem rd_bytes {B : Bk} {sz bytes n cap : Nat} {e : Sh} {a : Option Addr} (h : Rd B (.slice sz bytes e) [.slice a n cap]) : n * bytes ≤ 140737488351232 := by
  obtain ⟨v', rows, h1, ⟨a', cap', e1, hl, hm, h0, _⟩, hs, _⟩ := h
  cases h1
  cases e1
  exact hs
theorem rd_ask16b {B : Bk} {cs : List Value} (h : Rd B shAsk16 cs) : ∃ q : Ask16, cs = q.cs ∧ q.inB B ∧ q.e.length * 56 ≤ 140737488351232 := by
  obtain ⟨q, rfl, hq⟩ := rd_ask16 h
  refine ⟨q, rfl, hq, ?_⟩
  have h2 : Rd B (.cons 1 (.slice 5 72 shSt) (.cons 1 (.slice 3 56 shEn) (.cons 1 (.slice 7 72 shAb) .nil))) [.slice q.sA q.s.length q.sC, .slice q.eA q.e.length q.eC, .slice q.xA q.x.length q.xC] := h.2.2
  have h3 : Rd B (.slice 3 56 shEn) [.slice q.eA q.e.length q.eC] := h2.2.2.2.1
  exact rd_bytes h3
theorem apMG_big {α : Type} {sz bytes : Nat} {f : α → List Value} {P : Program} {s : Bool} {d : Option Nat} {l : List SO} {K : Env → Fz → Hp → Prop} {σ : Env} {F : Fz} {M0 M : Hp} {e : TypeId} {v u : Value} {xs ys : List α}
    (hf : ∀ x, (f x).length = sz) (hp : ∀ x, plainCells (f x)) (h : MineG sz f e F M0 M v xs) (kp : Keep M0 M) (hs : Src F M sz u ys.length (ys.flatMap f)) (hb : (xs.length + ys.length) * bytes ≤ 140737488355328) (hm : xs.length + ys.length ≤ 9000000000000000000)
    (hk : ∀ v' M', (∀ r x, M r = some x → ¬ x.elem = e → M' r = some x) → Keep M0 M' → (Old F M → Old F M') → MineG sz f e F M0 M' v' (xs ++ ys) → opsW P s l K (put σ d v') F M') :
    apK P s d l K σ F M e sz bytes (some v) (some u) := by
  refine apK_of (h.own.own hf) hs (plainG hp ys) (by simp only [maxLen]; omega) (by omega) ?_
  rintro v' M' (⟨h0, h1, rfl, rfl⟩ | ⟨g, cap, hg, rfl, h1, h2, rfl⟩)
  · have hys : ys = [] := by simpa using h1
    have hxs : xs = [] := by
      rcases h.own with ⟨_, h⟩ | ⟨g', cap', h, _⟩
      · exact h
      · rw [h] at h0; cases h0
    subst hys hxs
    exact hk _ _ (fun r x hr _ => hr) kp (fun h => h) ⟨.inl ⟨rfl, rfl⟩, fun g n c h => by cases h⟩
  rw [← List.length_append, ← List.flatMap_append]
  have key : F g = none ∧ (M g = none ∨ ∃ c, v = .slice (some ⟨g, 0, none⟩) xs.length c) := by
    rcases hg with ⟨c, hx⟩ | ⟨hx, hy⟩
    · rcases h.own with ⟨h1, _⟩ | ⟨g', cap', h1, h2, _⟩
      · rw [h1] at hx; cases hx
      · rw [h1] at hx; cases hx; exact ⟨h2, .inr ⟨_, h1⟩⟩
    · exact ⟨hx, .inl hy⟩
  have g0 : M0 g = none := by
    rcases key.2 with h1 | ⟨c, hv⟩
    · exact kp.free h1
    · exact h.new _ _ _ hv
  refine hk _ _ (fun r x hr hx => ?_) (kp.new g0) (fun h => h.upd key.1) ⟨.inr ⟨g, cap, rfl, key.1, Hp.upd_same _ _ _, by rw [List.length_append]; exact h1, h2⟩, fun g' n c h => by cases h; exact g0⟩
  have : ¬ r = g := by
    rcases key.2 with h1 | ⟨c, hv⟩
    · exact (ne_of_none h1 hr).1
    · rw [hv] at h; exact h.own.ne hr hx
  rw [Hp.upd_ne' this]; exact hr
end Go.Ax
