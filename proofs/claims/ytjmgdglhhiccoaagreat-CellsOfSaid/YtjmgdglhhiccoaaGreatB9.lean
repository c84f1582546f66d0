/- Parts B9: the machine's runs of small codes, contracts of functions, plain facts. -/
import Derived.Test.YtjmgdglhhiccoaaGreatB8
namespace Go.Proofs.Tryz.K
open Go Go.Ax Go.Proofs.Tryz.S
set_option maxRecDepth 100000
set_option linter.unusedSimpArgs false
set_option linter.unusedVariables false
set_option maxHeartbeats 4000000
variable (F : Fz) (M : Hp)
def noEnv : En := ⟨false, none, 0, [], none, 0, []⟩
theorem noEnv_val : Value.agg #[.bool false, .slice none 0 0, .slice none 0 0] = noEnv.val := rfl
theorem noEnv_rd {F : Fz} {M : Hp} : noEnv.rd F M := ⟨rdG_nil, (fun x hx => by cases hx), rdG_nil, (fun _ => rfl), (fun _ => rfl), (fun x hx => by cases hx)⟩
def ofR (p : Pg) (s : Ste) (F : Fz) (M : Hp) (v : Value) (F' : Fz) (M' : Hp) : Prop :=
  F' = F ∧ Keep M M' ∧ Old F M' ∧ ∃ e : En, ∃ n : Int, v = .tuple #[e.val, .int .i64 n] ∧ e.rd F M' ∧ ((progC p = true ∧ stateB p s = true ∧ n = 0 ∧ e.pe = justV p s.blocks) ∨ (¬ (progC p = true ∧ stateB p s = true) ∧ n = 1 ∧ e = noEnv))
theorem k7 (p : Pg) (s : Ste) (hp : p.rd F) (hold : Old F M) (hs : s.rd F M) : CallsA Tryz.prog 7 [p.val, s.val] F M (ofR p s F M) := by
  refine callsA_of hm Tryz.func7 e7 (Nat.le_of_ble_eq_true rfl) ?_
  simp only [c7, go_sem]
  intro r2 hF2 hM2
  simp only [go_sem, reduceCtorEq, Nat.reduceEqDiff]
  intro r3 hF3 hM3
  simp only [upd_none2] at hM3
  simp only [go_sem, Nat.reduceAdd]
  intro r4 hF4 hM4
  simp only [upd_none2] at hM4
  have kp4 : Keep M (((M.upd r2 ⟨p.cs, 28, 7⟩).upd r3 ⟨s.cs, 46, 5⟩).upd r4 ⟨[.bool false, .slice none 0 0, .slice none 0 0], 38, 3⟩) := (by repeat' first | exact Keep.refl _ | (refine Keep.new ?_ (by simp only [*])))
  have old4 : Old F (((M.upd r2 ⟨p.cs, 28, 7⟩).upd r3 ⟨s.cs, 46, 5⟩).upd r4 ⟨[.bool false, .slice none 0 0, .slice none 0 0], 38, 3⟩) := (by repeat' first | assumption | (refine Old.upd ?_ (by assumption)))
  have f2 : (((M.upd r2 ⟨p.cs, 28, 7⟩).upd r3 ⟨s.cs, 46, 5⟩).upd r4 ⟨[.bool false, .slice none 0 0, .slice none 0 0], 38, 3⟩) r2 = some ⟨p.cs, 28, 7⟩ := by rw [Hp.upd_ne' (by simp [hM4]), Hp.upd_ne' (by simp [hM3])]; exact Hp.upd_same _ _ _
  have f3 : (((M.upd r2 ⟨p.cs, 28, 7⟩).upd r3 ⟨s.cs, 46, 5⟩).upd r4 ⟨[.bool false, .slice none 0 0, .slice none 0 0], 38, 3⟩) r3 = some ⟨s.cs, 46, 5⟩ := by rw [Hp.upd_ne' (by simp [hM4])]; exact Hp.upd_same _ _ _
  have f4 : (((M.upd r2 ⟨p.cs, 28, 7⟩).upd r3 ⟨s.cs, 46, 5⟩).upd r4 ⟨[.bool false, .slice none 0 0, .slice none 0 0], 38, 3⟩) r4 = some ⟨[.bool false, .slice none 0 0, .slice none 0 0], 38, 3⟩ := Hp.upd_same _ _ _
  have n4 : M r4 = none := hM4.2.2
  generalize (((M.upd r2 ⟨p.cs, 28, 7⟩).upd r3 ⟨s.cs, 46, 5⟩).upd r4 ⟨[.bool false, .slice none 0 0, .slice none 0 0], 38, 3⟩) = M1 at *
  have hs1 := hs.keep kp4 old4
  have b2 := blk_M (F := F) f2
  have b3 := blk_M (F := F) f3
  have b4 := blk_M (F := F) f4
  clear hM2 hM3 hM4 hF2 hF3
  have bad : ¬ (progC p = true ∧ stateB p s = true) → ∀ X, endK F (M1.upd r4 X) (ofR p s F M) (.tuple #[noEnv.val, .int .i64 1]) := fun h X =>
    endK_same ⟨rfl, kp4.new n4, old4.upd hF4, noEnv, 1, rfl, noEnv_rd, .inr ⟨h, rfl, rfl⟩⟩
  simp only [go_sem, reduceIte, Nat.reduceEqDiff, b2]
  with_reducible refine callK_same (k27 F M1 p hp old4) ?_
  cases hc : progC p
  · simp only [setH, go_sem, reduceIte, Nat.reduceEqDiff, Nat.reduceAdd, f4, noEnv_val]
    exact bad (fun h => by rw [hc] at h; cases h.1) _
  simp only [go_sem, reduceIte, Nat.reduceEqDiff, b2, b3]
  with_reducible refine callK_same (k28 F M1 p s hp old4 hs1) ?_
  cases hb : stateB p s
  · simp only [setH, go_sem, reduceCtorEq, reduceIte, Nat.reduceEqDiff, Nat.reduceAdd, f4, noEnv_val]
    exact bad (fun h => by rw [hb] at h; cases h.2) _
  have hfm : FitM p s.blocks := FitM.of (by unfold stateB at hb; simp only [Bool.and_eq_true] at hb; exact hb.2)
  simp only [go_sem, reduceCtorEq, reduceIte, Nat.reduceEqDiff, b2, b3]
  with_reducible refine callK_of (k29 F M1 p s hp old4 hs1 hc hfm) ?_
  rintro u F' M2 ⟨hG, kp2, old2, e, rfl, hpe, own⟩
  subst hG
  refine ⟨(fun h => by cases h), ?_⟩
  have g4 := kp2 _ _ f4
  simp only [setH, go_sem, reduceIte, Nat.reduceEqDiff, Nat.reduceAdd, g4]
  have fr : ∀ r x, M2 r = some x → ¬ x.elem = 38 → (M2.upd r4 ⟨e.cs, 38, 3⟩) r = some x := fun r x hx hne => by
    have : ¬ r = r4 := by rintro rfl; rw [g4] at hx; cases hx; exact hne rfl
    rw [Hp.upd_ne' this]; exact hx
  have own2 := own.frame fr (by decide) (by decide) (by decide)
  exact endK_same ⟨rfl, (kp4.trans kp2).new n4, old2.upd hF4, e, 0, rfl, own2.rd, .inl ⟨hc, hb, rfl, hpe⟩⟩
end Go.Proofs.Tryz.K
namespace Go.Ax
open Go
set_option linter.unusedVariables false
set_option linter.unusedSimpArgs false
def soleB (c : Pc) : Bool := if c.k = 0 then true else if c.k = 11 then c.v.is1 && (onlyB 7 V.zero c.l).2 else (onlyB c.k c.v c.l).2
def coverB (ptr : Int) (b k : Nat) (c : Pc) : Bool := decide (c.b = b) && (decide (c.p ≤ k) && (decide ((k : Int) < c.p + spanK ptr c.k) && soleB c))
def byteOne (ptr : Int) (l : List Pc) (b k : Nat) : Bool := l.any (coverB ptr b k)
def blockOne (ptr : Int) (l : List Pc) (m : List Bl) (b : Nat) : Bool := (List.range (blAt m b).l.length).all (byteOne ptr l b)
def exactB (p : Pg) (e : Pe) (m : List Bl) : Bool := inEnv p e m && (List.range m.length).all fun b => decide (b = 0) || blockOne p.ptr e.cells m b
theorem content_pre {c : Pc} (h : contentB c = true) : c.l.length ≤ 7 ∧ (¬ c.k = 0 → ¬ c.k = 7 → c.v.ok = true) ∧ ∀ x ∈ c.l, 0 ≤ x.v.w ∧ x.v.w ≤ 62 ∧ x.v.ok = true := by
  unfold contentB at h
  split at h
  · rename_i h0
    simp only [Bool.and_eq_true, decide_eq_true_eq] at h
    have hl := List.eq_nil_of_length_eq_zero h.2
    rw [hl]
    exact ⟨by simp, fun h => absurd h0 h, fun x hx => by cases hx⟩
  split at h
  · rename_i h0 h11
    simp only [Bool.and_eq_true, decide_eq_true_eq] at h
    have ha : absB 7 V.zero c.l = true := by simp [absB, h.2]
    have hp := abs_pre ha
    exact ⟨hp.1, fun _ _ => h.1.1, fun x hx => ⟨(hp.2.2 x hx).1, (hp.2.2 x hx).2.1, (hp.2.2 x hx).2.2.1⟩⟩
  · rename_i h0 h11
    simp only [Bool.and_eq_true] at h
    have hp := abs_pre h.2
    exact ⟨hp.1, fun _ h7 => (hp.2.1 h7).1, fun x hx => ⟨(hp.2.2 x hx).1, (hp.2.2 x hx).2.1, (hp.2.2 x hx).2.2.1⟩⟩
end Go.Ax
namespace Go.Proofs.Tryz.K
open Go Go.Ax Go.Proofs.Tryz.S
set_option maxRecDepth 100000
set_option linter.unusedSimpArgs false
set_option linter.unusedVariables false
set_option maxHeartbeats 4000000
variable (F : Fz) (M : Hp)
theorem k37 (c : Cl) (h : c.rd F M) (hc : contentB c.pc = true) : CallsA Tryz.prog 37 [c.val] F M (Same F M (.bool (soleB c.pc))) := by
  refine callsA_of hm Tryz.func37 e37 (Nat.le_of_ble_eq_true rfl) ?_
  obtain ⟨hl, hok, hb⟩ := content_pre hc
  have hl : c.l.length ≤ 1000000 := Nat.le_trans hl (by decide)
  have hok : ¬ c.k = 0 → ¬ c.k = 7 → c.v.ok = true := hok
  have hb : ∀ x ∈ c.l, 0 ≤ x.v.w ∧ x.v.w ≤ 62 ∧ x.v.ok = true := hb
  simp only [c37, go_sem]
  intro r1 hF1 hM1
  have h1 : c.rd F (M.upd r1 ⟨c.cs, 87, 10⟩) := RdG.new h hF1 hM1
  have f1 : (M.upd r1 ⟨c.cs, 87, 10⟩) r1 = some ⟨c.cs, 87, 10⟩ := Hp.upd_same _ _ _
  have kp1 : Keep M (M.upd r1 ⟨c.cs, 87, 10⟩) := (by repeat' first | exact Keep.refl _ | (refine Keep.new ?_ (by simp only [*])))
  generalize M.upd r1 ⟨c.cs, 87, 10⟩ = M1 at *
  have h1 : RdG 7 Ba.cs F M1 (.slice c.lA c.l.length c.lC) c.l := h1
  have b1 := blk_M (F := F) f1
  have fin : ∀ v : Bool, soleB c.pc = v → ∀ M3, Keep M1 M3 → endK F M3 (Same F M (.bool (soleB c.pc))) (.bool v) := fun v e M3 k => endK_keep (kp1.trans k) ⟨by rw [e], rfl, rfl⟩
  by_cases h0 : c.k = 0
  · have hv : soleB c.pc = true := by unfold soleB; rw [if_pos (show c.pc.k = 0 from h0)]
    simp only [go_sem, reduceIte, Nat.reduceEqDiff, b1, h0]
    exact fin _ hv _ (Keep.refl _)
  by_cases h11 : c.k = 11
  · have hv : soleB c.pc = (c.v.is1 && (onlyB 7 V.zero c.l).2) := by unfold soleB; rw [if_neg (show ¬ c.pc.k = 0 from h0), if_pos (show c.pc.k = 11 from h11)]; rfl
    have hok : c.v.ok = true := hok h0 (by omega)
    simp only [go_sem, reduceIte, Nat.reduceEqDiff, Nat.reduceAdd, Nat.reduceLeDiff, Int.reduceEq, b1, h11]
    with_reducible refine callK_same (k78 F M1 c.v hok) ?_
    simp only [onlyA, go_sem, reduceIte, Nat.reduceEqDiff, Nat.reduceAdd, b1]
    with_reducible refine callK_same (k79 F M1 7 V.zero (.slice c.lA c.l.length c.lC) c.l h1 hl (fun h => absurd rfl h) hb) ?_
    simp only [go_sem, Nat.reduceEqDiff, Nat.reduceAdd]
    intro r5 hF5 hM5
    have kp5 : ∀ e, Keep M1 (M1.upd r5 e) := fun e => (Keep.refl M1).new hM5
    have his : c.v.is1 = (decide (0 ≤ c.v.nextR 0) && decide (c.v.nextR (c.v.nextR 0 + 1) < 0)) := rfl
    rw [his] at hv
    generalize (decide (0 ≤ c.v.nextR 0) && decide (c.v.nextR (c.v.nextR 0 + 1) < 0)) = v1 at *
    cases v1
    · simp only [setH, Hp.upd_upd, go_sem, reduceCtorEq, reduceIte, Nat.reduceEqDiff, Nat.reduceAdd]
      exact fin _ (by rw [hv]; rfl) _ (kp5 _)
    · simp only [setH, Hp.upd_upd, go_sem, reduceIte, Nat.reduceEqDiff, Nat.reduceAdd]
      exact fin _ (by rw [hv]; rfl) _ (kp5 _)
  have hv : soleB c.pc = (onlyB c.k c.v c.l).2 := by unfold soleB; rw [if_neg (show ¬ c.pc.k = 0 from h0), if_neg (show ¬ c.pc.k = 11 from h11)]; rfl
  simp only [go_sem, reduceIte, Nat.reduceEqDiff, Nat.reduceAdd, b1, h0, h11]
  with_reducible refine callK_same (k79 F M1 c.k c.v (.slice c.lA c.l.length c.lC) c.l h1 hl (hok h0) hb) ?_
  simp only [go_sem, Nat.reduceEqDiff, Nat.reduceAdd]
  intro r7 hF7 hM7
  simp only [setH, Hp.upd_upd, go_sem, Nat.reduceEqDiff, Nat.reduceAdd]
  exact fin _ hv _ (by repeat' first | exact Keep.refl _ | (refine Keep.new ?_ (by simp only [*])))
def exI (p : Pg) (e : En) (m : List Bl) (F0 : Fz) (M0 : Hp) (i : Nat) (σ : Env) (F : Fz) (M : Hp) : Prop :=
  F0 = F ∧ Keep M0 M ∧ Old F0 M ∧ Ax.look σ 7 = some (.int .i64 ((i + 1 : Nat) : Int)) ∧ ((List.range (i + 1)).all fun b => decide (b = 0) || blockOne p.ptr e.pe.cells m b) = true
def exB (p : Pg) (e : En) (b : Nat) (F0 : Fz) (M0 : Hp) (k : Nat) (σ : Env) (F : Fz) (M : Hp) : Prop :=
  F0 = F ∧ Keep M0 M ∧ Old F0 M ∧ Ax.look σ 8 = some (.int .i64 k) ∧ (List.range k).all (byteOne p.ptr e.pe.cells b) = true
def exC (p : Pg) (e : En) (b k : Nat) (F0 : Fz) (M0 : Hp) (i : Nat) (σ : Env) (F : Fz) (M : Hp) : Prop :=
  F0 = F ∧ Keep M0 M ∧ Old F0 M ∧ Ax.look σ 10 = some (.int .i64 i) ∧ Ax.look σ 9 = some (.bool ((e.pe.cells.take i).any (coverB p.ptr b k)))
theorem k11 (p : Pg) (e : En) (s : Ste) (hp : p.rd F) (hold : Old F M) (h : e.rd F M) (hs : s.rd F M) (hc : progC p = true) (hfm : FitM p s.blocks) (hfc : (∀ c ∈ e.cells, FitC p s.blocks c.pc) ∧ e.news.length = p.news.length) :
    CallsA Tryz.prog 11 [p.val, e.val, s.val] F M (Same F M (.bool (exactB p e.pe s.blocks))) := by
  refine callsA_of hm Tryz.func11 e11 (Nat.le_of_ble_eq_true rfl) ?_
  have hpre := progC_pre hc
  have hlen := hfm.len
  have hel := h.cells.1
  simp only [c11, go_sem, Nat.reduceAdd]
  intro r3 hF3 hM3
  simp only [go_sem, reduceCtorEq, Nat.reduceEqDiff]
  intro r4 hF4 hM4
  simp only [upd_none2] at hM4
  simp only [go_sem, reduceCtorEq, Nat.reduceEqDiff]
  intro r5 hF5 hM5
  simp only [upd_none2] at hM5
  have kp5 : Keep M (((M.upd r3 ⟨p.cs, 28, 7⟩).upd r4 ⟨e.cs, 38, 3⟩).upd r5 ⟨s.cs, 46, 5⟩) := (by repeat' first | exact Keep.refl _ | (refine Keep.new ?_ (by simp only [*])))
  have old5 : Old F (((M.upd r3 ⟨p.cs, 28, 7⟩).upd r4 ⟨e.cs, 38, 3⟩).upd r5 ⟨s.cs, 46, 5⟩) := (by repeat' first | assumption | (refine Old.upd ?_ (by assumption)))
  have f3 : (((M.upd r3 ⟨p.cs, 28, 7⟩).upd r4 ⟨e.cs, 38, 3⟩).upd r5 ⟨s.cs, 46, 5⟩) r3 = some ⟨p.cs, 28, 7⟩ := by rw [Hp.upd_ne' (by simp [hM5]), Hp.upd_ne' (by simp [hM4])]; exact Hp.upd_same _ _ _
  have f4 : (((M.upd r3 ⟨p.cs, 28, 7⟩).upd r4 ⟨e.cs, 38, 3⟩).upd r5 ⟨s.cs, 46, 5⟩) r4 = some ⟨e.cs, 38, 3⟩ := by rw [Hp.upd_ne' (by simp [hM5])]; exact Hp.upd_same _ _ _
  have f5 : (((M.upd r3 ⟨p.cs, 28, 7⟩).upd r4 ⟨e.cs, 38, 3⟩).upd r5 ⟨s.cs, 46, 5⟩) r5 = some ⟨s.cs, 46, 5⟩ := Hp.upd_same _ _ _
  generalize (((M.upd r3 ⟨p.cs, 28, 7⟩).upd r4 ⟨e.cs, 38, 3⟩).upd r5 ⟨s.cs, 46, 5⟩) = M1 at *
  have h1 := h.keep kp5 old5
  have hs1 := hs.keep kp5 old5
  have b3 := blk_M (F := F) f3
  have b4 := blk_M (F := F) f4
  have b5 := blk_M (F := F) f5
  clear hM3 hM4 hM5 hF3 hF4 hF5 h hs
  have fin : ∀ v : Bool, exactB p e.pe s.blocks = v → ∀ M', Keep M1 M' → endK F M' (Same F M (.bool (exactB p e.pe s.blocks))) (.bool v) := fun v h M' k => endK_keep (kp5.trans k) ⟨by rw [h], rfl, rfl⟩
  simp only [go_sem, reduceIte, Nat.reduceEqDiff, b3, b4, b5]
  with_reducible refine callK_same (k17 F M1 p e s hp old5 h1 hs1 hc hfm (fun _ => hfc)) ?_
  have hR : exactB p e.pe s.blocks = (inEnv p e.pe s.blocks && (List.range s.blocks.length).all fun b => decide (b = 0) || blockOne p.ptr e.pe.cells s.blocks b) := rfl
  generalize exactB p e.pe s.blocks = R at *
  cases hin : inEnv p e.pe s.blocks
  · simp only [go_sem]
    exact fin _ (by rw [hR, hin]; rfl) _ (Keep.refl _)
  rw [hin, Bool.true_and] at hR
  simp only [go_sem]
  refine loop_up (s.blocks.length - 1) (exI p e s.blocks F M1) ⟨rfl, Keep.refl _, old5, (by simp only [go_sem, *] <;> rfl), by simp⟩ ?_
  rintro i σ F' M2 hi hst ⟨rfl, kp, old, q7, he⟩
  have q3 := hst 3 rfl
  have q4 := hst 4 rfl
  have q5 := hst 5 rfl
  simp only [go_sem, Nat.reduceEqDiff] at q3 q4 q5
  clear hst
  have b3' := blk_M (F := F) (kp _ _ f3)
  have b4' := blk_M (F := F) (kp _ _ f4)
  have b5' := blk_M (F := F) (kp _ _ f5)
  have h2 := h1.keep kp old
  have hs2 := hs1.keep kp old
  by_cases hil : ((i + 1 : Nat) : Int) < s.blocks.length
  rotate_left
  · have : i + 1 = s.blocks.length := by omega
    rw [this] at he
    simp only [go_sem, reduceIte, Nat.reduceEqDiff, q5, q7, b5', hil]
    exact fin _ (by rw [hR, he]) _ kp
  have hi0 : (0 : Int) ≤ ((i + 1 : Nat) : Int) := by omega
  have hi1 : i + 1 < s.blocks.length := by omega
  have ei : IntKind.i64.wrap (((i + 1 : Nat) : Int) + 1) = ((i + 1 + 1 : Nat) : Int) := by rw [w64 (by omega) (by omega)]; omega
  have hno : blockOne p.ptr e.pe.cells s.blocks (i + 1) = false → R = false := fun h => by
    rw [hR]; exact range_no hi1 (by rw [h]; simp)
  have hbO : blockOne p.ptr e.pe.cells s.blocks (i + 1) = (List.range (s.blocks[i + 1]).l.length).all (byteOne p.ptr e.pe.cells (i + 1)) := by
    unfold blockOne; rw [blAt_get hi1]
  have hx32 := (hfm.bytes _ hi1).2.2.2
  have hxd := hfm.dead _ hi1
  have hat := blAt_get (m := s.blocks) hi1
  generalize hxe : s.blocks[i + 1] = x at *
  have hbr : ∀ M', Keep M1 M' → Old F M' → ∃ b o cs, s.blocksA = some ⟨b, o, none⟩ ∧ blk F M' b = some cs ∧ o + (i + 1) * 2 + 2 ≤ cs.length ∧ cs[o + (i + 1) * 2 + 1]? = some (.slice x.lA x.l.length x.lC) := fun M' k o => by
    obtain ⟨b, o, cs, ea, hb, rows⟩ := (hs1.keep k o).blocks.rows (by omega)
    obtain ⟨d1, d2⟩ := rows _ hi1
    rw [hxe] at d2
    exact ⟨b, o, cs, ea, hb, d1, (Go.Ax.Bl.row d2).2⟩
  simp only [go_sem, reduceIte, Nat.reduceEqDiff, q5, q7, b5', hil]
  refine inBlock_st (fun σ F' M' => F = F' ∧ Keep M1 M' ∧ Old F M' ∧ blockOne p.ptr e.pe.cells s.blocks (i + 1) = true) ?_ ?_
  · refine loop_up x.l.length (exB p e (i + 1) F M1) ⟨rfl, kp, old, (by simp only [go_sem, *] <;> rfl), rfl⟩ ?_
    clear b3' b4' b5'
    rintro k σ2 F' M3 hk hst ⟨rfl, kp3, old3, q8, hb⟩
    have t3 := hst 3 rfl
    have t4 := hst 4 rfl
    have t5 := hst 5 rfl
    have t7 := hst 7 rfl
    simp only [go_sem, Nat.reduceEqDiff, q3, q4, q5, q7] at t3 t4 t5 t7
    clear hst
    have b3 := blk_M (F := F) (kp3 _ _ f3)
    have b4 := blk_M (F := F) (kp3 _ _ f4)
    have b5 := blk_M (F := F) (kp3 _ _ f5)
    obtain ⟨bb, bo, bcs, ea, hbb, d1, d2⟩ := hbr M3 kp3 old3
    by_cases hkl : (k : Int) < x.l.length
    rotate_left
    · have : k = x.l.length := by omega
      rw [this] at hb
      simp only [go_sem, reduceIte, Nat.reduceEqDiff, t5, t7, q8, b5, hi0, hil, ea, Int.toNat_natCast, hbb, d2, hkl]
      exact At.mk ⟨rfl, kp3, old3, by rw [hbO, hb]⟩
    have hk0 : (0 : Int) ≤ k := by omega
    have hk1 : k < x.l.length := by omega
    have ek : IntKind.i64.wrap ((k : Int) + 1) = ((k + 1 : Nat) : Int) := by rw [w64 (by omega) (by omega)]; omega
    simp only [go_sem, reduceIte, Nat.reduceEqDiff, t5, t7, q8, b5, hi0, hil, ea, Int.toNat_natCast, hbb, d2, hkl]
    refine inBlock_st (fun σ F' M' => F = F' ∧ Keep M1 M' ∧ Old F M' ∧ Ax.look σ 9 = some (.bool (byteOne p.ptr e.pe.cells (i + 1) k))) ?_ ?_
    · refine loop_up e.cells.length (exC p e (i + 1) k F M1) ⟨rfl, kp3, old3, (by simp only [go_sem, *] <;> rfl), by simp only [go_sem, Nat.reduceEqDiff, List.take_zero, List.any_nil]⟩ ?_
      clear b3 b4 b5 d1 d2 ea hbb
      rintro j σ3 F' M4 hj hst ⟨rfl, kp4, old4, q10, q9⟩
      have u3 := hst 3 rfl
      have u4 := hst 4 rfl
      have u7 := hst 7 rfl
      have u8 := hst 8 rfl
      simp only [go_sem, Nat.reduceEqDiff, t3, t4, t7, q8] at u3 u4 u7 u8
      clear hst
      have b3 := blk_M (F := F) (kp4 _ _ f3)
      have b4 := blk_M (F := F) (kp4 _ _ f4)
      have hpl : e.pe.cells.length = e.cells.length := by simp [En.pe]
      by_cases hjl : (j : Int) < e.cells.length
      rotate_left
      · have : j = e.cells.length := by omega
        rw [List.take_of_length_le (by omega)] at q9
        simp only [go_sem, reduceCtorEq, reduceIte, Nat.reduceEqDiff, u4, q10, b4, hjl]
        exact At.mk ⟨rfl, kp4, old4, q9⟩
      cases hfd : (e.pe.cells.take j).any (coverB p.ptr (i + 1) k)
      rotate_left
      · rw [hfd] at q9
        have hall : byteOne p.ptr e.pe.cells (i + 1) k = true := by
          unfold byteOne
          rw [List.any_eq_true] at hfd ⊢
          obtain ⟨c, hc1, hc2⟩ := hfd
          exact ⟨c, List.mem_of_mem_take hc1, hc2⟩
        simp only [go_sem, reduceIte, Nat.reduceEqDiff, u4, q9, q10, b4, hjl]
        exact At.mk ⟨rfl, kp4, old4, by rw [hall]; exact q9⟩
      rw [hfd] at q9
      have hj0 : (0 : Int) ≤ j := by omega
      have hj1 : j < e.cells.length := by omega
      have ej : IntKind.i64.wrap ((j : Int) + 1) = j + 1 := w64 (by omega) (by omega)
      obtain ⟨cb, co, ccs, ca, hcb, rows⟩ := (h1.keep kp4 old4).cells.rows (by omega)
      obtain ⟨d1, d2⟩ := rows j hj1
      clear rows
      have hfi := hfc.1 _ (List.getElem_mem hj1)
      have hcr := (h1.keep kp4 old4).ptrs _ (List.getElem_mem hj1)
      have tk : (e.pe.cells.take (j + 1)).any (coverB p.ptr (i + 1) k) = coverB p.ptr (i + 1) k (e.cells[j]).pc := by
        rw [List.take_succ_eq_append_getElem (by omega), List.any_append, hfd]
        simp [En.pe]
      generalize e.cells[j] = c at *
      simp only [go_sem, reduceIte, Nat.reduceEqDiff, Nat.reduceAdd, u4, q9, q10, b4, hjl, hj0, ca, Int.toNat_natCast, hcb, d1, d2]
      intro r11 hF11 hM11
      have kp11 : Keep M4 (M4.upd r11 ⟨c.cs, 87, 10⟩) := (Keep.refl M4).new hM11
      have old11 : Old F (M4.upd r11 ⟨c.cs, 87, 10⟩) := old4.upd hF11
      have f11 : (M4.upd r11 ⟨c.cs, 87, 10⟩) r11 = some ⟨c.cs, 87, 10⟩ := Hp.upd_same _ _ _
      simp only [setH, Hp.upd_upd, go_sem, Nat.reduceEqDiff, Nat.reduceAdd]
      generalize M4.upd r11 ⟨c.cs, 87, 10⟩ = M5 at *
      have b11 := blk_M (F := F) f11
      have b35 := blk_M (F := F) (kp11 _ _ (kp4 _ _ f3))
      have hcr5 : c.rd F M5 := RdG.keep hcr kp11 old11
      have nx : ∀ v σ', coverB p.ptr (i + 1) k c.pc = v → Ax.look σ' 9 = some (.bool v) → Ax.look σ' 10 = some (.int .i64 ((j + 1 : Nat) : Int)) → Nxt (exC p e (i + 1) k F M1) e.cells.length j σ' F M5 := fun v σ' hv h9 h10 =>
        ⟨hj1, rfl, kp4.trans kp11, old11, h10, by rw [tk, hv]; exact h9⟩
      have hcv : coverB p.ptr (i + 1) k c.pc = (decide (c.b = ((i + 1 : Nat) : Int)) && (decide (c.p ≤ k) && (decide ((k : Int) < c.p + spanK p.ptr c.k) && soleB c.pc))) := rfl
      by_cases hcb1 : c.b = ((i + 1 : Nat) : Int)
      rotate_left
      · simp only [go_sem, reduceCtorEq, reduceIte, Nat.reduceEqDiff, u7, hcb1, q10, ej]
        exact nx false _ (by rw [hcv, decide_eq_false hcb1]; rfl) (by simp only [go_sem, Nat.reduceEqDiff, *] <;> rfl) (by simp only [go_sem, *] <;> rfl)
      by_cases hcp : c.p ≤ k
      rotate_left
      · simp only [go_sem, reduceCtorEq, reduceIte, Nat.reduceEqDiff, u7, u8, b11, hcb1, hcp, q10, ej]
        exact nx false _ (by rw [hcv, decide_eq_false hcp]; simp) (by simp only [go_sem, Nat.reduceEqDiff, *] <;> rfl) (by simp only [go_sem, *] <;> rfl)
      have hspan := spanK_in hpre.1 hfi.kind
      have hx1 : x.st = 1 := by
        rcases Decidable.em (x.st = 1) with h | h
        · exact h
        · rw [hxd h] at hk1; simp at hk1
      have hin : (blAt s.blocks c.b).st = 1 → 0 ≤ c.p ∧ c.p + spanK p.ptr c.k ≤ (blAt s.blocks c.b).l.length := hfi.inside
      rw [hcb1, hat] at hin
      obtain ⟨hp0, hp1⟩ := hin hx1
      have hspan : 1 ≤ spanK p.ptr c.k ∧ spanK p.ptr c.k ≤ 4 := hspan
      have es : IntKind.i64.wrap (c.p + spanK p.ptr c.k) = c.p + spanK p.ptr c.k := w64 (by omega) (by omega)
      simp only [go_sem, reduceIte, Nat.reduceEqDiff, u3, u7, u8, b11, b35, hcb1, hcp]
      with_reducible refine callK_same (k36 F M5 p c.k) ?_
      by_cases hks : (k : Int) < c.p + spanK p.ptr c.k
      rotate_left
      · simp only [go_sem, reduceCtorEq, reduceIte, Nat.reduceEqDiff, es, hks, q10, ej]
        exact nx false _ (by rw [hcv, decide_eq_false hks]; simp) (by simp only [go_sem, Nat.reduceEqDiff, *] <;> rfl) (by simp only [go_sem, *] <;> rfl)
      simp only [go_sem, reduceIte, Nat.reduceEqDiff, es, hks, b11]
      with_reducible refine callK_same (k37 F M5 c hcr5 hfi.content) ?_
      simp only [go_sem, reduceIte, Nat.reduceEqDiff, q10, ej]
      exact nx _ _ (by rw [hcv, decide_eq_true hcb1, decide_eq_true hcp, decide_eq_true hks]) (by simp only [go_sem, Nat.reduceEqDiff, *] <;> rfl) (by simp only [go_sem, *] <;> rfl)
    · rintro σ3 F' M4 hst ⟨rfl, kp4, old4, q9⟩
      have u8 := hst 8 rfl
      simp only [go_sem, Nat.reduceEqDiff, q8] at u8
      cases hbo : byteOne p.ptr e.pe.cells (i + 1) k
      · rw [hbo] at q9
        simp only [go_sem, q9]
        exact fin _ (hno (by rw [hbO]; exact range_no hk1 hbo)) _ kp4
      · rw [hbo] at q9
        simp only [go_sem, reduceIte, Nat.reduceEqDiff, q9, u8, ek]
        exact ⟨hk1, rfl, kp4, old4, (by simp only [go_sem, *] <;> rfl), by rw [all_range, hb, hbo]; rfl⟩
  · rintro σ2 F' M3 hst ⟨rfl, kp3, old3, hb⟩
    have t7 := hst 7 rfl
    simp only [go_sem, Nat.reduceEqDiff, q7] at t7
    simp only [go_sem, reduceIte, t7, ei]
    exact ⟨by omega, rfl, kp3, old3, (by simp only [go_sem, *] <;> rfl), by rw [all_range, he, hb]; simp⟩
end Go.Proofs.Tryz.K
namespace Go.Proofs.Tryz.K
open Go Go.Ax Go.Proofs.Tryz.S
set_option maxRecDepth 100000
set_option linter.unusedSimpArgs false
set_option linter.unusedVariables false
set_option maxHeartbeats 4000000
variable (F : Fz) (M : Hp)
theorem k81 (n : Nat) (hn : n ≤ 100000) : CallsA Tryz.prog 81 [.int .i64 n] F M (rowR 5 By.cs 83 (List.replicate n ⟨0, 0, 0, 0, 0⟩) F M) := by
  refine callsA_of hm Tryz.func81 e81 (Nat.le_of_ble_eq_true rfl) ?_
  simp only [c81, go_sem, reduceCtorEq]
  refine msK_of (Nat.le_refl _) (by simp only [maxLen]; omega) (by omega) ?_
  intro r4 hF4 hM4
  have hrep : (List.replicate n [Value.int .i64 0, .int .i64 0, .int .i64 0, .int .i64 0, .int .i64 0]).flatten = (List.replicate n (⟨0, 0, 0, 0, 0⟩ : By)).flatMap By.cs := flatG_rep (f := By.cs) ⟨0, 0, 0, 0, 0⟩ n
  rw [hrep]
  simp only [go_sem]
  refine endK_same ⟨rfl, .inr ⟨r4, n, hF4, hM4, by rw [List.length_replicate], ⟨by rw [List.length_replicate]; omega, by simp only [maxLen]; omega⟩, rfl⟩⟩
def smallP (a b c : Option Addr) : Pg := ⟨false, 4, a, 1, [1], none, 0, [], none, 0, [], b, 1, [⟨7, 0, 0, 0, 0, none, 0, [], none, 0, []⟩], c, 1, [0]⟩
theorem k40 (hold : Old F M) : CallsA Tryz.prog 40 [] F M (fun u F' M' => F' = F ∧ Keep M M' ∧ Old F M' ∧ ∃ a b c, u = (smallP a b c).val ∧ (smallP a b c).rdM F M') := by
  refine callsA_of hm Tryz.func40 e40 (Nat.le_of_ble_eq_true rfl) ?_
  simp only [c40, go_sem, Nat.reduceAdd]
  intro r0 hF0 hM0
  simp only [go_sem, reduceIte, Nat.reduceAdd]
  intro r2 hF2 hM2
  simp only [upd_none2] at hM2
  simp only [go_sem, reduceIte, Nat.reduceAdd, Nat.reduceLeDiff]
  intro r4 hF4 hM4
  simp only [upd_none2] at hM4
  simp only [go_sem, reduceIte]
  intro r5 hF5 hM5
  simp only [upd_none2] at hM5
  simp only [setH, go_sem, reduceCtorEq, reduceIte, Nat.reduceEqDiff, Nat.reduceAdd, Nat.reduceLeDiff, hM2, hM4, hM5]
  have n0 : M r0 = none := hM0
  have h20 : ¬ r2 = r0 := by simp [hM2]
  have h40 : ¬ r4 = r0 := by simp [hM4]
  have h50 : ¬ r5 = r0 := by simp [hM5]
  have h24 : ¬ r2 = r4 := by simp [hM4]
  have h25 : ¬ r2 = r5 := by simp [hM5]
  have h45 : ¬ r4 = r5 := by simp [hM5]
  refine endK_same ⟨rfl, ?_, ?_, some ⟨r2, 0, none⟩, some ⟨r4, 0, none⟩, some ⟨r5, 0, none⟩, rfl, ?_⟩
  · refine Keep.new ?_ n0
    exact (by repeat' first | exact Keep.refl _ | (refine Keep.new ?_ (by simp only [*])))
  · exact Old.upd (by repeat' first | assumption | (refine Old.upd ?_ (by assumption))) hF0
  · have b2 : ∀ X0 X2 X4 X5 X, blk F (((((M.upd r0 X0).upd r2 X2).upd r4 X4).upd r5 X5).upd r0 X) r2 = some X2.cells := fun X0 X2 X4 X5 X => blk_M (e := X2) (by rw [Hp.upd_ne' h20, Hp.upd_ne' h25, Hp.upd_ne' h24]; exact Hp.upd_same _ _ _)
    have b4 : ∀ X0 X2 X4 X5 X, blk F (((((M.upd r0 X0).upd r2 X2).upd r4 X4).upd r5 X5).upd r0 X) r4 = some X4.cells := fun X0 X2 X4 X5 X => blk_M (e := X4) (by rw [Hp.upd_ne' h40, Hp.upd_ne' h45]; exact Hp.upd_same _ _ _)
    have b5 : ∀ X0 X2 X4 X5 X, blk F (((((M.upd r0 X0).upd r2 X2).upd r4 X4).upd r5 X5).upd r0 X) r5 = some X5.cells := fun X0 X2 X4 X5 X => blk_M (e := X5) (by rw [Hp.upd_ne' h50]; exact Hp.upd_same _ _ _)
    exact ⟨rdG_flat intC_len (by show 1 ≤ _; decide) (by show 1 ≤ 1; decide) (b2 _ _ _ _ _), rdG_nil, rdG_nil, rdG_flat (f := Sm.cs) Sm.len (by show 1 ≤ _; decide) (by show 1 ≤ 1; decide) (b4 _ _ _ _ _), rdG_flat intC_len (by show 1 ≤ _; decide) (by show 1 ≤ 1; decide) (b5 _ _ _ _ _), fun s hs => by
      simp only [smallP, List.mem_singleton] at hs
      subst hs
      exact ⟨rdG_nil, rdG_nil⟩, ⟨(fun h => by cases h), (fun _ => rfl), fun s hs => by
      simp only [smallP, List.mem_singleton] at hs
      subst hs
      exact ⟨fun _ => rfl, fun _ => rfl⟩⟩, by
      refine ⟨by simp [smallP], by simp [smallP], by simp [smallP], by simp [smallP], by simp [smallP], fun s hs => ?_⟩
      simp only [smallP, List.mem_singleton] at hs
      subst hs
      exact ⟨by decide, by decide⟩⟩
end Go.Proofs.Tryz.K
namespace Go.Proofs.Tryz.K
open Go Go.Ax Go.Proofs.Tryz.S
set_option maxRecDepth 100000
set_option linter.unusedSimpArgs false
set_option linter.unusedVariables false
set_option maxHeartbeats 4000000
variable (F : Fz) (M : Hp)
structure BeB (p : Pg) (r1 r2 r3 : Nat) (F0 : Fz) (M0 : Hp) (wb wn : Value) (lb : List Bl) (M : Hp) : Prop where
  kp : Keep M0 M
  old : Old F0 M
  f1 : M r1 = some ⟨p.cs, 28, 7⟩
  f2 : M r2 = some ⟨[.slice none 0 0, .slice none 0 0, .int .i64 0, .int .i64 0, .int .i64 0], 46, 5⟩
  f3 : M r3 = some ⟨[wb, wn, .int .i64 0, .int .i64 0, .int .i64 0], 46, 5⟩
  own : MineG 2 Bl.cs 54 F0 M0 M wb lb
  owns : ∀ x ∈ lb, OwnG 5 By.cs 83 F0 M (.slice x.lA x.l.length x.lC) x.l
  nums : OwnG 1 intC 3 F0 M wn p.main
section
variable {p : Pg} {r1 r2 r3 : Nat} {F0 : Fz} {M0 M1 M2 : Hp} {wb wn : Value} {lb : List Bl}
theorem BeB.keep (h : BeB p r1 r2 r3 F0 M0 wb wn lb M1) (k : Keep M1 M2) (o : Old F0 M2) : BeB p r1 r2 r3 F0 M0 wb wn lb M2 :=
  ⟨h.kp.trans k, o, k _ _ h.f1, k _ _ h.f2, k _ _ h.f3, h.own.keep k, fun x hx => (h.owns x hx).keep k, h.nums.keep k⟩
theorem BeB.block (h : BeB p r1 r2 r3 F0 M0 wb wn lb M1) (hF3 : F0 r3 = none) (h3 : M0 r3 = none) (h13 : ¬ r1 = r3) (h23 : ¬ r2 = r3) {w : Value} {c : Bl} (hc : OwnG 5 By.cs 83 F0 M1 (.slice c.lA c.l.length c.lC) c.l)
    (fr : ∀ r x, M1 r = some x → ¬ x.elem = 54 → M2 r = some x) (kp : Keep M0 M2) (o : Old F0 M2) (mine : MineG 2 Bl.cs 54 F0 M0 M2 w (lb ++ [c])) :
    BeB p r1 r2 r3 F0 M0 w wn (lb ++ [c]) (M2.upd r3 ⟨[w, wn, .int .i64 0, .int .i64 0, .int .i64 0], 46, 5⟩) := by
  have g3 := fr _ _ h.f3 (by decide : ¬ (46 : Nat) = 54)
  have fr3 : ∀ r x, M2 r = some x → ¬ x.elem = 46 → (M2.upd r3 ⟨[w, wn, .int .i64 0, .int .i64 0, .int .i64 0], 46, 5⟩) r = some x := fun r x hx hne => by
    have : ¬ r = r3 := by rintro rfl; rw [g3] at hx; cases hx; exact hne rfl
    rw [Hp.upd_ne' this]; exact hx
  refine ⟨kp.new h3, o.upd hF3, ?_, ?_, Hp.upd_same _ _ _, ⟨mine.own.frame fr3 (by decide), mine.new⟩, fun x hx => ?_, (h.nums.frame fr (by decide)).frame fr3 (by decide)⟩
  · rw [Hp.upd_ne' h13]; exact fr _ _ h.f1 (by decide : ¬ (28 : Nat) = 54)
  · rw [Hp.upd_ne' h23]; exact fr _ _ h.f2 (by decide : ¬ (46 : Nat) = 54)
  · rcases List.mem_append.1 hx with hx | hx
    · exact ((h.owns x hx).frame fr (by decide)).frame fr3 (by decide)
    · rw [List.mem_singleton.1 hx]; exact (hc.frame fr (by decide)).frame fr3 (by decide)
end
def bkP (b : Bl) : Int × List By := (b.st, b.l)
def varP (n : Int) : Int × List By := (1, List.replicate n.toNat ⟨0, 0, 0, 0, 0⟩)
def beI (p : Pg) (r1 r2 r3 : Nat) (wn : Value) (F0 : Fz) (M0 : Hp) (i : Nat) (σ : Env) (F : Fz) (M : Hp) : Prop :=
  F0 = F ∧ Ax.look σ 4 = some (.int .i64 i) ∧ ∃ wb, ∃ lb : List Bl, BeB p r1 r2 r3 F0 M0 wb wn lb M ∧ lb.map bkP = (0, []) :: (p.vars.take i).map varP
def beN (p : Pg) (r1 r2 r3 : Nat) (wn : Value) (F0 : Fz) (M0 : Hp) (i : Nat) (σ : Env) (F : Fz) (M : Hp) : Prop :=
  F0 = F ∧ Ax.look σ 5 = some (.int .i64 i) ∧ ∃ wb, ∃ lb : List Bl, BeB p r1 r2 r3 F0 M0 wb wn lb M ∧ lb.map bkP = (0, []) :: p.vars.map varP ++ (p.news.take i).map fun _ => (0, [])
def beginR (p : Pg) (F : Fz) (M : Hp) (u : Value) (F' : Fz) (M' : Hp) : Prop := F' = F ∧ Keep M M' ∧ Old F M' ∧ ∃ s : Ste, u = s.val ∧ s.blocks.map bkP = (0, []) :: p.vars.map varP ++ p.news.map (fun _ => (0, [])) ∧ s.next = p.main ∧ s.inp = 0 ∧ s.p = 0 ∧ s.w = 0 ∧ s.rd F M'
theorem k41 (p : Pg) (hp : p.rd F) (hold : Old F M) (hv : ∀ n ∈ p.vars, 0 ≤ n ∧ n ≤ 32) : CallsA Tryz.prog 41 [p.val] F M (beginR p F M) := by
  refine callsA_of hm Tryz.func41 e41 (Nat.le_of_ble_eq_true rfl) ?_
  obtain ⟨w1, w2, _, _, w5, _⟩ := hp.few
  simp only [c41, go_sem]
  intro r1 hF1 hM1
  simp only [go_sem, Nat.reduceAdd]
  intro r2 hF2 hM2
  simp only [upd_none2] at hM2
  simp only [go_sem, reduceIte, Nat.reduceAdd]
  intro rb hFb hMb
  simp only [upd_none2] at hMb
  simp only [go_sem, Nat.reduceEqDiff, hM2, hMb]
  have kpb : Keep M (((M.upd r1 ⟨p.cs, 28, 7⟩).upd r2 ⟨[.slice none 0 0, .slice none 0 0, .int .i64 0, .int .i64 0, .int .i64 0], 46, 5⟩).upd rb ⟨[.int .i64 0, .slice none 0 0], 54, 2⟩) := (by repeat' first | exact Keep.refl _ | (refine Keep.new ?_ (by simp only [*])))
  have oldb : Old F (((M.upd r1 ⟨p.cs, 28, 7⟩).upd r2 ⟨[.slice none 0 0, .slice none 0 0, .int .i64 0, .int .i64 0, .int .i64 0], 46, 5⟩).upd rb ⟨[.int .i64 0, .slice none 0 0], 54, 2⟩) := (by repeat' first | assumption | (refine Old.upd ?_ (by assumption)))
  have f1 : (((M.upd r1 ⟨p.cs, 28, 7⟩).upd r2 ⟨[.slice none 0 0, .slice none 0 0, .int .i64 0, .int .i64 0, .int .i64 0], 46, 5⟩).upd rb ⟨[.int .i64 0, .slice none 0 0], 54, 2⟩) r1 = some ⟨p.cs, 28, 7⟩ := by rw [Hp.upd_ne' (by simp [hMb]), Hp.upd_ne' (by simp [hM2])]; exact Hp.upd_same _ _ _
  have f2 : (((M.upd r1 ⟨p.cs, 28, 7⟩).upd r2 ⟨[.slice none 0 0, .slice none 0 0, .int .i64 0, .int .i64 0, .int .i64 0], 46, 5⟩).upd rb ⟨[.int .i64 0, .slice none 0 0], 54, 2⟩) r2 = some ⟨[.slice none 0 0, .slice none 0 0, .int .i64 0, .int .i64 0, .int .i64 0], 46, 5⟩ := by rw [Hp.upd_ne' (by simp [hMb])]; exact Hp.upd_same _ _ _
  have n2 : M r2 = none := hM2.2
  have nb : M rb = none := hMb.2.2
  have mine0 : MineG 2 Bl.cs 54 F M (((M.upd r1 ⟨p.cs, 28, 7⟩).upd r2 ⟨[.slice none 0 0, .slice none 0 0, .int .i64 0, .int .i64 0, .int .i64 0], 46, 5⟩).upd rb ⟨[.int .i64 0, .slice none 0 0], 54, 2⟩) (.slice (some ⟨rb, 0, none⟩) 1 1) [⟨0, none, 0, []⟩] := MineG.one (x := (⟨0, none, 0, []⟩ : Bl)) hFb nb rfl
  generalize (((M.upd r1 ⟨p.cs, 28, 7⟩).upd r2 ⟨[.slice none 0 0, .slice none 0 0, .int .i64 0, .int .i64 0, .int .i64 0], 46, 5⟩).upd rb ⟨[.int .i64 0, .slice none 0 0], 54, 2⟩) = M1 at *
  have b1 := blk_M (F := F) f1
  clear hM1 hM2 hMb hF1
  with_reducible refine callK_of (k43 F M1 _ _ p.main (hp.main M1 oldb) oldb (by omega)) ?_
  rintro u F' M2 hr
  have ownN := hr.own
  obtain ⟨hG, le, kq, oq, a, c, rfl, rdq⟩ := hr.le (f := intC) intC_len (by omega)
  subst hG
  refine ⟨(fun h => by cases h), ?_⟩
  have old2 := oq oldb
  clear hr le rdq oq
  simp only [go_sem, reduceIte, Nat.reduceEqDiff, Nat.reduceAdd, Nat.reduceLeDiff]
  intro r3 hF3 hM3
  simp only [setH, Hp.upd_upd, go_sem, Nat.reduceEqDiff, Nat.reduceAdd]
  have n3 : M r3 = none := (kpb.trans kq).free hM3
  have h13 : ¬ r1 = r3 := (ne_of_none hM3 (kq _ _ f1)).1
  have h23 : ¬ r2 = r3 := (ne_of_none hM3 (kq _ _ f2)).1
  have h32 : ¬ r3 = r2 := fun h => h23 h.symm
  have kp3 : ∀ e, Keep M2 (M2.upd r3 e) := fun e => (Keep.refl M2).new hM3
  have st : BeB p r1 r2 r3 F' M (.slice (some ⟨rb, 0, none⟩) 1 1) (.slice a p.main.length c) [⟨0, none, 0, []⟩] (M2.upd r3 ⟨[.slice (some ⟨rb, 0, none⟩) 1 1, .slice a p.main.length c, .int .i64 0, .int .i64 0, .int .i64 0], 46, 5⟩) :=
    ⟨(kpb.trans kq).new n3, old2.upd hF3, kp3 _ _ _ (kq _ _ f1), kp3 _ _ _ (kq _ _ f2), Hp.upd_same _ _ _, (mine0.keep kq).keep (kp3 _), fun x hx => by rw [List.mem_singleton.1 hx]; exact .inl ⟨rfl, rfl⟩, ownN.keep (kp3 _)⟩
  clear mine0 f1 f2 kp3 ownN hM3 kq b1
  generalize M2.upd r3 ⟨[.slice (some ⟨rb, 0, none⟩) 1 1, .slice a p.main.length c, .int .i64 0, .int .i64 0, .int .i64 0], 46, 5⟩ = M3 at *
  clear kpb oldb old2
  refine inBlock_st (fun σ F2 M' => F' = F2 ∧ ∃ wb, ∃ lb : List Bl, BeB p r1 r2 r3 F' M wb (.slice a p.main.length c) lb M' ∧ lb.map bkP = (0, []) :: p.vars.map varP) ?_ ?_
  · refine loop_up p.vars.length (beI p r1 r2 r3 (.slice a p.main.length c) F' M) ⟨rfl, (by simp only [go_sem, *] <;> rfl), _, _, st, rfl⟩ ?_
    clear st
    rintro i σ F2 M2 hi hst ⟨rfl, q4, wb, lb, st, hlb⟩
    have q1 := hst 1 rfl
    have q3 := hst 3 rfl
    simp only [go_sem, Nat.reduceEqDiff] at q1 q3
    clear hst
    have b1 := blk_M (F := F') st.f1
    have b3 := blk_M (F := F') st.f3
    by_cases hil : (i : Int) < p.vars.length
    rotate_left
    · rw [List.take_of_length_le (by omega)] at hlb
      simp only [go_sem, reduceIte, Nat.reduceEqDiff, q1, q4, b1, hil]
      exact At.mk ⟨rfl, wb, lb, st, hlb⟩
    have hi0 : (0 : Int) ≤ i := by omega
    have hi1 : i < p.vars.length := by omega
    have ei : IntKind.i64.wrap ((i : Int) + 1) = i + 1 := w64 (by omega) (by omega)
    obtain ⟨b, o, cs, ea, hb, d1⟩ := Ax.int_at (hp.vars M2 st.old) hi1
    have t1 := List.take_succ_eq_append_getElem hi1
    have hvx := hv _ (List.getElem_mem hi1)
    have hll : lb.length = i + 1 := by have := congrArg List.length hlb; simp at this; omega
    generalize p.vars[i] = x at *
    obtain ⟨n, hn⟩ := Int.eq_ofNat_of_zero_le hvx.1
    have hvn : varP x = (1, List.replicate n ⟨0, 0, 0, 0, 0⟩) := by unfold varP; rw [hn]; rfl
    rw [hn] at d1
    simp only [go_sem, reduceIte, Nat.reduceEqDiff, q1, q3, q4, b1, b3, hil, hi0, ea, Int.toNat_natCast, hb, d1]
    with_reducible refine callK_of (k81 F' M2 n (by omega)) ?_
    rintro u F2 M4 hr
    have ownB := hr.own
    obtain ⟨hG, le, kq, oq, a4, c4, rfl, rdq⟩ := hr.le (f := By.cs) By.len (by rw [List.length_replicate]; omega)
    subst hG
    refine ⟨fun _ => le, ?_⟩
    have st4 := st.keep kq (oq st.old)
    obtain ⟨nb', hnb⟩ : ∃ nb' : Bl, nb' = ⟨1, a4, c4, List.replicate n ⟨0, 0, 0, 0, 0⟩⟩ := ⟨_, rfl⟩
    have own' : OwnG 5 By.cs 83 F2 M4 (.slice nb'.lA nb'.l.length nb'.lC) nb'.l := by rw [hnb]; exact ownB
    have hbk : bkP nb' = varP x := by rw [hvn, hnb]; rfl
    simp only [go_sem, reduceIte, Nat.reduceAdd, Nat.reduceLeDiff]
    intro rc hFc hMc
    have eC : [Value.int .i64 1, Value.slice a4 (List.replicate n (⟨0, 0, 0, 0, 0⟩ : By)).length c4] = Bl.cs nb' := by rw [hnb]; rfl
    rw [eC]
    clear eC hnb ownB rdq hr
    simp only [go_sem, Nat.reduceEqDiff]
    have kpc : Keep M4 (M4.upd rc ⟨nb'.cs, 54, 2⟩) := (Keep.refl M4).new hMc
    have stc := st4.keep kpc (st4.old.upd hFc)
    have f3' := stc.f3
    have b3' := blk_M (F := F2) stc.f3
    refine apMG_of (xs := lb) (ys := [nb']) Bl.len Bl.plain (by decide) stc.own stc.kp ⟨rfl, .inr ⟨⟨rc, 0, none⟩, 1, rfl, .inr ⟨rc, 0, _, rfl, blk_upd_same, by simp [Bl.take_all]⟩⟩⟩ (by simp) (by simp; omega) ?_
    rintro _ M5 ⟨g', c'', rfl⟩ fr kp5 o5 mine
    have stN := stc.block hF3 n3 h13 h23 (own'.keep kpc) fr kp5 (o5 stc.old) mine
    rw [show (lb ++ [nb']).length = lb.length + 1 by simp] at stN
    have g3 := fr _ _ stc.f3 (by decide : ¬ (46 : Nat) = 54)
    simp only [setH, go_sem, reduceIte, Nat.reduceEqDiff, Nat.reduceAdd, Nat.reduceLeDiff, q3, q4, g3, ei]
    exact ⟨hi1, rfl, (by simp only [go_sem, *] <;> rfl), _, lb ++ [nb'], stN, by rw [List.map_append, hlb, t1, List.map_append, List.map_singleton, List.map_singleton, hbk]; rfl⟩
  · clear st
    rintro σ F2 M2 hst ⟨rfl, wb, lb, st, hlb⟩
    have q1 := hst 1 rfl
    have q2 := hst 2 rfl
    have q3 := hst 3 rfl
    simp only [go_sem, Nat.reduceEqDiff] at q1 q2 q3
    clear hst
    simp only [go_sem]
    refine loop_up p.news.length (beN p r1 r2 r3 (.slice a p.main.length c) F' M) ⟨rfl, (by simp only [go_sem, *] <;> rfl), _, _, st, by rw [hlb]; simp⟩ ?_
    clear st hlb
    rintro i σ2 F2 M2 hi hst ⟨rfl, q5, wb, lb, st, hlb⟩
    have t1 := hst 1 rfl
    have t2 := hst 2 rfl
    have t3 := hst 3 rfl
    simp only [go_sem, Nat.reduceEqDiff, q1, q2, q3] at t1 t2 t3
    clear hst
    have b1 := blk_M (F := F') st.f1
    have b3 := blk_M (F := F') st.f3
    have f2 := st.f2
    have hll : lb.length = 1 + p.vars.length + i := by have := congrArg List.length hlb; simp at this; omega
    by_cases hil : (i : Int) < p.news.length
    rotate_left
    · rw [List.take_of_length_le (by omega)] at hlb
      obtain ⟨a', c', rfl⟩ := st.own.shape
      simp only [setH, go_sem, reduceIte, Nat.reduceEqDiff, Nat.reduceAdd, t1, t2, t3, q5, b1, b3, f2, hil]
      have fr2 : ∀ r x, M2 r = some x → ¬ x.elem = 46 → (M2.upd r2 ⟨[.slice a' lb.length c', .slice a p.main.length c, .int .i64 0, .int .i64 0, .int .i64 0], 46, 5⟩) r = some x := fun r x hx hne => by
        have : ¬ r = r2 := by rintro rfl; rw [f2] at hx; cases hx; exact hne rfl
        rw [Hp.upd_ne' this]; exact hx
      have o1 := st.own.own.frame fr2 (by decide)
      have o2 := fun x hx => (st.owns x hx).frame fr2 (by decide)
      have o3 := st.nums.frame fr2 (by decide)
      have hle : ∀ x ∈ lb, x.l.length ≤ 32 := fun x hx => by
        have hm : bkP x ∈ lb.map bkP := List.mem_map_of_mem hx
        rw [hlb] at hm
        rcases List.mem_append.1 hm with hm | hm
        · rcases List.mem_cons.1 hm with hm | hm
          · have : x.l = [] := congrArg Prod.snd hm
            rw [this]; simp
          · obtain ⟨n, hn, e⟩ := List.mem_map.1 hm
            have : x.l = List.replicate n.toNat ⟨0, 0, 0, 0, 0⟩ := (congrArg Prod.snd e).symm
            rw [this, List.length_replicate]
            have := hv n hn
            omega
        · obtain ⟨n, hn, e⟩ := List.mem_map.1 hm
          have : x.l = [] := (congrArg Prod.snd e).symm
          rw [this]; simp
      exact endK_same ⟨rfl, st.kp.new n2, st.old.upd hF2, ⟨a', c', lb, a, c, p.main, 0, 0, 0⟩, rfl, hlb, rfl, rfl, rfl, rfl,
        ⟨o1.rd Bl.len (by show lb.length ≤ _; omega), fun x hx => (o2 x hx).rd By.len (by have := hle x hx; omega), o3.rd intC_len (by show p.main.length ≤ _; omega), own_zero o1, own_zero o3, fun x hx => own_zero (o2 x hx)⟩⟩
    have hi0 : (0 : Int) ≤ i := by omega
    have hi1 : i < p.news.length := by omega
    have ei : IntKind.i64.wrap ((i : Int) + 1) = i + 1 := w64 (by omega) (by omega)
    have tk := List.take_succ_eq_append_getElem hi1
    simp only [go_sem, reduceIte, Nat.reduceEqDiff, Nat.reduceAdd, t1, t3, q5, b1, b3, hil]
    intro rc hFc hMc
    simp only [go_sem, Nat.reduceEqDiff]
    have kpc : Keep M2 (M2.upd rc ⟨Bl.cs ⟨0, none, 0, []⟩, 54, 2⟩) := (Keep.refl M2).new hMc
    have stc := st.keep kpc (st.old.upd hFc)
    refine apMG_of (xs := lb) (ys := [(⟨0, none, 0, []⟩ : Bl)]) Bl.len Bl.plain (by decide) stc.own stc.kp ⟨rfl, .inr ⟨⟨rc, 0, none⟩, 1, rfl, .inr ⟨rc, 0, _, rfl, blk_upd_same, by simp [Bl.cs]⟩⟩⟩ (by simp) (by simp; omega) ?_
    rintro _ M5 ⟨g', c'', rfl⟩ fr kp5 o5 mine
    have stN := stc.block hF3 n3 h13 h23 (.inl ⟨rfl, rfl⟩) fr kp5 (o5 stc.old) mine
    rw [show (lb ++ [(⟨0, none, 0, []⟩ : Bl)]).length = lb.length + 1 by simp] at stN
    have g3 := fr _ _ stc.f3 (by decide : ¬ (46 : Nat) = 54)
    simp only [setH, go_sem, reduceIte, Nat.reduceEqDiff, Nat.reduceAdd, Nat.reduceLeDiff, t3, q5, g3, ei]
    exact ⟨hi1, rfl, (by simp only [go_sem, *] <;> rfl), _, lb ++ [⟨0, none, 0, []⟩], stN, by rw [List.map_append, hlb, tk, List.map_append, ← List.append_assoc]; rfl⟩
end Go.Proofs.Tryz.K
namespace Go.Proofs.Tryz.K
open Go Go.Ax Go.Proofs.Tryz.S
set_option maxRecDepth 100000
set_option linter.unusedSimpArgs false
set_option linter.unusedVariables false
set_option maxHeartbeats 4000000
variable (F : Fz) (M : Hp)
theorem beginM (p : Pg) (h : p.rdM F M) (hold : Old F M) (hv : ∀ n ∈ p.vars, 0 ≤ n ∧ n ≤ 32) : CallsA Tryz.prog 41 [p.val] F M (beginR p F M) := by
  refine (CallsA.lendAll (Q := fun v N => ∃ s : Ste, v = s.val ∧ s.blocks.map bkP = (0, []) :: p.vars.map varP ++ p.news.map (fun _ => (0, [])) ∧ s.next = p.main ∧ s.inp = 0 ∧ s.p = 0 ∧ s.w = 0 ∧ s.rd (F.all M) N) hold ((k41 (F.all M) noHp p h.lent (Old.start _) hv).mono ?_)).mono ?_
  · rintro v F' N ⟨rfl, kp, old, s, hs⟩
    exact ⟨rfl, kp, old, s, hs⟩
  · rintro v F' M' ⟨rfl, kp, old, N, rfl, hN, s, h1, h2, h3, h4, h5, h6, h7⟩
    exact ⟨rfl, kp, old, s, h1, h2, h3, h4, h5, h6, h7.all hN⟩
theorem ofM (p : Pg) (s : Ste) (h : p.rdM F M) (hold : Old F M) (hs : s.rd F M) : CallsA Tryz.prog 7 [p.val, s.val] F M (ofR p s F M) := by
  refine (CallsA.lendAll (Q := fun v N => ∃ e : En, ∃ n : Int, v = .tuple #[e.val, .int .i64 n] ∧ e.rd (F.all M) N ∧ ((progC p = true ∧ stateB p s = true ∧ n = 0 ∧ e.pe = justV p s.blocks) ∨ (¬ (progC p = true ∧ stateB p s = true) ∧ n = 1 ∧ e = noEnv))) hold ((k7 (F.all M) noHp p s h.lent (Old.start _) (hs.lent (Old.start _))).mono ?_)).mono ?_
  · rintro v F' N ⟨rfl, kp, old, e, hs⟩
    exact ⟨rfl, kp, old, e, hs⟩
  · rintro v F' M' ⟨rfl, kp, old, N, rfl, hN, e, n, h1, h2, h3⟩
    exact ⟨rfl, kp, old, e, n, h1, h2.all hN, h3⟩
theorem hasM (p : Pg) (e : En) (s : Ste) (hp : p.rdM F M) (h : e.rd F M) (hs : s.rd F M) (hfe : e.cells.length ≤ 100000 ∧ e.news.length ≤ 100000) :
    CallsA Tryz.prog 16 [p.val, e.val, s.val] F M (Same F M (if progC p = true ∧ envB p e.pe = true ∧ stateB p s = true then .tuple #[.bool (inEnv p e.pe s.blocks), .int .i64 0] else .tuple #[.bool false, .int .i64 1])) :=
  CallsA.lendSame (k16 (F.all M) noHp p e s hp.lent (Old.start _) (h.lent (Old.start _)) (hs.lent (Old.start _)) hfe)
theorem exactM (p : Pg) (e : En) (s : Ste) (hp : p.rdM F M) (h : e.rd F M) (hs : s.rd F M) (hc : progC p = true) (hfm : FitM p s.blocks) (hfc : (∀ c ∈ e.cells, FitC p s.blocks c.pc) ∧ e.news.length = p.news.length) :
    CallsA Tryz.prog 11 [p.val, e.val, s.val] F M (Same F M (.bool (exactB p e.pe s.blocks))) :=
  CallsA.lendSame (k11 (F.all M) noHp p e s hp.lent (Old.start _) (h.lent (Old.start _)) (hs.lent (Old.start _)) hc hfm hfc)
theorem small_may (a b c : Option Addr) : progC (smallP a b c) = true := by rfl
theorem small_blocks {a b c : Option Addr} {m : List Bl} (h : m.map bkP = (0, []) :: (smallP a b c).vars.map varP ++ (smallP a b c).news.map (fun _ => (0, []))) : ∃ a0 c0 a1 c1, m = [⟨0, a0, c0, []⟩, ⟨1, a1, c1, [⟨0, 0, 0, 0, 0⟩]⟩] := by
  have h : m.map bkP = [(0, []), (1, [⟨0, 0, 0, 0, 0⟩])] := h
  match m, h with
  | [x, y], h =>
    simp only [List.map_cons, List.map_nil, List.cons.injEq, and_true] at h
    obtain ⟨h1, h2⟩ := h
    obtain ⟨s1, a1, c1, l1⟩ := x
    obtain ⟨s2, a2, c2, l2⟩ := y
    simp only [bkP, Prod.mk.injEq] at h1 h2
    obtain ⟨rfl, rfl⟩ := h1
    obtain ⟨rfl, rfl⟩ := h2
    exact ⟨a1, c1, a2, c2, rfl⟩
  | [], h => simp at h
  | [x], h => simp at h
  | x :: y :: z :: m, h => simp at h
theorem small_exact (a b c a0 a1 : Option Addr) (c0 c1 : Nat) : exactB (smallP a b c) (justV (smallP a b c) [⟨0, a0, c0, []⟩, ⟨1, a1, c1, [⟨0, 0, 0, 0, 0⟩]⟩]) [⟨0, a0, c0, []⟩, ⟨1, a1, c1, [⟨0, 0, 0, 0, 0⟩]⟩] = true := by rfl
theorem small_env (a b c a0 a1 : Option Addr) (c0 c1 : Nat) : envB (smallP a b c) (justV (smallP a b c) [⟨0, a0, c0, []⟩, ⟨1, a1, c1, [⟨0, 0, 0, 0, 0⟩]⟩]) = true := by rfl
theorem rdM_keep {F : Fz} {M M' : Hp} {p : Pg} (h : p.rdM F M) (kp : Keep M M') (o : Old F M') : p.rdM F M' :=
  ⟨h.vars.keep kp o, h.news.keep kp o, h.exprs.keep kp o, h.stmts.keep kp o, h.main.keep kp o, fun s hs => ⟨(h.bodies s hs).1.keep kp o, (h.bodies s hs).2.keep kp o⟩, h.zero, h.few⟩
theorem k13 (hold : Old F M) : CallsA Tryz.prog 13 [] F M (Same F M (.bool true)) := by
  refine callsA_of hm Tryz.func13 e13 (Nat.le_of_ble_eq_true rfl) ?_
  simp only [c13, go_sem]
  with_reducible refine callK_of (k40 F M hold) ?_
  rintro u F' M1 ⟨rfl, kp1, old1, a, b, c, rfl, hp1⟩
  refine ⟨(fun h => by cases h), ?_⟩
  have hmay := small_may a b c
  have hfl : ∀ n ∈ (smallP a b c).vars, 0 ≤ n ∧ n ≤ 32 := fun n hn => by
    simp only [smallP, List.mem_singleton] at hn
    omega
  have hsb : ∀ {m : List Bl}, m.map bkP = (0, []) :: (smallP a b c).vars.map varP ++ (smallP a b c).news.map (fun _ => (0, [])) → ∃ a0 c0 a1 c1, m = [⟨0, a0, c0, []⟩, ⟨1, a1, c1, [⟨0, 0, 0, 0, 0⟩]⟩] := fun h => small_blocks h
  have hmn : (smallP a b c).main = [0] := rfl
  have hex := fun a0 a1 c0 c1 => small_exact a b c a0 a1 c0 c1
  have hst : ∀ s : Ste, (∃ a0 c0 a1 c1, s.blocks = [⟨0, a0, c0, []⟩, ⟨1, a1, c1, [⟨0, 0, 0, 0, 0⟩]⟩]) → s.next = [0] → s.inp = 0 → s.p = 0 → s.w = 0 → stateB (smallP a b c) s = true := by
    rintro ⟨x1, x2, m, x3, x4, nx, i1, i2, i3⟩ ⟨a0, c0, a1, c1, h1⟩ h2 h3 h4 h5
    simp only at h1 h2 h3 h4 h5
    subst h1 h2 h3 h4 h5
    rfl
  have hev := fun a0 a1 c0 c1 => small_env a b c a0 a1 c0 c1
  generalize smallP a b c = p at *
  simp only [go_sem, Nat.reduceAdd]
  intro r1 hF1 hM1
  simp only [setH, Hp.upd_upd, go_sem, reduceIte, Nat.reduceEqDiff, Nat.reduceAdd]
  have kp2 : Keep M (M1.upd r1 ⟨p.cs, 28, 7⟩) := kp1.new (kp1.free hM1)
  have kp12 : Keep M1 (M1.upd r1 ⟨p.cs, 28, 7⟩) := (Keep.refl M1).new hM1
  have old2 : Old F' (M1.upd r1 ⟨p.cs, 28, 7⟩) := old1.upd hF1
  have f1 : (M1.upd r1 ⟨p.cs, 28, 7⟩) r1 = some ⟨p.cs, 28, 7⟩ := Hp.upd_same _ _ _
  have hp2 := rdM_keep hp1 kp12 old2
  generalize M1.upd r1 ⟨p.cs, 28, 7⟩ = M2 at *
  clear hp1 kp12 kp1 old1 hM1 hF1
  with_reducible refine callK_of (beginM F' M2 p hp2 old2 hfl) ?_
  rintro u F2 M3 ⟨rfl, kp3, old3, s, rfl, hb, hn, h0, h1, h2, hs⟩
  refine ⟨(fun h => by cases h), ?_⟩
  obtain ⟨a0, c0, a1, c1, hm'⟩ := hsb hb
  have hst := hst s ⟨a0, c0, a1, c1, hm'⟩ (by rw [hn, hmn]) h0 h1 h2
  simp only [go_sem, Nat.reduceAdd]
  intro r2 hF2 hM2
  simp only [setH, Hp.upd_upd, go_sem, Nat.reduceEqDiff, Nat.reduceAdd]
  have kp24 : Keep M2 (M3.upd r2 ⟨s.cs, 46, 5⟩) := kp3.new (kp3.free hM2)
  have kp34 : Keep M3 (M3.upd r2 ⟨s.cs, 46, 5⟩) := (Keep.refl M3).new hM2
  have old4 : Old F2 (M3.upd r2 ⟨s.cs, 46, 5⟩) := old3.upd hF2
  have f2 : (M3.upd r2 ⟨s.cs, 46, 5⟩) r2 = some ⟨s.cs, 46, 5⟩ := Hp.upd_same _ _ _
  generalize M3.upd r2 ⟨s.cs, 46, 5⟩ = M4 at *
  have hp4 := rdM_keep hp2 kp24 old4
  have hs4 := hs.keep kp34 old4
  have f1' := kp24 _ _ f1
  have b1 := blk_M (F := F2) f1'
  have b2 := blk_M (F := F2) f2
  clear kp3 kp34 old3 hF2 hM2 hp2 hs
  have hnoE : envB p (En.pe ⟨true, none, 0, [], none, 0, []⟩) = true := by unfold envB; simp [En.pe]
  have hnoR : (⟨true, none, 0, [], none, 0, []⟩ : En).rd F2 M4 := ⟨rdG_nil, (fun x hx => by cases hx), rdG_nil, (fun _ => rfl), (fun _ => rfl), (fun x hx => by cases hx)⟩
  have hnoI : inEnv p (En.pe ⟨true, none, 0, [], none, 0, []⟩) s.blocks = false := rfl
  have kH := hasM F2 M4 p ⟨true, none, 0, [], none, 0, []⟩ s hp4 hnoR hs4 ⟨by decide, by decide⟩
  rw [if_pos ⟨hmay, hnoE, hst⟩, hnoI] at kH
  have eN : Value.agg #[.bool true, .slice none 0 0, .slice none 0 0] = En.val ⟨true, none, 0, [], none, 0, []⟩ := rfl
  simp only [go_sem, reduceIte, Nat.reduceEqDiff, Nat.reduceAdd, Nat.reduceLeDiff, b1, b2, eN]
  with_reducible refine callK_same kH ?_
  simp only [go_sem, reduceIte, Nat.reduceEqDiff, b1, b2]
  with_reducible refine callK_of (ofM F2 M4 p s hp4 old4 hs4) ?_
  rintro u F3 M5 ⟨rfl, kp5, old5, x, n, rfl, hx, hcase⟩
  refine ⟨(fun h => by cases h), ?_⟩
  rcases hcase with ⟨_, _, rfl, hpe⟩ | ⟨h, _⟩
  rotate_left
  · exact absurd ⟨hmay, hst⟩ h
  have hp5 := rdM_keep hp4 kp5 old5
  have hs5 := hs4.keep kp5 old5
  have f1'' := kp5 _ _ f1'
  have f2'' := kp5 _ _ f2
  simp only [go_sem, Nat.reduceEqDiff, Nat.reduceAdd]
  intro r5 hF5 hM5
  simp only [setH, Hp.upd_upd, go_sem, Nat.reduceEqDiff, Nat.reduceAdd]
  have kp6 : Keep M5 (M5.upd r5 ⟨x.cs, 38, 3⟩) := (Keep.refl M5).new hM5
  have old6 : Old F3 (M5.upd r5 ⟨x.cs, 38, 3⟩) := old5.upd hF5
  have f5 : (M5.upd r5 ⟨x.cs, 38, 3⟩) r5 = some ⟨x.cs, 38, 3⟩ := Hp.upd_same _ _ _
  generalize M5.upd r5 ⟨x.cs, 38, 3⟩ = M6 at *
  have hp6 := rdM_keep hp5 kp6 old6
  have hs6 := hs5.keep kp6 old6
  have hx6 := hx.keep kp6 old6
  have b16 := blk_M (F := F3) (kp6 _ _ f1'')
  have b26 := blk_M (F := F3) (kp6 _ _ f2'')
  have b56 := blk_M (F := F3) f5
  have hfm : FitM p s.blocks := FitM.of (by unfold stateB at hst; simp only [Bool.and_eq_true] at hst; exact hst.2)
  have hevx : envB p x.pe = true := by rw [hpe, hm']; exact hev _ _ _ _
  have hnox : x.no = false := by
    have : x.pe.no = false := by rw [hpe]; rfl
    exact this
  have hec := envB_cells hevx hnox
  have kE := exactM F3 M6 p x s hp6 hx6 hs6 hmay hfm ⟨fun c hc => FitC.of hfm (hec.1 _ (by simp only [En.pe]; exact List.mem_map_of_mem hc)), hec.2.1⟩
  have hexx : exactB p x.pe s.blocks = true := by rw [hpe, hm']; exact hex _ _ _ _
  rw [hexx] at kE
  with_reducible refine callK_same (k9 F3 M6 0) ?_
  simp only [go_sem, reduceIte, Nat.reduceEqDiff]
  with_reducible refine callK_same (k9 F3 M6 0) ?_
  simp only [go_sem, reduceIte, Nat.reduceEqDiff, b16, b26, b56]
  with_reducible refine callK_same kE ?_
  simp only [go_sem, reduceIte, Nat.reduceEqDiff]
  exact endK_keep (kp2.trans (kp24.trans (kp5.trans kp6))) ⟨rfl, rfl, rfl⟩
end Go.Proofs.Tryz.K
namespace Go.Ax
open Go
set_option linter.unusedVariables false
set_option linter.unusedSimpArgs false
theorem n8 {n : Int} (h : 0 ≤ n ∧ n ≤ 255) : isN n 8 = true := by
  simp only [isN, show mostV 8 = 255 from by decide, Bool.and_eq_true, decide_eq_true_eq]; exact h
theorem span_1 (ptr : Int) : spanK ptr 1 = 1 := by simp [spanK]; decide
theorem span_7 (ptr : Int) : spanK ptr 7 = ptr := by simp [spanK]
theorem span_0 (ptr : Int) : spanK ptr 0 = 1 := by simp [spanK]
theorem span_11 (ptr : Int) : spanK ptr 11 = 1 := by simp [spanK]
structure CellOk (p : Pg) (b : Nat) (l : List By) (at_ : Nat) (c : Pc) : Prop where
  cell : cellB p.ptr (sizesL p) c = true
  blk : c.b = b
  pos : (at_ : Int) ≤ c.p
  span : 1 ≤ spanK p.ptr c.k
  fits : c.p + spanK p.ptr c.k ≤ l.length
  say : sayV p.big c ((l.drop c.p.toNat).take (spanK p.ptr c.k).toNat) = true
  sole : soleB c = true
theorem byte_ptr {x : By} (h : byteB x = true) (hb : 0 < x.b) : x.st = 2 := by
  unfold byteB at h
  split at h
  · have := of_decide_eq_true h
    rw [this] at hb; exact absurd hb (by decide)
  split at h
  · simp only [Bool.and_eq_true, decide_eq_true_eq] at h; omega
  split at h
  · assumption
  · cases h
theorem take1 {l : List By} {i : Nat} (h : i < l.length) : (l.drop i).take 1 = [byAt l i] := by
  unfold byAt
  rw [List.getElem?_eq_getElem h, List.drop_eq_getElem_cons h]; rfl
theorem byAt_one {x : By} : byAt [x] 0 = x := rfl
theorem byAt_in {l : List By} {i : Nat} (h : i < l.length) : byAt l i ∈ l := by
  unfold byAt; rw [List.getElem?_eq_getElem h]; exact List.getElem_mem h
theorem pt_in {p : Pg} (hc : progC p = true) {x : By} (h : byteB x = true) (hi : ptrIn (sizesL p) x = true) (h2 : x.st = 2) : (1 ≤ x.b ∧ x.b ≤ (sizesL p).length - 1 ∧ x.b ≤ 6) ∧ 0 ≤ x.o ∧ x.o ≤ 32 ∧ 0 ≤ x.i ∧ x.i ≤ 3 := by
  have hs := sizes_in hc x.b
  have hl := sizes_len p
  obtain ⟨_, h4, h5, _⟩ := progC_pre hc
  simp only [byteB, h2, Int.reduceEq, if_false, if_true, Bool.and_eq_true, decide_eq_true_eq] at h
  simp only [ptrIn, h2, decide_true, Bool.true_and, Bool.not_eq_true', Bool.or_eq_false_iff, decide_eq_false_iff_not] at hi
  omega
theorem pt_nat {b o : Int} (hb : 1 ≤ b ∧ b ≤ 6) (ho : 0 ≤ o ∧ o ≤ 32) : ptrsB [⟨b, V.just 8 o⟩] = true ∧ onlyP [⟨b, V.just 8 o⟩] = (⟨true, 0, b, o⟩, 1) := by
  obtain ⟨b, rfl⟩ := Int.eq_ofNat_of_zero_le (by omega : 0 ≤ b)
  obtain ⟨o, rfl⟩ := Int.eq_ofNat_of_zero_le ho.1
  have := pt_one b (by omega) o (by omega) (.inl (by omega))
  exact ⟨this.1, this.2.1⟩
theorem points_one {b o : Int} (ho : 0 ≤ o ∧ o ≤ 32) : pointsB [⟨b, V.just 8 o⟩] b o = true := by
  simp [pointsB, just_has ho.1 (by omega)]
theorem known_one {b n : Int} {v : V} (h : b ≤ n) : knownB [⟨b, v⟩] n = true := by simp [knownB, h]
theorem single_ok {p : Pg} (hc : progC p = true) {b : Nat} {l : List By} (hb : 1 ≤ b ∧ b < (sizesL p).length) (hsz : (l.length : Int) = szAt (sizesL p) b) (hby : ∀ x ∈ l, byteB x = true) (hpt : ∀ x ∈ l, ptrIn (sizesL p) x = true) {at_ : Nat} (hat : at_ < l.length) :
    CellOk p b l at_ (singleV b at_ (byAt l at_)) ∧ (singleV b at_ (byAt l at_)).p = at_ ∧ spanK p.ptr (singleV b at_ (byAt l at_)).k = 1 := by
  have hx := byAt_in hat
  have t1 := take1 hat
  have h1 := hby _ hx
  have h2 := hpt _ hx
  generalize byAt l at_ = x at *
  by_cases s1 : x.st = 1
  · have e : singleV b at_ x = ⟨b, at_, 1, V.just 8 x.n, []⟩ := by simp [singleV, s1]
    simp only [byteB, s1, Int.reduceEq, if_false, if_true, Bool.and_eq_true, decide_eq_true_eq] at h1
    have hn : isN x.n 8 = true := n8 (by omega)
    have ok := just_ok (w := 8) (by decide) hn
    have is1 := just_is1 (w := 8) (by decide) hn
    refine ⟨?_, by rw [e], by rw [e]; exact span_1 _⟩
    rw [e]
    refine ⟨?_, rfl, Int.le_refl _, by rw [span_1]; omega, by rw [span_1]; show (at_ : Int) + 1 ≤ _; omega, ?_, ?_⟩
    · have hcb : contentB ⟨b, at_, 1, V.just 8 x.n, []⟩ = true := by
        have e1 : wK 1 = 8 := by decide
        simp [contentB, absB, ok, e1, V.just_w, isS]
      simp only [cellB, hcb, span_1, knownB, List.all_nil, decide_true, Bool.and_true, Bool.true_and, Bool.and_eq_true, decide_eq_true_eq, Int.tmod_one]
      omega
    · rw [span_1]
      show sayV p.big ⟨b, at_, 1, V.just 8 x.n, []⟩ ((l.drop at_).take 1) = true
      rw [t1]
      have hr : readV p.big 1 [x] = (⟨false, numL (ordL p.big [x]), 0, 0⟩, 0) := by
        simp [readV, stIs, s1]
      have ho : ordL p.big [x] = [x] := by unfold ordL; split <;> rfl
      have hnum : numL [x] = x.n := by
        obtain ⟨n, hn'⟩ := Int.eq_ofNat_of_zero_le (by omega : 0 ≤ x.n)
        have hn2 : n < 256 := by omega
        have key : ∀ n : Nat, n < 256 → bor .i64 (shlv .i64 0 8) (n : Int) = n := by decide +kernel
        show bor .i64 (shlv .i64 0 8) x.n = x.n
        rw [hn']; exact key n hn2
      simp only [sayV, Int.reduceEq, if_false, hr, ho, hnum, hasB, decide_true, Bool.true_and]
      rw [just_has (by omega) (by omega)]; simp
    · simp [soleB, onlyB, is1.1]
  by_cases s2 : x.st = 2
  · have e : singleV b at_ x = ⟨b, at_, 11, V.just 8 x.i, [⟨x.b, V.just 8 x.o⟩]⟩ := by simp [singleV, s2]
    obtain ⟨q1, q2, q3, q4, q5⟩ := pt_in hc h1 h2 s2
    have hn : isN x.i 8 = true := n8 (by omega)
    have ok := just_ok (w := 8) (by decide) hn
    have is1 := just_is1 (w := 8) (by decide) hn
    have pn := pt_nat ⟨q1.1, q1.2.2⟩ ⟨q2, q3⟩
    refine ⟨?_, by rw [e], by rw [e]; exact span_11 _⟩
    rw [e]
    refine ⟨?_, rfl, Int.le_refl _, by rw [span_11]; omega, by rw [span_11]; show (at_ : Int) + 1 ≤ _; omega, ?_, ?_⟩
    · simp only [cellB, contentB, span_11, Int.reduceEq, if_false, if_true, ok, pn.1, known_one q1.2.1, V.just_w, decide_true, Bool.and_true, Bool.true_and, Bool.and_eq_true, decide_eq_true_eq, Int.tmod_one]
      omega
    · rw [span_11]
      show sayV p.big ⟨b, at_, 11, V.just 8 x.i, [⟨x.b, V.just 8 x.o⟩]⟩ ((l.drop at_).take 1) = true
      rw [t1]
      simp only [sayV, Int.reduceEq, if_false, if_true, byAt_one, s2, decide_true, Bool.true_and, points_one ⟨q2, q3⟩, Bool.and_true]
      rw [just_has (by omega) (by omega)]; simp
    · simp [soleB, onlyB, is1.1, pn.2]
  · have e : singleV b at_ x = ⟨b, at_, 0, V.zero, []⟩ := by simp [singleV, s1, s2]
    have s0 : x.st = 0 := by
      simp only [byteB, s1, s2, if_false] at h1
      by_cases s0 : x.st = 0
      · exact s0
      · simp [s0] at h1
    refine ⟨?_, by rw [e], by rw [e]; exact span_0 _⟩
    rw [e]
    refine ⟨?_, rfl, Int.le_refl _, by rw [span_0]; omega, by rw [span_0]; show (at_ : Int) + 1 ≤ _; omega, ?_, ?_⟩
    · simp only [cellB, contentB, span_0, if_true, knownB, List.all_nil, List.length_nil, decide_true, Bool.and_true, Bool.true_and, Bool.and_eq_true, decide_eq_true_eq, Int.tmod_one]
      omega
    · rw [span_0]
      show sayV p.big ⟨b, at_, 0, V.zero, []⟩ ((l.drop at_).take 1) = true
      rw [t1]
      simp [sayV, byAt_one, s0]
    · simp [soleB]
theorem ptr_ok {p : Pg} (hc : progC p = true) {b : Nat} {l : List By} (hb : 1 ≤ b ∧ b < (sizesL p).length) (hsz : (l.length : Int) = szAt (sizesL p) b) (hby : ∀ x ∈ l, byteB x = true) (hpt : ∀ x ∈ l, ptrIn (sizesL p) x = true) {at_ : Nat} (hat : at_ < l.length)
    (hw : (wholeV p.big p.ptr.toNat l at_).2 = true) :
    CellOk p b l at_ (ptrC b at_ (wholeV p.big p.ptr.toNat l at_).1) ∧ at_ + p.ptr.toNat ≤ l.length := by
  have hp := (progC_pre hc).1
  unfold wholeV at hw ⊢
  split at hw
  rotate_left
  · cases hw
  rename_i hcond
  rw [if_pos hcond]
  obtain ⟨hmod, hfit⟩ := hcond
  simp only [Bool.and_eq_true, decide_eq_true_eq] at hw
  refine ⟨?_, hfit⟩
  have hcut : ((l.drop at_).take p.ptr.toNat).length = p.ptr.toNat := cut_len hfit
  have hmem : ∀ x ∈ (l.drop at_).take p.ptr.toNat, x ∈ l := fun x hx => List.mem_of_mem_drop (List.mem_of_mem_take hx)
  have e7 : spanK p.ptr 7 = p.ptr := span_7 _
  obtain ⟨c, hcc⟩ : ∃ c, c = (l.drop at_).take p.ptr.toNat := ⟨_, rfl⟩
  rw [← hcc] at hw hcut hmem ⊢
  obtain ⟨s, hs⟩ : ∃ s, s = readV p.big 7 c := ⟨_, rfl⟩
  rw [← hs] at hw ⊢
  have hb1 : s.1.b = (byAt c 0).b ∧ s.1.o = (byAt c 0).o := by
    have h2 := hw.1
    rw [hs] at h2 ⊢
    simp only [readV] at h2 ⊢
    split at h2
    · cases h2
    rename_i h0
    rw [if_neg h0]
    simp only [if_true, pointerV] at h2 ⊢
    split at h2
    · rename_i h3; rw [if_pos h3]; exact ⟨rfl, rfl⟩
    · cases h2
  have hx := byAt_in (l := c) (i := 0) (by omega)
  have hx1 := hby _ (hmem _ hx)
  have hx2 := hpt _ (hmem _ hx)
  have hst := byte_ptr hx1 (by omega)
  obtain ⟨q1, q2, q3, _, _⟩ := pt_in hc hx1 hx2 hst
  have pn := pt_nat (b := s.1.b) (o := s.1.o) (by omega) (by omega)
  have hpo := points_one (b := s.1.b) (o := s.1.o) (by omega)
  have hkn := known_one (b := s.1.b) (n := ((sizesL p).length : Int) - 1) (v := V.just 8 s.1.o) (by omega)
  unfold ptrC
  refine ⟨?_, rfl, Int.le_refl _, by simp only [e7]; omega, by simp only [e7]; omega, ?_, ?_⟩
  · have hm : ((at_ : Int)).tmod p.ptr = 0 := by
      rw [Int.tmod_eq_emod_of_nonneg (by omega)]
      rcases hp with h | h
      · rw [h] at hmod ⊢
        have hmod : at_ % 2 = 0 := hmod
        omega
      · rw [h] at hmod ⊢
        have hmod : at_ % 4 = 0 := hmod
        omega
    have hcb : contentB ⟨b, at_, 7, V.zero, [⟨s.1.b, V.just 8 s.1.o⟩]⟩ = true := by
      simp [contentB, absB, pn.1, isS]
    simp only [cellB, hcb, e7, hkn, hm, decide_true, Bool.and_true, Bool.true_and, Bool.and_eq_true, decide_eq_true_eq]
    omega
  · simp only [e7, Int.toNat_natCast]
    rw [← hcc]
    simp only [sayV, Int.reduceEq, if_false, hasB, if_true, ← hs, hw.1, decide_true, Bool.true_and]
    exact hpo
  · simp [soleB, onlyB, pn.2]
theorem step_ok {p : Pg} (hc : progC p = true) {b : Nat} {l : List By} (hb : 1 ≤ b ∧ b < (sizesL p).length) (hsz : (l.length : Int) = szAt (sizesL p) b) (hby : ∀ x ∈ l, byteB x = true) (hpt : ∀ x ∈ l, ptrIn (sizesL p) x = true) {at_ : Nat} (hat : at_ < l.length) :
    CellOk p b l at_ (stepV p.big p.ptr.toNat b l at_).1 ∧ (stepV p.big p.ptr.toNat b l at_).1.p = at_ ∧ ((stepV p.big p.ptr.toNat b l at_).2 : Int) = at_ + spanK p.ptr (stepV p.big p.ptr.toNat b l at_).1.k := by
  have hp := (progC_pre hc).1
  unfold stepV
  split
  · rename_i hw
    obtain ⟨h1, h2⟩ := ptr_ok hc hb hsz hby hpt hat hw
    refine ⟨h1, rfl, ?_⟩
    show ((at_ + p.ptr.toNat : Nat) : Int) = at_ + spanK p.ptr 7
    rw [span_7]; omega
  · obtain ⟨h1, h2, h3⟩ := single_ok hc hb hsz hby hpt hat
    exact ⟨h1, h2, by rw [h3]; rfl⟩
theorem CellOk.le {p : Pg} {b : Nat} {l : List By} {i j : Nat} {c : Pc} (h : CellOk p b l j c) (hij : i ≤ j) : CellOk p b l i c := ⟨h.cell, h.blk, by have := h.pos; omega, h.span, h.fits, h.say, h.sole⟩
theorem cellsAt_ok {p : Pg} (hc : progC p = true) {b : Nat} {l : List By} (hb : 1 ≤ b ∧ b < (sizesL p).length) (hsz : (l.length : Int) = szAt (sizesL p) b) (hby : ∀ x ∈ l, byteB x = true) (hpt : ∀ x ∈ l, ptrIn (sizesL p) x = true) : ∀ (k at_ : Nat),
    (∀ c ∈ cellsAt p.big p.ptr.toNat b l k at_, CellOk p b l at_ c) ∧ (cellsAt p.big p.ptr.toNat b l k at_).Pairwise (fun x y => x.p < y.p) ∧ (cellsAt p.big p.ptr.toNat b l k at_).length ≤ k
      ∧ (l.length ≤ at_ + k → ∀ j, at_ ≤ j → j < l.length → ∃ c ∈ cellsAt p.big p.ptr.toNat b l k at_, c.p ≤ j ∧ (j : Int) < c.p + spanK p.ptr c.k)
  | 0, at_ => ⟨(fun c hc => by cases hc), List.Pairwise.nil, Nat.le_refl _, fun h j h1 h2 => by omega⟩
  | k + 1, at_ => by
    rw [cellsAt]
    split
    · rename_i hat
      obtain ⟨s1, s2, s3⟩ := step_ok hc hb hsz hby hpt hat
      have h1 := s1.span
      generalize stepV p.big p.ptr.toNat b l at_ = s at *
      obtain ⟨i1, i2, i3, i4⟩ := cellsAt_ok hc hb hsz hby hpt k s.2
      refine ⟨fun c hc => ?_, ?_, by simp only [List.length_cons]; omega, fun h j h1 h2 => ?_⟩
      · rcases List.mem_cons.1 hc with rfl | hc
        · exact s1
        · exact (i1 c hc).le (by omega)
      · refine List.pairwise_cons.2 ⟨fun c hc => ?_, i2⟩
        have := (i1 c hc).pos
        omega
      · by_cases hj : j < s.2
        · exact ⟨s.1, by simp, by omega, by omega⟩
        · obtain ⟨c, hc, h3⟩ := i4 (by omega) j (by omega) h2
          exact ⟨c, List.mem_cons_of_mem _ hc, h3⟩
    · exact ⟨(fun c hc => by cases hc), List.Pairwise.nil, by simp, fun h j h1 h2 => by omega⟩
theorem justL_ok {p : Pg} (hc : progC p = true) {m : List Bl} (hm : FitM p m) : ∀ n, n ≤ m.length →
    (∀ c ∈ justL p.big p.ptr.toNat m n, (cellB p.ptr (sizesL p) c = true ∧ saysB p m c = true ∧ soleB c = true) ∧ c.b < n) ∧ (justL p.big p.ptr.toNat m n).Pairwise (fun x y => beforeB x y = true) ∧ (justL p.big p.ptr.toNat m n).length ≤ 32 * (n - 1)
      ∧ ∀ b, b < n → ∀ j, j < (blAt m b).l.length → ∃ c ∈ justL p.big p.ptr.toNat m n, coverB p.ptr b j c = true
  | 0, _ => ⟨(fun c hc => by cases hc), List.Pairwise.nil, Nat.le_refl _, fun b hb => by omega⟩
  | n + 1, hn => by
    obtain ⟨i1, i2, i3, i4⟩ := justL_ok hc hm n (by omega)
    have hl := sizes_len p
    have hl2 := hm.len
    rw [justL]
    have hbl := blAt_get (m := m) (i := n) (by omega)
    by_cases hs : (m[n]'(by omega)).st = 1
    rotate_left
    · have hd : (blAt m (n : Int)).l = [] := by rw [hbl]; exact hm.dead n (by omega) hs
      rw [hd]
      simp only [List.length_nil, cellsAt, List.append_nil]
      refine ⟨fun c hc => ⟨(i1 c hc).1, by have := (i1 c hc).2; omega⟩, i2, by omega, fun b hb j hj => ?_⟩
      by_cases hbn : b = n
      · rw [hbn, hd] at hj; simp at hj
      · exact i4 b (by omega) j hj
    have hn1 : 1 ≤ n := by
      rcases Nat.eq_zero_or_pos n with h0 | h0
      · subst h0
        have := hm.zero (by omega)
        omega
      · exact h0
    obtain ⟨b1, b2, b3, b4⟩ := hm.bytes n (by omega)
    have b5 := hm.size n (by omega) hs
    have b6 := List.all_eq_true.1 (hm.ptrs n (by omega))
    have hst : (blAt m (n : Int)).st = 1 := by rw [hbl]; exact hs
    rw [← hbl] at b1 b4 b5 b6
    obtain ⟨l, hll⟩ : ∃ l, l = (blAt m (n : Int)).l := ⟨_, rfl⟩
    have hlc := hll
    rw [← hll] at b1 b4 b5 b6 ⊢
    obtain ⟨c1, c2, c3, c4⟩ := cellsAt_ok hc ⟨hn1, by omega⟩ b5 b1 b6 l.length 0
    generalize cellsAt p.big p.ptr.toNat n l l.length 0 = cs at *
    refine ⟨fun c hcm => ?_, ?_, by simp only [List.length_append]; omega, fun b hb j hj => ?_⟩
    · rcases List.mem_append.1 hcm with hcm | hcm
      · exact ⟨(i1 c hcm).1, by have := (i1 c hcm).2; omega⟩
      · have ok := c1 c hcm
        refine ⟨⟨ok.cell, ?_, ok.sole⟩, by rw [ok.blk]; omega⟩
        unfold saysB cutB
        rw [ok.blk, hst, ← hll, ok.say]; rfl
    · refine List.pairwise_append.2 ⟨i2, ?_, fun x hx y hy => ?_⟩
      · refine List.Pairwise.imp_of_mem (fun {x y} hx hy hxy => ?_) c2
        have e1 := (c1 x hx).blk
        have e2 := (c1 y hy).blk
        unfold beforeB
        rw [if_pos (by rw [e1, e2]), if_neg (by omega)]
        exact decide_eq_true hxy
      · have e1 := (i1 x hx).2
        have e2 := (c1 y hy).blk
        unfold beforeB
        rw [if_neg (by omega)]
        exact decide_eq_true (by omega)
    · by_cases hbn : b = n
      · subst hbn
        rw [← hlc] at hj
        obtain ⟨c, hcm, h3, h4⟩ := c4 (by omega) j (by omega) hj
        refine ⟨c, List.mem_append_right _ hcm, ?_⟩
        have ok := c1 c hcm
        simp [coverB, ok.blk, h3, h4, ok.sole]
      · obtain ⟨c, hcm, h3⟩ := i4 b (by omega) j hj
        exact ⟨c, List.mem_append_left _ hcm, h3⟩
theorem cellsUp_of {ptr : Int} {sz : List Int} {l : List Pc} (h : ∀ c ∈ l, cellB ptr sz c = true) (hp : l.Pairwise (fun x y => beforeB x y = true)) : cellsUp ptr sz l l.length = true := by
  unfold cellsUp
  rw [List.all_eq_true]
  intro i hi
  have hi := List.mem_range.1 hi
  rw [upAt_get (List.getElem?_eq_getElem hi), h _ (List.getElem_mem hi), Bool.true_and]
  by_cases h0 : i = 0
  · simp [h0]
  · have := List.pairwise_iff_getElem.1 hp (i - 1) i (by omega) hi (by omega)
    rw [prevOk_get (List.getElem?_eq_getElem (by omega : i - 1 < l.length)), this]; simp
theorem st_in {s : Int} (h : 0 ≤ s ∧ s ≤ 3) : inB (shlv .i64 1 s) = true ∧ band .i64 (shrv .i64 (shlv .i64 1 s) s) 1 = 1 := by
  have : s = 0 ∨ s = 1 ∨ s = 2 ∨ s = 3 := by omega
  rcases this with rfl | rfl | rfl | rfl <;> decide
theorem justV_news {p : Pg} {m : List Bl} (hm : FitM p m) {i : Nat} (hi : i < p.news.length) : (justV p m).news[i]? = some (shlv .i64 1 (blAt m ((p.vars.length : Int) + 1 + i)).st) := by
  have hl := hm.len
  have e : (p.vars.length : Int) + 1 + i = ((1 + p.vars.length + i : Nat) : Int) := by omega
  rw [e, blAt_get (by omega)]
  simp only [justV, List.getElem?_map, List.getElem?_drop]
  rw [List.getElem?_eq_getElem (by omega)]; rfl
theorem justV_len {p : Pg} {m : List Bl} (hm : FitM p m) : (justV p m).news.length = p.news.length := by
  have hl := hm.len
  simp only [justV, List.length_map, List.length_drop]; omega
theorem justV_env {p : Pg} (hc : progC p = true) {m : List Bl} (hm : FitM p m) : envB p (justV p m) = true := by
  obtain ⟨i1, i2, i3, i4⟩ := justL_ok hc hm m.length (Nat.le_refl _)
  have hl := hm.len
  obtain ⟨_, h4, h5, _⟩ := progC_pre hc
  have hn := justV_len hm
  have hin : (justV p m).news.all inB = true := by
    rw [List.all_eq_true]
    intro x hx
    obtain ⟨i, hi, rfl⟩ := List.getElem_of_mem hx
    have e := justV_news hm (i := i) (by omega)
    rw [List.getElem?_eq_getElem hi] at e
    rw [Option.some.inj e]
    have e : (p.vars.length : Int) + 1 + i = ((1 + p.vars.length + i : Nat) : Int) := by omega
    rw [e, blAt_get (by omega)]
    obtain ⟨_, b2, b3, _⟩ := hm.bytes (1 + p.vars.length + i) (by omega)
    exact (st_in ⟨b2, b3⟩).1
  unfold envB
  rw [if_neg (by simp [justV]), hn, hin]
  have e : (justV p m).cells = justL p.big p.ptr.toNat m m.length := rfl
  rw [e, cellsUp_of (fun c hc => (i1 c hc).1.1) i2]
  simp only [decide_true, Bool.and_true, decide_eq_true_eq]
  omega
theorem justV_exact {p : Pg} (hc : progC p = true) {m : List Bl} (hm : FitM p m) : exactB p (justV p m) m = true := by
  obtain ⟨i1, i2, i3, i4⟩ := justL_ok hc hm m.length (Nat.le_refl _)
  have hl := hm.len
  have hn := justV_len hm
  have e : (justV p m).cells = justL p.big p.ptr.toNat m m.length := rfl
  unfold exactB inEnv
  rw [e, hn]
  simp only [Bool.and_eq_true, List.all_eq_true, Bool.or_eq_true, decide_eq_true_eq, List.mem_range]
  refine ⟨⟨rfl, fun c hc => (i1 c hc).1.2.1, fun i hi => ?_⟩, fun b hb => .inr ?_⟩
  · unfold newB
    rw [justV_news hm hi, Option.getD_some]
    have e : (p.vars.length : Int) + 1 + i = ((1 + p.vars.length + i : Nat) : Int) := by omega
    rw [e, blAt_get (by omega)]
    obtain ⟨_, b2, b3, _⟩ := hm.bytes (1 + p.vars.length + i) (by omega)
    rw [(st_in ⟨b2, b3⟩).2]; rfl
  · unfold blockOne byteOne
    rw [List.all_eq_true]
    intro j hj
    rw [List.any_eq_true]
    exact i4 b hb j (List.mem_range.1 hj)
end Go.Ax
