/- Parts B4: the machine's runs of small codes, contracts of functions, plain facts. -/
import Derived.Test.YtjmgdglhhiccoaaGreatB3
namespace Go.Proofs.Tryz.K
open Go Go.Ax Go.Proofs.Tryz.S
set_option maxRecDepth 100000
set_option linter.unusedSimpArgs false
set_option linter.unusedVariables false
set_option maxHeartbeats 4000000
def seatStepC (st : List Sm) (k : Nat) (m : Nat) (s : Int) : Option Nat := if s = (m : Int) ∧ m < st.length then (seatC st k (bodyAt st m) (m + 1)).bind (seatC st k (elsAt st m)) else none
theorem seatC_succ (st : List Sm) (k : Nat) (l : List Int) (m : Nat) : seatC st (k + 1) l m = l.foldlM (seatStepC st k) m := rfl
def FrI (M M' : Hp) : Prop := ∀ r x, M r = some x → ¬ x.elem = 3 → M' r = some x
theorem FrI.refl (M : Hp) : FrI M M := fun _ _ h _ => h
theorem FrI.trans {M M1 M2 : Hp} (h : FrI M M1) (k : FrI M1 M2) : FrI M M2 := fun r x hr hx => k r x (h r x hr hx) hx
theorem FrI.keep {M M' : Hp} (h : Keep M M') : FrI M M' := fun r x hr _ => h r x hr
def seatP (st : List Sm) (k : Nat) (l : List Int) (n : Nat) (F : Fz) (M0 M : Hp) (u : Value) (F' : Fz) (M' : Hp) : Prop :=
  F' = F ∧ Keep M0 M' ∧ Old F M' ∧ FrI M M' ∧ ((∃ (w : Value) (ds : List Int), u = .tuple #[w, .bool true] ∧ MineG 1 intC 3 F M0 M' w ds ∧ seatC st k l n = some ds.length) ∨ (seatC st k l n = none ∧ u = .tuple #[.slice none 0 0, .bool false]))
structure SeO (p : Pg) (k : Nat) (l : List Int) (ul : Value) (n : Nat) (r4 : Nat) (F0 : Fz) (M0 Me : Hp) (σ : Env) (F : Fz) (M : Hp) : Prop where
  ff : F = F0
  kb : Keep M0 M
  old : Old F0 M
  fr : FrI Me M
  h3 : Ax.look σ 3 = some (.int .i64 (5 - k))
  h4 : Ax.look σ 4 = some (.pointer (some ⟨r4, 0, none⟩))
  h22 : Ax.look σ 22 = some ul
  h23 : Ax.look σ 23 = some (.int .i64 l.length)
theorem SeO.ext {p : Pg} {k : Nat} {l : List Int} {ul : Value} {n r4 : Nat} {F0 F : Fz} {M0 Me M : Hp} {σ σ' : Env} (s : SeO p k l ul n r4 F0 M0 Me σ F M) (e3 : Ax.look σ' 3 = Ax.look σ 3) (e4 : Ax.look σ' 4 = Ax.look σ 4) (e22 : Ax.look σ' 22 = Ax.look σ 22) (e23 : Ax.look σ' 23 = Ax.look σ 23) : SeO p k l ul n r4 F0 M0 Me σ' F M :=
  ⟨s.ff, s.kb, s.old, s.fr, e3.trans s.h3, e4.trans s.h4, e22.trans s.h22, e23.trans s.h23⟩
theorem SeO.grow {p : Pg} {k : Nat} {l : List Int} {ul : Value} {n r4 : Nat} {F0 F : Fz} {M0 Me M M' : Hp} {σ : Env} (s : SeO p k l ul n r4 F0 M0 Me σ F M) (kb : Keep M0 M') (o : Old F0 M') (fr : FrI M M') : SeO p k l ul n r4 F0 M0 Me σ F M' :=
  ⟨s.ff, kb, o, s.fr.trans fr, s.h3, s.h4, s.h22, s.h23⟩
def seO (p : Pg) (k : Nat) (l : List Int) (ul : Value) (n : Nat) (r4 : Nat) (F0 : Fz) (M0 Me : Hp) (m : Nat) (σ : Env) (F : Fz) (M : Hp) : Prop :=
  SeO p k l ul n r4 F0 M0 Me σ F M ∧ ∃ (i : Nat) (w : Value) (ds : List Int), i + m = l.length ∧ Ax.look σ 24 = some (.int .i64 i) ∧ Ax.look σ 2 = some w ∧ MineG 1 intC 3 F0 M0 M w ds ∧ ds.length ≤ p.stmts.length ∧ seatC p.stmts (k + 1) l n = (l.drop i).foldlM (seatStepC p.stmts k) ds.length
def gS (st : List Sm) (k m : Nat) : Nat → Option Nat
  | 0 => some (m + 1)
  | 1 => seatC st k (bodyAt st m) (m + 1)
  | _ => (seatC st k (bodyAt st m) (m + 1)).bind (seatC st k (elsAt st m))
def lS (st : List Sm) (m : Nat) : Nat → List Int
  | 0 => bodyAt st m
  | _ => elsAt st m
theorem gS_next {st : List Sm} {k m j n : Nat} (hj : j < 2) (h : gS st k m j = some n) : gS st k m (j + 1) = seatC st k (lS st m j) n := by
  match j, hj with
  | 0, _ => simp only [gS, Option.some.injEq] at h; subst h; rfl
  | 1, _ => simp only [gS] at h ⊢; rw [h]; rfl
theorem gS_none {st : List Sm} {k m j : Nat} (hj : j < 2) (h : gS st k m (j + 1) = none) : gS st k m 2 = none := by
  match j, hj with
  | 0, _ => simp only [gS] at h ⊢; rw [h]; rfl
  | 1, _ => exact h
theorem step_gS {st : List Sm} {k m : Nat} (h : m < st.length) : seatStepC st k m (m : Int) = gS st k m 2 := by
  unfold seatStepC; rw [if_pos ⟨rfl, h⟩]; rfl
def seI (p : Pg) (k : Nat) (l : List Int) (ul : Value) (n : Nat) (r4 : Nat) (F0 : Fz) (M0 Me : Hp) (i : Nat) (x : Sm) (t r58 : Nat) (m : Nat) (σ : Env) (F : Fz) (M : Hp) : Prop :=
  SeO p k l ul n r4 F0 M0 Me σ F M ∧ Ax.look σ 24 = some (.int .i64 i) ∧ Ax.look σ 58 = some (.slice (some ⟨r58, 0, none⟩) 2 2) ∧ Ax.look σ 59 = some (.int .i64 2) ∧ M r58 = some ⟨[.slice x.ba x.body.length x.bc, .slice x.ea x.els.length x.ec], 24, 2⟩ ∧
  ∃ (j : Nat) (w : Value) (ds : List Int), j + m = 2 ∧ Ax.look σ 60 = some (.int .i64 j) ∧ Ax.look σ 2 = some w ∧ MineG 1 intC 3 F0 M0 M w ds ∧ gS p.stmts k t j = some ds.length ∧ ds.length ≤ p.stmts.length
theorem sm_at {F : Fz} {M : Hp} {p : Pg} (hp : p.rd F) (hold : Old F M) {i : Nat} (hi : i < p.stmts.length) :
    ∃ b o cs, p.sA = some ⟨b, o, none⟩ ∧ blk F M b = some cs ∧ o + i * 7 + 7 ≤ cs.length ∧ (cs.drop (o + i * 7)).take 7 = p.stmts[i].cs ∧ cs[o + i * 7 + 5]? = some (.slice p.stmts[i].ba p.stmts[i].body.length p.stmts[i].bc) ∧ cs[o + i * 7 + 6]? = some (.slice p.stmts[i].ea p.stmts[i].els.length p.stmts[i].ec) := by
  obtain ⟨b, o, cs, ea, hb, d1, d2⟩ := RdG.at (hp.stmts M hold) hi
  have := Sm.row d2
  exact ⟨b, o, cs, ea, hb, d1, d2, this.2.2.2.2.2.1, this.2.2.2.2.2.2⟩
theorem bodyAt_get {st : List Sm} {i : Nat} (h : i < st.length) : bodyAt st i = st[i].body := by unfold bodyAt; rw [List.getElem?_eq_getElem h]; rfl
theorem elsAt_get {st : List Sm} {i : Nat} (h : i < st.length) : elsAt st i = st[i].els := by unfold elsAt; rw [List.getElem?_eq_getElem h]; rfl
def seG (ul d : Value) (k : Nat) (r4 : Nat) (F0 : Fz) (Me : Hp) (σ : Env) (F : Fz) (M : Hp) : Prop :=
  F = F0 ∧ M = Me ∧ Ax.look σ 1 = some ul ∧ Ax.look σ 2 = some d ∧ Ax.look σ 3 = some (.int .i64 (5 - k)) ∧ Ax.look σ 4 = some (.pointer (some ⟨r4, 0, none⟩))
theorem k103 (p : Pg) : ∀ (k : Nat), k ≤ 6 → ∀ (F : Fz) (M M0 : Hp) (la : Option Addr) (lc : Nat) (l : List Int) (d : Value) (ds : List Int), p.rd F → Old F M → Keep M0 M → (∀ M, Old F M → intR F M la lc l) → l.length ≤ 2500 → MineG 1 intC 3 F M0 M d ds → ds.length ≤ p.stmts.length →
    CallsA Tryz.prog 103 [p.val, .slice la l.length lc, d, .int .i64 (6 - k)] F M (seatP p.stmts k l ds.length F M0 M) := by
  intro k
  induction k with
  | zero =>
    intro hk F M M0 la lc l d ds hp hold kb hl hll mine hds
    refine callsA_of hm Tryz.func103 e103 (Nat.le_of_ble_eq_true rfl) ?_
    simp only [c103, go_sem, Nat.reduceAdd, Int.reduceSub]
    intro r4 hF4 hM4
    have kp : ∀ e, Keep M (M.upd r4 e) := fun e => (Keep.refl M).new hM4
    by_cases h0 : (0 : Int) < l.length
    · have e6 : (5 : Int) < 6 - ((0 : Nat) : Int) := by omega
      have hne : ¬ l = [] := by rintro rfl; simp at h0
      simp only [go_sem, reduceCtorEq, reduceIte, Nat.reduceEqDiff, Int.reduceLT, h0]
      exact endK_same ⟨rfl, kb.trans (kp _), hold.upd hF4, FrI.keep (kp _), .inr ⟨by simp [seatC, hne], rfl⟩⟩
    · have hnil : l = [] := lenN h0
      subst hnil
      simp only [go_sem, reduceCtorEq, reduceIte, Nat.reduceEqDiff, Int.reduceLT]
      refine loop_of (fun m σ F' M' => m = 0 ∧ F' = F ∧ M' = M.upd r4 ⟨p.cs, 111, 7⟩ ∧ Ax.look σ 24 = some (.int .i64 0) ∧ Ax.look σ 23 = some (.int .i64 0) ∧ Ax.look σ 2 = some d) 0 ?_ ?_
      · exact ⟨rfl, rfl, rfl, by simp only [go_sem], by simp only [go_sem, Nat.reduceEqDiff] <;> rfl, by simp only [go_sem, reduceCtorEq, Nat.reduceEqDiff]⟩
      rintro m σ F' M' ⟨rfl, hF', hM', h24, h23, h2⟩
      rw [hF', hM']
      simp only [go_sem, reduceIte, Nat.reduceEqDiff, Int.reduceLT, h24, h23, h2]
      exact endK_same ⟨rfl, kb.trans (kp _), hold.upd hF4, FrI.keep (kp _), .inl ⟨d, ds, rfl, mine.keep (kp _), by simp [seatC]⟩⟩
  | succ k ih =>
    intro hk F M M0 la lc l d ds hp hold kb hl hll mine hds
    refine callsA_of hm Tryz.func103 e103 (Nat.le_of_ble_eq_true rfl) ?_
    have ek : (6 : Int) - ((k + 1 : Nat) : Int) = 5 - k := by omega
    have e6 : ¬ (5 : Int) < 5 - k := by omega
    rw [ek]
    simp only [c103]
    rw [Go.Ax.seq_assoc]
    refine cut (fun σ F' M' => ∃ r4, F r4 = none ∧ M r4 = none ∧ seG (.slice la l.length lc) d k r4 F (M.upd r4 ⟨p.cs, 111, 7⟩) σ F' M') ?_ ?_
    · simp only [go_sem, Nat.reduceAdd]
      intro r4 hF4 hM4
      by_cases h0 : (0 : Int) < l.length
      · simp only [go_sem, reduceCtorEq, reduceIte, Nat.reduceEqDiff, h0, e6]
        exact ⟨r4, hF4, hM4, rfl, rfl, by simp only [go_sem, reduceCtorEq, Nat.reduceEqDiff], by simp only [go_sem, reduceCtorEq, Nat.reduceEqDiff], by simp only [go_sem, reduceCtorEq, Nat.reduceEqDiff], by simp only [go_sem, Nat.reduceEqDiff]⟩
      · simp only [go_sem, reduceCtorEq, reduceIte, Nat.reduceEqDiff, h0]
        exact ⟨r4, hF4, hM4, rfl, rfl, by simp only [go_sem, reduceCtorEq, Nat.reduceEqDiff], by simp only [go_sem, reduceCtorEq, Nat.reduceEqDiff], by simp only [go_sem, reduceCtorEq, Nat.reduceEqDiff], by simp only [go_sem, Nat.reduceEqDiff]⟩
    rintro σ F' M' ⟨r4, hF4, hM4, hF', hM', h1, h2, h3, h4⟩
    rw [hF', hM']
    have kp : ∀ e, Keep M (M.upd r4 e) := fun e => (Keep.refl M).new hM4
    have fr0 : FrI M (M.upd r4 ⟨p.cs, 111, 7⟩) := FrI.keep (kp _)
    have fme : (M.upd r4 ⟨p.cs, 111, 7⟩) r4 = some ⟨p.cs, 111, 7⟩ := Hp.upd_same _ _ _
    have kb0 := kb.trans (kp ⟨p.cs, 111, 7⟩)
    have old0 := hold.upd (e := ⟨p.cs, 111, 7⟩) hF4
    have mine0 := mine.keep (kp ⟨p.cs, 111, 7⟩)
    generalize M.upd r4 ⟨p.cs, 111, 7⟩ = Me at *
    simp only [go_sem, h1]
    refine loop_of (seO p k l (.slice la l.length lc) ds.length r4 F M0 Me) l.length ?_ ?_
    · exact ⟨⟨rfl, kb0, old0, FrI.refl _, by simp only [go_sem, Nat.reduceEqDiff, h3], by simp only [go_sem, Nat.reduceEqDiff, h4], by simp only [go_sem, Nat.reduceEqDiff], by simp only [go_sem, Nat.reduceEqDiff]⟩, 0, d, ds, by omega, by simp only [go_sem] <;> rfl, by simp only [go_sem, Nat.reduceEqDiff, h2], mine0, hds, by rw [List.drop_zero]; exact seatC_succ _ _ _ _⟩
    generalize hn : ds.length = n at *
    clear mine0 mine hds h1 h2 h3 h4 kb0 old0 hn ds d hF' hM' kp hM4 hF4 hold
    rintro mo σ F' M' ⟨s, i, w, ds, hi, h24, h2, mine, hds, hfold⟩
    obtain rfl := s.ff
    have f4 := s.fr _ _ fme (by simp)
    have b4 := blk_M (F := F') f4
    obtain ⟨aw, cw, ew⟩ := mine.shape
    have h2' := h2
    rw [ew] at h2'
    by_cases hil : (i : Int) < l.length
    rotate_left
    · have : l.drop i = [] := List.drop_eq_nil_of_le (by omega)
      rw [this] at hfold
      simp only [go_sem, reduceIte, Nat.reduceEqDiff, s.h23, h24, h2', hil]
      rw [← ew]
      exact endK_same ⟨rfl, s.kb, s.old, fr0.trans s.fr, .inl ⟨w, ds, rfl, mine, by rw [hfold]; rfl⟩⟩
    have hi0 : (0 : Int) ≤ i := by omega
    have hil' : i < l.length := by omega
    have ei : IntKind.i64.wrap ((i : Int) + 1) = i + 1 := w64 (by omega) (by omega)
    obtain ⟨b, o, cs, ea, hb, d3⟩ := int_at (hl _ s.old) hil'
    rw [List.drop_eq_getElem_cons hil', List.foldlM_cons] at hfold
    generalize l[i] = x at *
    have h22 := s.h22
    rw [ea] at h22
    by_cases hx : x = (ds.length : Int) ∧ ds.length < p.stmts.length
    rotate_left
    · have hnone : seatC p.stmts (k + 1) l n = none := by
        rw [hfold]; unfold seatStepC; rw [if_neg hx]; rfl
      by_cases hx1 : x = (ds.length : Int)
      · have hx2 : (p.stmts.length : Int) ≤ x := by omega
        simp only [go_sem, reduceIte, Nat.reduceEqDiff, s.h4, h22, s.h23, h24, h2', hil, hi0, Int.toNat_natCast, hb, d3, hx1]
        simp only [hx1] at hx2
        simp only [go_sem, reduceCtorEq, reduceIte, Nat.reduceEqDiff, b4, hx2]
        exact endK_same ⟨rfl, s.kb, s.old, fr0.trans s.fr, .inr ⟨hnone, rfl⟩⟩
      · simp only [go_sem, reduceIte, Nat.reduceEqDiff, h22, s.h23, h24, h2', hil, hi0, Int.toNat_natCast, hb, d3, hx1]
        exact endK_same ⟨rfl, s.kb, s.old, fr0.trans s.fr, .inr ⟨hnone, rfl⟩⟩
    obtain ⟨rfl, hdn⟩ := hx
    have hx2 : ¬ (p.stmts.length : Int) ≤ ds.length := by omega
    have hdn' : (ds.length : Int) < p.stmts.length := by omega
    have hd0 : (0 : Int) ≤ ds.length := by omega
    simp only [go_sem, reduceCtorEq, reduceIte, Nat.reduceEqDiff, s.h3, s.h4, h22, s.h23, h24, h2', hil, hi0, Int.toNat_natCast, hb, d3, b4, hx2]
    intro rb hFb hMb
    simp only [go_sem, Nat.reduceEqDiff]
    rw [← ew]
    have hfew := hp.few
    refine apMG_of (xs := ds) (ys := [5 - (k : Int)]) intC_len intC_plain (by decide) (mine.fresh hMb) (s.kb.new (s.kb.free hMb)) ⟨rfl, .inr ⟨⟨rb, 0, none⟩, 1, rfl, .inr ⟨rb, 0, _, rfl, blk_upd_same, by simp [intC, intV]⟩⟩⟩ (by simp) (by simp; omega) ?_
    rintro w5 M5 hsh hfr5 kp5 ho5 mine5
    have frx : FrI M' M5 := fun r x hr hx => hfr5 r x (by rw [Hp.upd_ne' (ne_of_none hMb hr).1]; exact hr) hx
    have old5 := ho5 (s.old.upd hFb)
    have f45 := frx _ _ f4 (by simp)
    have b45 := blk_M (F := F') f45
    obtain ⟨b2, o2, cs2, ea2, hb2, g1, g2, g5, g6⟩ := sm_at hp old5 hdn
    have hbody := bodyAt_get hdn
    have hels := elsAt_get hdn
    have hmem := List.getElem_mem hdn
    have hbd := hp.bodies _ hmem
    have hbf := hp.few.2.2.2.2.2 _ hmem
    generalize p.stmts[ds.length] = y at *
    simp only [go_sem, reduceIte, Nat.reduceEqDiff, Nat.reduceAdd, Nat.reduceLeDiff, s.h4, b45, ea2, hdn', hd0, Int.toNat_natCast, hb2, g5, g6]
    intro r58 hF58 hM58
    rw [step_gS hdn] at hfold
    have kp58 : ∀ e, Keep M5 (M5.upd r58 e) := fun e => (Keep.refl M5).new hM58
    simp only [go_sem]
    refine loop_of (seI p k l (.slice la l.length lc) n r4 F' M0 Me i y ds.length r58) 2 ?_ ?_
    · exact ⟨(s.grow (kp5.trans (kp58 _)) (old5.upd hF58) (frx.trans (FrI.keep (kp58 _)))).ext (by simp only [go_sem, Nat.reduceEqDiff]) (by simp only [go_sem, Nat.reduceEqDiff]) (by simp only [go_sem, Nat.reduceEqDiff]) (by simp only [go_sem, Nat.reduceEqDiff]), by simp only [go_sem, Nat.reduceEqDiff, h24], by simp only [go_sem, Nat.reduceEqDiff], by simp only [go_sem], Hp.upd_same _ _ _, 0, w5, ds ++ [5 - (k : Int)], by omega, by simp only [go_sem, Nat.reduceEqDiff] <;> rfl, by simp only [go_sem, Nat.reduceEqDiff], mine5.keep (kp58 _), by simp [gS], by simp; omega⟩
    clear hsh hM58 hF58 kp58 mine5 kp5 ho5 hfr5 frx old5 f45 b45 hb2 hMb hFb mine h2 h2' ew f4 b4 h24 h22 hb
    clear s
    generalize hm : ds.length = t at *
    clear hm ds
    rintro mi σ F M2 ⟨s, h24, h58, h59, f58, j, w, ds, hj, h60, h2, mine, hg, hds⟩
    obtain rfl := s.ff
    have f4 := s.fr _ _ fme (by simp)
    have b4 := blk_M (F := F) f4
    have b58 := blk_M (F := F) f58
    by_cases hj2 : (j : Int) < 2
    rotate_left
    · have hj2' : j = 2 := by omega
      subst hj2'
      rw [hg] at hfold
      simp only [go_sem, reduceIte, Nat.reduceEqDiff, Int.reduceLT, h24, h59, h60, ei]
      exact ⟨mo - 1, by omega, s.ext (by simp only [go_sem, Nat.reduceEqDiff]) (by simp only [go_sem, Nat.reduceEqDiff]) (by simp only [go_sem, Nat.reduceEqDiff]) (by simp only [go_sem, Nat.reduceEqDiff]), i + 1, w, ds, by omega, by simp only [go_sem]; rfl, by simp only [go_sem, Nat.reduceEqDiff, h2], mine, hds, by rw [hfold]; rfl⟩
    have hj0 : (0 : Int) ≤ j := by omega
    have hjn : j < 2 := by omega
    have ej : IntKind.i64.wrap ((j : Int) + 1) = j + 1 := w64 (by omega) (by omega)
    have ed : IntKind.i64.wrap (5 - (k : Int) + 1) = 6 - k := by rw [w64 (by omega) (by omega)]; omega
    obtain ⟨A, C, hcell, hrd, hlen⟩ : ∃ A C, ([.slice y.ba y.body.length y.bc, .slice y.ea y.els.length y.ec] : List Value)[j * 1]? = some (.slice A (lS p.stmts t j).length C) ∧ (∀ M, Old F M → intR F M A C (lS p.stmts t j)) ∧ (lS p.stmts t j).length ≤ 2500 := by
      match j, hjn with
      | 0, _ => exact ⟨y.ba, y.bc, by simp [lS, hbody], fun M o => by simp only [lS, hbody]; exact (hbd M o).1, by simp only [lS, hbody]; exact hbf.1⟩
      | 1, _ => exact ⟨y.ea, y.ec, by simp [lS, hels], fun M o => by simp only [lS, hels]; exact (hbd M o).2, by simp only [lS, hels]; exact hbf.2⟩
    simp only [go_sem, reduceIte, Nat.reduceEqDiff, s.h3, s.h4, h58, h59, h60, h2, hj2, hj0, Int.toNat_natCast, b4, b58, hcell, ed]
    refine callK_of (ih (by omega) F M2 M0 A C (lS p.stmts t j) w ds hp s.old s.kb hrd hlen mine hds) ?_
    rintro u G M7 ⟨hG, kb7, old7, fr7, hcase⟩
    rw [hG]
    refine ⟨(fun h => by cases h), ?_⟩
    rcases hcase with ⟨w7, ds7, rfl, mine7, hs7⟩ | ⟨hs7, rfl⟩
    · have hg7 : gS p.stmts k t (j + 1) = some ds7.length := by rw [gS_next hjn hg]; exact hs7
      have hle := (seatC_ge p.stmts k _ _ _ hs7).2.2 hds
      simp only [go_sem, reduceIte, Nat.reduceEqDiff, h60, ej]
      exact ⟨mi - 1, by omega, (s.grow kb7 old7 fr7).ext (by simp only [go_sem, Nat.reduceEqDiff]) (by simp only [go_sem, Nat.reduceEqDiff]) (by simp only [go_sem, Nat.reduceEqDiff]) (by simp only [go_sem, Nat.reduceEqDiff]), by simp only [go_sem, Nat.reduceEqDiff, h24], by simp only [go_sem, Nat.reduceEqDiff, h58], by simp only [go_sem, Nat.reduceEqDiff, h59], fr7 _ _ f58 (by simp), j + 1, w7, ds7, by omega, by simp only [go_sem]; rfl, by simp only [go_sem, Nat.reduceEqDiff], mine7, hg7, hle⟩
    · have hg7 : gS p.stmts k t (j + 1) = none := by rw [gS_next hjn hg]; exact hs7
      rw [gS_none hjn hg7] at hfold
      simp only [go_sem, Nat.reduceEqDiff]
      exact endK_same ⟨rfl, kb7, old7, (fr0.trans s.fr).trans fr7, .inr ⟨by rw [hfold]; rfl, rfl⟩⟩
theorem k63 (F : Fz) (M : Hp) (p : Pg) (hp : p.rd F) (hold : Old F M) : CallsA Tryz.prog 63 [p.val] F M (fun u F' M' => F' = F ∧ M' = M ∧ ∃ w, u = .tuple #[w, .bool (decide (seatC p.stmts 6 p.main 0 = some p.stmts.length))]) := by
  refine callsA_of hm Tryz.func63 e63 (Nat.le_of_ble_eq_true rfl) ?_
  simp only [c63, go_sem]
  intro r1 hF1 hM1
  have kp : ∀ e, Keep M (M.upd r1 e) := fun e => (Keep.refl M).new hM1
  simp only [go_sem, reduceIte, Nat.reduceEqDiff]
  have h6 : (6 : Int) - ((6 : Nat) : Int) = 0 := rfl
  have hs := k103 p 6 (by omega) F (M.upd r1 ⟨p.cs, 111, 7⟩) M p.mA p.mC p.main (.slice none 0 0) [] hp (hold.upd hF1) (kp _) hp.main hp.few.2.2.2.2.1 MineG.nil (Nat.zero_le _)
  rw [h6] at hs
  refine callK_of hs ?_
  rintro u G M7 ⟨hG, kb7, old7, fr7, hcase⟩
  rw [hG]
  refine ⟨(fun h => by cases h), ?_⟩
  have f1 := fr7 _ _ (Hp.upd_same M r1 ⟨p.cs, 111, 7⟩) (by simp)
  have b1 := blk_M (F := F) f1
  simp only [List.length_nil] at hcase
  rcases hcase with ⟨w7, ds7, rfl, mine7, hs7⟩ | ⟨hs7, rfl⟩
  · obtain ⟨aw, cw, ew⟩ := mine7.shape
    have e : decide (seatC p.stmts 6 p.main 0 = some p.stmts.length) = decide ((ds7.length : Int) = p.stmts.length) := by
      rw [hs7]
      exact decide_eq_decide.2 ⟨fun h => by simp at h; omega, fun h => by congr 1; omega⟩
    rw [ew]
    simp only [go_sem, reduceIte, Nat.reduceEqDiff, b1]
    exact endK_keep kb7 ⟨rfl, rfl, _, by rw [e]⟩
  · simp only [go_sem, reduceCtorEq, reduceIte, Nat.reduceEqDiff]
    exact endK_keep kb7 ⟨rfl, rfl, .slice none 0 0, by rw [hs7]; rfl⟩
end Go.Proofs.Tryz.K
namespace Go.Proofs.Tryz.K
open Go Go.Ax Go.Proofs.Tryz.S
set_option maxRecDepth 100000
set_option linter.unusedSimpArgs false
set_option linter.unusedVariables false
set_option maxHeartbeats 4000000
theorem endK_map {F0 : Fz} {M0 M : Hp} {R : Value → Fz → Hp → Prop} {v : Value} {rm : Nat} {l : List (Int × Value)} (h : F0.mp rm = none) (kb : Keep M0 M) (hr : R v F0 M0) : endK (F0.setM rm l) M R v :=
  ⟨F0, M0, (Wk.dropM h).trans (kb.wk F0), hr⟩
def madeM (made : List Int) : List (Int × Value) := made.reverse.map fun n => (n, .bool true)
theorem lookM_made (n : Int) : ∀ (l : List Int) (i : Nat), (n ∈ l → ∃ j, lookM (l.map fun n => (n, Value.bool true)) n i = some (j, .bool true)) ∧ (¬ n ∈ l → lookM (l.map fun n => (n, Value.bool true)) n i = none)
  | [], i => ⟨(fun h => by cases h), fun _ => rfl⟩
  | x :: l, i => by
    have ih := lookM_made n l (i + 1)
    constructor
    · intro h
      by_cases hx : x = n
      · exact ⟨i, by simp [lookM, hx]⟩
      · have hl : n ∈ l := by
          rcases List.mem_cons.1 h with e | h
          · exact absurd e.symm hx
          · exact h
        obtain ⟨j, hj⟩ := ih.1 hl
        exact ⟨j, by simp [lookM, hx]; simpa using hj⟩
    · intro h
      have hx : ¬ x = n := fun e => h (by simp [e])
      have hl : ¬ n ∈ l := fun e => h (by simp [e])
      have := ih.2 hl
      simp [lookM, hx]
      simpa using this
theorem made_look (made : List Int) (n : Int) : ((lookM (madeM made) n 0).map (·.2)).getD (.bool false) = .bool (decide (n ∈ made)) := by
  have := lookM_made n made.reverse 0
  unfold madeM
  by_cases h : n ∈ made
  · obtain ⟨j, hj⟩ := this.1 (by simpa using h)
    rw [hj]; simp [h]
  · rw [this.2 (by simpa using h)]; simp [h]
theorem made_new {made : List Int} {n : Int} (h : ¬ n ∈ made) : lookM (madeM made) n 0 = none := (lookM_made n made.reverse 0).2 (by simpa using h)
theorem made_cons (made : List Int) (n : Int) : madeM made ++ [(n, .bool true)] = madeM (n :: made) := by simp [madeM]
theorem bol_get {lo : List Bool} {i : Nat} (h : i < lo.length) : (lo.map Value.bool)[i * 1]? = some (.bool (loopAt lo i)) := by
  rw [Nat.mul_one, List.getElem?_map]
  unfold loopAt
  rw [List.getElem?_eq_getElem h]; rfl
theorem bol_set {lo : List Bool} {i : Nat} {v : Bool} (h : i < lo.length) : (lo.map Value.bool).take (i * 1) ++ [Value.bool v] ++ (lo.map Value.bool).drop (i * 1 + 1) = (lo.set i v).map Value.bool := by
  rw [Nat.mul_one, List.map_set, List.set_eq_take_append_cons_drop, if_pos (by simpa using h)]
  simp
theorem bol_zero (n : Nat) : (List.replicate n [Value.bool false]).flatten = (List.replicate n false).map Value.bool := by
  induction n with
  | zero => rfl
  | succ n ih => rw [List.replicate_succ, List.flatten_cons, ih, List.replicate_succ]; rfl
def stepLo (op6 : Bool) (i : Nat) (lo : List Bool) (k : Int) : List Bool := lo.set k.toNat (loopAt lo i || op6)
structure FrO (p : Pg) (r1 rl rm : Nat) (F0 : Fz) (M0 : Hp) (lo : List Bool) (made : List Int) (i : Nat) (σ : Env) (F : Fz) (M : Hp) : Prop where
  ff : F = F0.setM rm (madeM made)
  kb : Keep M0 M
  old : Old F0 M
  n1 : M0 rl = none
  fl : M rl = some ⟨lo.map Value.bool, 4, p.stmts.length * 1⟩
  hlo : lo.length = p.stmts.length
  h3 : Ax.look σ 3 = some (.slice (some ⟨rl, 0, none⟩) p.stmts.length p.stmts.length)
  h4 : Ax.look σ 4 = some (.map (some rm))
  h17 : Ax.look σ 17 = some (.slice p.sA p.stmts.length p.sC)
  h18 : Ax.look σ 18 = some (.int .i64 p.stmts.length)
  h19 : Ax.look σ 19 = some (.int .i64 i)
theorem FrO.ext {p : Pg} {r1 rl rm : Nat} {F0 F : Fz} {M0 M : Hp} {lo : List Bool} {made : List Int} {i : Nat} {σ σ' : Env} (s : FrO p r1 rl rm F0 M0 lo made i σ F M) (e3 : Ax.look σ' 3 = Ax.look σ 3) (e4 : Ax.look σ' 4 = Ax.look σ 4) (e17 : Ax.look σ' 17 = Ax.look σ 17) (e18 : Ax.look σ' 18 = Ax.look σ 18) (e19 : Ax.look σ' 19 = Ax.look σ 19) : FrO p r1 rl rm F0 M0 lo made i σ' F M :=
  ⟨s.ff, s.kb, s.old, s.n1, s.fl, s.hlo, e3.trans s.h3, e4.trans s.h4, e17.trans s.h17, e18.trans s.h18, e19.trans s.h19⟩
theorem FrO.grow {p : Pg} {r1 rl rm : Nat} {F0 F : Fz} {M0 M M' : Hp} {lo : List Bool} {made : List Int} {i : Nat} {σ : Env} (s : FrO p r1 rl rm F0 M0 lo made i σ F M) (k : Keep M M') (o : Old F0 M') : FrO p r1 rl rm F0 M0 lo made i σ F M' :=
  ⟨s.ff, s.kb.trans k, o, s.n1, k _ _ s.fl, s.hlo, s.h3, s.h4, s.h17, s.h18, s.h19⟩
def frO (p : Pg) (r1 rl rm : Nat) (F0 : Fz) (M0 : Hp) (m : Nat) (σ : Env) (F : Fz) (M : Hp) : Prop :=
  ∃ (i : Nat) (lo : List Bool) (made : List Int), FrO p r1 rl rm F0 M0 lo made i σ F M ∧ i + m = p.stmts.length ∧ freshF p.stmts p.stmts.length 0 (List.replicate p.stmts.length false, []) = freshF p.stmts m i (lo, made)
def frI (p : Pg) (r1 rl rm : Nat) (F0 : Fz) (M0 : Hp) (lo0 : List Bool) (made : List Int) (i : Nat) (x : Sm) (L : List Int) (r6 : Nat) (m : Nat) (σ : Env) (F : Fz) (M : Hp) : Prop :=
  ∃ (j : Nat) (lo : List Bool) (u : Value), FrO p r1 rl rm F0 M0 lo made i σ F M ∧ j + m = L.length ∧ Ax.look σ 29 = some u ∧ OwnG 1 intC 3 F0 M u L ∧ Ax.look σ 30 = some (.int .i64 L.length) ∧ Ax.look σ 31 = some (.int .i64 j) ∧
    Ax.look σ 5 = some (.int .i64 i) ∧ Ax.look σ 6 = some (.pointer (some ⟨r6, 0, none⟩)) ∧ M r6 = some ⟨x.cs, 74, 7⟩ ∧ L.foldl (stepLo (decide (x.op = 6)) i) lo0 = (L.drop j).foldl (stepLo (decide (x.op = 6)) i) lo
theorem k64 (F : Fz) (M : Hp) (p : Pg) (hp : p.rd F) (hold : Old F M) (hch : ∀ s ∈ p.stmts, ∀ k ∈ s.body ++ s.els, 0 ≤ k ∧ k < p.stmts.length) :
    CallsA Tryz.prog 64 [p.val] F M (Same F M (.bool (freshF p.stmts p.stmts.length 0 (List.replicate p.stmts.length false, [])).isSome)) := by
  refine callsA_of hm Tryz.func64 e64 (Nat.le_of_ble_eq_true rfl) ?_
  have hfew := hp.few
  simp only [c64, go_sem]
  intro r1 hF1 hM1
  simp only [go_sem, Nat.reduceEqDiff]
  refine msK_of (Nat.le_refl _) (by simp only [maxLen]; omega) (by omega) ?_
  intro rl hFl hMl
  have gl := fresh_of hMl
  simp only [go_sem]
  intro rm hFm hMm hPm
  simp only [go_sem, Nat.reduceEqDiff, gl]
  have kb : ∀ e e', Keep M ((M.upd r1 e).upd rl e') := fun e e' => ((Keep.refl M).new hM1).new gl.2.2
  refine loop_of (frO p r1 rl rm F M) p.stmts.length ?_ ?_
  · exact ⟨0, List.replicate p.stmts.length false, [], ⟨rfl, kb _ _, (hold.upd hF1).upd hFl, gl.2.2, by rw [Hp.upd_same, bol_zero], by simp, by simp only [go_sem, Nat.reduceEqDiff], by simp only [go_sem, Nat.reduceEqDiff], by simp only [go_sem, Nat.reduceEqDiff], by simp only [go_sem, Nat.reduceEqDiff], by simp only [go_sem] <;> rfl⟩, by omega, rfl⟩
  clear kb gl hMl hFl hM1 hF1 hMm hFm
  rintro m σ F' M1 ⟨i, lo, made, s, hi, hfr⟩
  obtain rfl := s.ff
  by_cases hil : (i : Int) < p.stmts.length
  rotate_left
  · have hm0 : m = 0 := by omega
    subst hm0
    simp only [go_sem, reduceIte, s.h18, s.h19, hil]
    exact endK_map hPm s.kb ⟨by rw [hfr]; rfl, rfl, rfl⟩
  have hi0 : (0 : Int) ≤ i := by omega
  have hil' : i < p.stmts.length := by omega
  have ei : IntKind.i64.wrap ((i : Int) + 1) = i + 1 := w64 (by omega) (by omega)
  obtain ⟨m, rfl⟩ : ∃ q, m = q + 1 := ⟨m - 1, by omega⟩
  simp only [freshF] at hfr
  obtain ⟨b, o, cs, ea, hb, d1, d2, d5, d6⟩ := sm_at hp s.old hil'
  have hbody := bodyAt_get hil'
  have hels := elsAt_get hil'
  have hop : opAt p.stmts i = p.stmts[i].op := by unfold opAt; rw [List.getElem?_eq_getElem hil']; rfl
  have hna : nAt p.stmts i = p.stmts[i].n := by unfold nAt; rw [List.getElem?_eq_getElem hil']; rfl
  have hc := hch _ (List.getElem_mem hil')
  have hbd := hp.bodies _ (List.getElem_mem hil')
  have hbf := hfew.2.2.2.2.2 _ (List.getElem_mem hil')
  have hbz := hp.zero.2.2 _ (List.getElem_mem hil')
  generalize p.stmts[i] = x at *
  have h17 := s.h17
  rw [ea] at h17
  simp only [go_sem, reduceIte, Nat.reduceEqDiff, Nat.reduceAdd, h17, s.h18, s.h19, hil, hi0, Int.toNat_natCast, hb, d1, d2]
  intro r6 hF6 hM6
  have kp6 : ∀ e, Keep M1 (M1.upd r6 e) := fun e => (Keep.refl M1).new hM6
  simp only [go_sem, reduceIte, Nat.reduceEqDiff, Nat.reduceAdd, Nat.reduceLeDiff]
  intro r28 hF28 hM28
  have g28 := fresh_of hM28
  have kp28 : ∀ e e', Keep M1 ((M1.upd r6 e).upd r28 e') := fun e e' => (kp6 e).new g28.2.2
  have f6 : ∀ e e', ((M1.upd r6 e).upd r28 e') r6 = some e := fun e e' => by rw [Hp.upd_ne' g28.2.1]; exact Hp.upd_same _ _ _
  have old28 : ∀ e e', Old F ((M1.upd r6 e).upd r28 e') := fun e e' => (s.old.upd hF6).upd hF28
  simp only [go_sem]
  refine callK_of (k104 _ _ (some ⟨r28, 0, none⟩) 2 [(x.ba, x.bc, x.body), (x.ea, x.ec, x.els)] (old28 _ _) (rdG_flat slC_len (by simp) (by simp) (by rw [blk_upd_same]; simp [slC])) ?_ (by simp)) ?_
  · intro y hy
    simp only [List.mem_cons, List.not_mem_nil, or_false] at hy
    rcases hy with rfl | rfl
    · exact ⟨(hbd _ (old28 _ _)).1, by simp only []; omega, hbz.1⟩
    · exact ⟨(hbd _ (old28 _ _)).2, by simp only []; omega, hbz.2⟩
  rintro u G M2 hq
  have e2 : ([(x.ba, x.bc, x.body), (x.ea, x.ec, x.els)] : List Lz).flatMap (·.2.2) = x.body ++ x.els := by simp
  obtain ⟨L, hL⟩ : ∃ L, L = x.body ++ x.els := ⟨_, rfl⟩
  rw [e2, ← hL] at hq
  have own := hq.own
  have hlen : L.length ≤ 5000 := by rw [hL, List.length_append]; omega
  obtain ⟨hG, le, kq, oq, aq, cq, rfl, rdq⟩ := hq.le intC_len (by omega)
  rw [hG]
  refine ⟨(fun h => by cases h), ?_⟩
  have f62 := kq _ _ (f6 ⟨x.cs, 74, 7⟩ _)
  have old2 := oq (old28 _ _)
  have kp2 := (kp28 _ _).trans kq
  simp only [go_sem]
  refine loop_of (frI p r1 rl rm F M lo made i x L r6) L.length ?_ ?_
  · exact ⟨0, lo, _, (s.grow kp2 old2).ext (by simp only [go_sem, Nat.reduceEqDiff]) (by simp only [go_sem, Nat.reduceEqDiff]) (by simp only [go_sem, Nat.reduceEqDiff]) (by simp only [go_sem, Nat.reduceEqDiff]) (by simp only [go_sem, Nat.reduceEqDiff]), by omega, by simp only [go_sem, Nat.reduceEqDiff] <;> rfl, own, by simp only [go_sem, Nat.reduceEqDiff], by simp only [go_sem] <;> rfl, by simp only [go_sem, Nat.reduceEqDiff], by simp only [go_sem, Nat.reduceEqDiff], f62, by rw [List.drop_zero]⟩
  clear own old2 kp2 f62 rdq kq oq le hq e2 old28 f6 kp28 g28 hM28 hF28 kp6 hM6 hF6 h17 hb
  have hset : setLo p.stmts i lo = L.foldl (stepLo (decide (x.op = 6)) i) lo := by
    unfold setLo; rw [hbody, hels, hop, hL]; rfl
  have hlo0 := s.hlo
  rw [← hL] at hc
  clear hL
  clear s
  rintro mi σ F' M2 ⟨j, lo2, u, s, hj, h29, own, h30, h31, h5, h6, f6, hfold⟩
  obtain rfl := s.ff
  obtain ⟨au, cu, eu⟩ : ∃ a c, u = .slice a L.length c := by
    rcases own with ⟨h1, h2⟩ | ⟨g, cap, h1, _⟩
    · exact ⟨none, 0, by rw [h1, h2]; rfl⟩
    · exact ⟨_, cap, h1⟩
  have rdu := own.rd intC_len (by omega)
  rw [eu] at h29 rdu
  have b6 := blk_M (F := F) f6
  have bl := blk_M (F := F) s.fl
  by_cases hjl : (j : Int) < L.length
  · have hj0 : (0 : Int) ≤ j := by omega
    have hjl' : j < L.length := by omega
    have ej : IntKind.i64.wrap ((j : Int) + 1) = j + 1 := w64 (by omega) (by omega)
    obtain ⟨b, o, cs, ea, hb, d3⟩ := int_at rdu hjl'
    have hk := hc _ (List.getElem_mem hjl')
    rw [List.drop_eq_getElem_cons hjl', List.foldl_cons] at hfold
    generalize L[j] = y at *
    obtain ⟨z, rfl⟩ := Int.eq_ofNat_of_zero_le hk.1
    have hz : z < lo2.length := by have := s.hlo; omega
    have hiz : i < lo2.length := by have := s.hlo; omega
    have g1 := bol_get hiz
    have gset : ∀ v, (lo2.map Value.bool).take (z * 1) ++ [Value.bool v] ++ (lo2.map Value.bool).drop (z * 1 + 1) = (lo2.set z v).map Value.bool := fun v => bol_set hz
    have hzl : z * 1 + 1 ≤ (lo2.map Value.bool).length := by rw [List.length_map]; omega
    rw [ea] at h29
    have fin : ∀ (v : Bool) (σ' : Env), v = (loopAt lo2 i || decide (x.op = 6)) → Ax.look σ' 3 = some (.slice (some ⟨rl, 0, none⟩) p.stmts.length p.stmts.length) → Ax.look σ' 4 = some (.map (some rm)) → Ax.look σ' 17 = some (.slice p.sA p.stmts.length p.sC) → Ax.look σ' 18 = some (.int .i64 p.stmts.length) → Ax.look σ' 19 = some (.int .i64 i) →
        Ax.look σ' 29 = some u → Ax.look σ' 30 = some (.int .i64 L.length) → Ax.look σ' 31 = some (.int .i64 (j + 1)) → Ax.look σ' 5 = some (.int .i64 i) → Ax.look σ' 6 = some (.pointer (some ⟨r6, 0, none⟩)) →
        ∃ m', m' < mi ∧ frI p r1 rl rm F M lo made i x L r6 m' σ' (F.setM rm (madeM made)) (M2.upd rl ⟨(lo2.set z v).map Value.bool, 4, p.stmts.length * 1⟩) := by
      intro v σ' hv e3 e4 e17 e18 e19 e29 e30 e31 e5 e6
      refine ⟨mi - 1, by omega, j + 1, lo2.set z v, u, ⟨rfl, s.kb.new s.n1, s.old.upd (s.old.free s.fl), s.n1, Hp.upd_same _ _ _, by rw [List.length_set]; exact s.hlo, e3, e4, e17, e18, e19⟩, by omega, e29, ?_, e30, e31, e5, e6, ?_, ?_⟩
      · exact own.frame (e' := 4) (fun r x hr hx => by
          have : ¬ r = rl := by rintro rfl; rw [s.fl] at hr; cases hr; exact hx rfl
          rw [Hp.upd_ne' this]; exact hr) (by decide)
      · have : ¬ r6 = rl := by
          rintro rfl
          have h1 := s.fl
          rw [f6] at h1
          have := congrArg (fun e => e.map Ent.elem) h1
          simp at this
        rw [Hp.upd_ne' this]; exact f6
      · rw [hfold, hv]; rfl
    cases hlp : loopAt lo2 i
    · rw [hlp] at g1
      by_cases h66 : x.op = 6
      · simp only [go_sem, reduceCtorEq, reduceIte, Nat.reduceEqDiff, s.h3, h29, h30, h31, h5, h6, hjl, hj0, hil, hi0, hk.1, hk.2, Int.toNat_natCast, hb, d3, b6, bl, g1, h66, s.fl, hzl]
        simp only [setH, go_sem, gset, ej]
        exact fin true _ (by rw [hlp]; simp [h66]) (by simp only [go_sem, Nat.reduceEqDiff, s.h3]) (by simp only [go_sem, Nat.reduceEqDiff, s.h4]) (by simp only [go_sem, Nat.reduceEqDiff, s.h17]) (by simp only [go_sem, Nat.reduceEqDiff, s.h18]) (by simp only [go_sem, Nat.reduceEqDiff, s.h19]) (by simp only [go_sem, Nat.reduceEqDiff, h29, eu, ea]) (by simp only [go_sem, Nat.reduceEqDiff, h30]) (by simp only [go_sem]) (by simp only [go_sem, Nat.reduceEqDiff, h5]) (by simp only [go_sem, Nat.reduceEqDiff, h6])
      · simp only [go_sem, reduceCtorEq, reduceIte, Nat.reduceEqDiff, s.h3, h29, h30, h31, h5, h6, hjl, hj0, hil, hi0, hk.1, hk.2, Int.toNat_natCast, hb, d3, b6, bl, g1, h66, s.fl, hzl]
        simp only [setH, go_sem, gset, ej]
        exact fin false _ (by rw [hlp]; simp [h66]) (by simp only [go_sem, Nat.reduceEqDiff, s.h3]) (by simp only [go_sem, Nat.reduceEqDiff, s.h4]) (by simp only [go_sem, Nat.reduceEqDiff, s.h17]) (by simp only [go_sem, Nat.reduceEqDiff, s.h18]) (by simp only [go_sem, Nat.reduceEqDiff, s.h19]) (by simp only [go_sem, Nat.reduceEqDiff, h29, eu, ea]) (by simp only [go_sem, Nat.reduceEqDiff, h30]) (by simp only [go_sem]) (by simp only [go_sem, Nat.reduceEqDiff, h5]) (by simp only [go_sem, Nat.reduceEqDiff, h6])
    · rw [hlp] at g1
      simp only [go_sem, reduceIte, Nat.reduceEqDiff, s.h3, h29, h30, h31, h5, hjl, hj0, hil, hi0, hk.1, hk.2, Int.toNat_natCast, hb, d3, bl, g1, s.fl, hzl]
      simp only [setH, go_sem, gset, ej]
      exact fin true _ (by rw [hlp]; rfl) (by simp only [go_sem, Nat.reduceEqDiff, s.h3]) (by simp only [go_sem, Nat.reduceEqDiff, s.h4]) (by simp only [go_sem, Nat.reduceEqDiff, s.h17]) (by simp only [go_sem, Nat.reduceEqDiff, s.h18]) (by simp only [go_sem, Nat.reduceEqDiff, s.h19]) (by simp only [go_sem, Nat.reduceEqDiff, h29, eu, ea]) (by simp only [go_sem, Nat.reduceEqDiff, h30]) (by simp only [go_sem]) (by simp only [go_sem, Nat.reduceEqDiff, h5]) (by simp only [go_sem, Nat.reduceEqDiff, h6])
  have hjn : j = L.length := by omega
  have hlo2 : setLo p.stmts i lo = lo2 := by
    rw [hset, hfold, hjn, List.drop_length]; rfl
  have hiz : i < lo2.length := by have := s.hlo; omega
  have g1 := bol_get hiz
  have fin : ∀ (made' : List Int) (σ' : Env), freshStep p.stmts (lo, made) i = some (lo2, made') → Ax.look σ' 3 = some (.slice (some ⟨rl, 0, none⟩) p.stmts.length p.stmts.length) → Ax.look σ' 4 = some (.map (some rm)) → Ax.look σ' 17 = some (.slice p.sA p.stmts.length p.sC) → Ax.look σ' 18 = some (.int .i64 p.stmts.length) → Ax.look σ' 19 = some (.int .i64 (i + 1)) →
      ∃ m', m' < m + 1 ∧ frO p r1 rl rm F M m' σ' (F.setM rm (madeM made')) M2 := fun made' σ' hst e3 e4 e17 e18 e19 =>
    ⟨m, by omega, i + 1, lo2, made', ⟨rfl, s.kb, s.old, s.n1, s.fl, s.hlo, e3, e4, e17, e18, e19⟩, by omega, by rw [hfr, hst]; rfl⟩
  by_cases h33 : x.op = 3
  rotate_left
  · simp only [go_sem, reduceIte, Nat.reduceEqDiff, s.h19, h30, h31, h6, hjl, b6, h33, ei]
    exact fin made _ (by unfold freshStep; rw [hop, if_neg h33, hlo2]) (by simp only [go_sem, Nat.reduceEqDiff, s.h3]) (by simp only [go_sem, Nat.reduceEqDiff, s.h4]) (by simp only [go_sem, Nat.reduceEqDiff, s.h17]) (by simp only [go_sem, Nat.reduceEqDiff, s.h18]) (by simp only [go_sem])
  cases hlp : loopAt lo2 i
  rotate_left
  · rw [hlp] at g1
    simp only [go_sem, reduceIte, Nat.reduceEqDiff, s.h3, h30, h31, h5, h6, hjl, b6, bl, h33, hi0, hil, Int.toNat_natCast, g1]
    refine endK_map hPm s.kb ⟨?_, rfl, rfl⟩
    have : freshStep p.stmts (lo, made) i = none := by
      unfold freshStep; rw [hop, if_pos h33, hlo2, if_pos (.inl hlp)]
    rw [hfr, this]; rfl
  rw [hlp] at g1
  simp only [go_sem, reduceIte, Nat.reduceEqDiff, s.h3, s.h4, h30, h31, h5, h6, hjl, b6, bl, h33, hi0, hil, Int.toNat_natCast, g1]
  refine mlK_of setM_mp ?_
  rw [made_look]
  by_cases hmd : x.n ∈ made
  · simp only [go_sem, reduceCtorEq, reduceIte, Nat.reduceEqDiff, hmd, decide_true]
    refine endK_map hPm s.kb ⟨?_, rfl, rfl⟩
    have : freshStep p.stmts (lo, made) i = none := by
      unfold freshStep; rw [hop, if_pos h33, hlo2, hna, if_pos (.inr hmd)]
    rw [hfr, this]; rfl
  · simp only [go_sem, reduceCtorEq, reduceIte, Nat.reduceEqDiff, s.h4, h6, b6, hmd, decide_false]
    refine muK_of setM_mp (made_new hmd) ?_
    rw [setM_setM, made_cons]
    simp only [go_sem, reduceIte, Nat.reduceEqDiff, s.h19, ei]
    exact fin (x.n :: made) _ (by
      unfold freshStep; rw [hop, if_pos h33, hlo2, hna, if_neg (by rw [hlp]; simp [hmd])]) (by simp only [go_sem, Nat.reduceEqDiff, s.h3]) (by simp only [go_sem, Nat.reduceEqDiff, s.h4]) (by simp only [go_sem, Nat.reduceEqDiff, s.h17]) (by simp only [go_sem, Nat.reduceEqDiff, s.h18]) (by simp only [go_sem])
end Go.Proofs.Tryz.K
namespace Go.Ax
open Go
set_option linter.unusedVariables false
theorem seatC_in (st : List Sm) : ∀ (k : Nat) (l : List Int) (a b : Nat), seatC st k l a = some b → ∀ m : Nat, a ≤ m → m < b → ∀ c ∈ bodyAt st m ++ elsAt st m, (m : Int) < c ∧ c < b
  | 0, l, a, b, h, m, hm, hb => by
    simp only [seatC] at h
    split at h
    · cases h; omega
    · cases h
  | k + 1, l, a, b, h, m, hm, hb => by
    simp only [seatC] at h
    induction l generalizing a with
    | nil => simp at h; omega
    | cons s l ih =>
      rw [List.foldlM_cons] at h
      by_cases hs : s = (a : Int) ∧ a < st.length
      · rw [if_pos hs] at h
        cases h1 : seatC st k (bodyAt st a) (a + 1) with
        | none => rw [h1] at h; simp at h
        | some m1 =>
          cases h2 : seatC st k (elsAt st a) m1 with
          | none => rw [h1] at h; simp [h2] at h
          | some m2 =>
            rw [h1] at h
            simp only [Option.bind_some, h2, Option.bind_eq_bind] at h
            obtain ⟨a1, a2, a3⟩ := seatC_ge st k _ _ _ h1
            obtain ⟨b1, b2, b3⟩ := seatC_ge st k _ _ _ h2
            have hc := (seatC_ge st (k + 1) l m2 b (by simpa only [seatC] using h)).1
            intro c hc'
            by_cases e : m = a
            · subst e
              rcases List.mem_append.1 hc' with hc' | hc'
              · have := a2 c hc'; omega
              · have := b2 c hc'; omega
            by_cases e1 : m < m1
            · have := seatC_in st k _ _ _ h1 m (by omega) e1 c hc'; omega
            by_cases e2 : m < m2
            · have := seatC_in st k _ _ _ h2 m (by omega) e2 c hc'; omega
            · exact ih m2 h (by omega) c hc'
      · rw [if_neg hs] at h; simp at h
def sizeB (n : Int) : Bool := decide (1 ≤ n) && decide (n ≤ 32)
def sizesB (l : List Int) (most : Nat) : Bool := decide (l.length ≤ most) && l.all sizeB
def progC (p : Pg) : Bool :=
  (decide (p.ptr = 2) || decide (p.ptr = 4)) && sizesB p.vars 4 && sizesB p.news 2 && decide (p.exprs.length ≤ 120) && decide (p.stmts.length ≤ 40) &&
  exprsB p.vars.length p.exprs p.exprs.length && p.stmts.all (stmtB p.vars.length p.news.length p.exprs) && standC p.stmts p.main
def progR (p : Pg) : Bool :=
  (decide (p.ptr = 2) || decide (p.ptr = 4)) && sizesB p.vars 4 && sizesB p.news 2 && decide (p.exprs.length ≤ 120) && decide (p.stmts.length ≤ 40) &&
  exprsR p.vars.length p.exprs p.exprs.length && p.stmts.all (stmtR p.vars.length p.news.length p.exprs) && standR p.stmts p.main
theorem stmts_els {nv nn : Nat} {es : List Xp} {st : List Sm} (h : st.all (stmtB nv nn es) = true) : ∀ m, elsAt st m ≠ [] → ¬ opAt st m = 6 := by
  intro m hne h6
  by_cases hm : m < st.length
  · have := List.all_eq_true.1 h _ (List.getElem_mem hm)
    have e1 : elsAt st m = st[m].els := by unfold elsAt; rw [List.getElem?_eq_getElem hm]; rfl
    have e2 : opAt st m = st[m].op := by unfold opAt; rw [List.getElem?_eq_getElem hm]; rfl
    rw [e1] at hne
    rw [e2] at h6
    have hp : 0 < st[m].els.length := List.length_pos_iff.2 hne
    simp [stmtB, plainB, h6, hp] at this
  · apply hne
    unfold elsAt
    rw [List.getElem?_eq_none (by omega)]; rfl
theorem prog_eq (p : Pg) : progR p = progC p := by
  unfold progR progC
  have hx := exprs_eq p.vars.length p.exprs p.exprs.length (Nat.le_refl _)
  have hs : stmtR p.vars.length p.news.length p.exprs = stmtB p.vars.length p.news.length p.exprs := funext (stmt_eq _ _ _)
  rw [hx, hs]
  cases h : p.stmts.all (stmtB p.vars.length p.news.length p.exprs)
  · simp
  · rw [stand_eq p.stmts p.main (stmts_els h)]
theorem stand_in {st : List Sm} {main : List Int} (h : seatC st 6 main 0 = some st.length) : ∀ s ∈ st, ∀ k ∈ s.body ++ s.els, 0 ≤ k ∧ k < st.length := by
  intro s hs k hk
  obtain ⟨i, hi, rfl⟩ := List.getElem_of_mem hs
  have e1 : bodyAt st i = st[i].body := by unfold bodyAt; rw [List.getElem?_eq_getElem hi]; rfl
  have e2 : elsAt st i = st[i].els := by unfold elsAt; rw [List.getElem?_eq_getElem hi]; rfl
  have := seatC_in st 6 main 0 _ h i (Nat.zero_le _) hi k (by rw [e1, e2]; exact hk)
  omega
end Go.Ax
namespace Go.Ax
open Go
set_option linter.unusedVariables false
set_option linter.unusedSimpArgs false
def opsD (l : List SO) : List Nat := l.filterMap (·.d)
def SC.defs : SC → List Nat
  | .ops l => opsD l
  | .opd l => opsD l
  | .opq l => opsD l
  | .seq a b => a.defs ++ b.defs
  | .cond _ a b => a.defs ++ b.defs
  | .block _ c => c.defs
  | .loop c => c.defs
  | _ => []
def Stay (ds : List Nat) (σ σ' : Env) : Prop := ∀ t, ds.contains t = false → look σ' t = look σ t
theorem Stay.refl (ds : List Nat) (σ : Env) : Stay ds σ σ := fun _ _ => rfl
theorem Stay.trans {ds : List Nat} {a b c : Env} (h : Stay ds a b) (k : Stay ds b c) : Stay ds a c := fun t ht => (k t ht).trans (h t ht)
theorem Stay.mono {ds es : List Nat} {a b : Env} (h : Stay ds a b) (hs : ∀ t, t ∈ ds → t ∈ es) : Stay es a b := fun t ht => h t (by
  cases hd : ds.contains t
  · rfl
  · rw [List.contains_iff_mem] at hd
    have := hs t hd
    rw [← List.contains_iff_mem, ht] at this
    cases this)
theorem Stay.put {ds : List Nat} {σ : Env} {d : Option Nat} {v : Value} (h : ∀ t, d = some t → t ∈ ds) : Stay ds σ (put σ d v) := fun t ht => by
  cases d with
  | none => rfl
  | some k =>
    have hk := h k rfl
    have : ¬ k = t := by
      rintro rfl
      rw [← List.contains_iff_mem, ht] at hk
      cases hk
    simp [Ax.put, look, this]
theorem stepK_put {P : Program} {s : Bool} {d : Option Nat} {k : SK} {K : Env → Fz → Hp → Prop} {σ : Env} {F : Fz} {M : Hp}
    (h : stepK P s d k K σ F M) : stepK P s d k (fun σ' F' M' => (∃ v, σ' = put σ d v) ∧ K σ' F' M') σ F M := by
  cases k <;> simp only [stepK] at h ⊢
  case p q => obtain ⟨v, h1, h2⟩ := h; exact ⟨v, h1, ⟨v, rfl⟩, h2⟩
  case al e z => exact fun r h1 h2 => ⟨⟨_, rfl⟩, h r h1 h2⟩
  case bx e x => obtain ⟨v, h1, h2⟩ := h; exact ⟨v, h1, fun r a b => ⟨⟨_, rfl⟩, h2 r a b⟩⟩
  case bs e len z parts => obtain ⟨ps, h1, cs, h2, h3⟩ := h; exact ⟨ps, h1, cs, h2, fun r a b => ⟨⟨_, rfl⟩, h3 r a b⟩⟩
  case ap e es bytes x y => obtain ⟨v, h1, u, h2, n, xs, h3, m, ys, h4, h5, h6, h7, h8⟩ := h; exact ⟨v, h1, u, h2, n, xs, h3, m, ys, h4, h5, h6, h7, fun v' M' a => ⟨⟨_, rfl⟩, h8 v' M' a⟩⟩
  case st fl n a x => obtain ⟨b, o, h1, v, h2, e, h3, h4, h5, h6, h7, h8⟩ := h; exact ⟨b, o, h1, v, h2, e, h3, h4, h5, h6, h7, ⟨_, rfl⟩, h8⟩
  case ms e es bytes z l c => obtain ⟨k, n, h1, k', m, h2, h3, h4, h5, h6⟩ := h; exact ⟨k, n, h1, k', m, h2, h3, h4, h5, fun r a b => ⟨⟨_, rfl⟩, h6 r a b⟩⟩
  case cp es x y => obtain ⟨b, o, n, c, h1, u, h2, m, ys, h3, h4, e, h5, h6, h7⟩ := h; exact ⟨b, o, n, c, h1, u, h2, m, ys, h3, h4, e, h5, h6, ⟨_, rfl⟩, h7⟩
  case ca f args => obtain ⟨g, fi, c, h1, vs, h2, h3⟩ := h; exact ⟨g, fi, c, h1, vs, h2, h3.mono fun v F' M' ⟨a, b⟩ => ⟨a, ⟨_, rfl⟩, b⟩⟩
  case cq f args => obtain ⟨g, fi, c, h1, vs, h2, h3⟩ := h; exact ⟨g, fi, c, h1, vs, h2, h3.mono fun v F' M' b => ⟨⟨_, rfl⟩, b⟩⟩
  case gz e es bytes z x n => obtain ⟨k, m, h1, h2, h3, h4, h5, h6⟩ := h; exact ⟨k, m, h1, h2, h3, h4, h5, fun r c a b p q => ⟨⟨_, rfl⟩, h6 r c a b p q⟩⟩
  case mm => exact fun r h1 h2 h3 => ⟨⟨_, rfl⟩, h r h1 h2 h3⟩
  case ml z x i => obtain ⟨r, l, n, h1, h2, h3, h4⟩ := h; exact ⟨r, l, n, h1, h2, h3, ⟨_, rfl⟩, h4⟩
  case mu x i y => obtain ⟨r, l, n, v, h1, h2, h3, h4, h5, h6⟩ := h; exact ⟨r, l, n, v, h1, h2, h3, h4, h5, ⟨_, rfl⟩, h6⟩
theorem stepG_put {P : Program} {s : Bool} {o : SO} {K : Env → Fz → Hp → Prop} {σ : Env} {F : Fz} {M : Hp}
    (h : stepG P s o K σ F M) : stepG P s o (fun σ' F' M' => (∃ v, σ' = put σ o.d v) ∧ K σ' F' M') σ F M := by
  unfold stepG at *
  split
  · rename_i hg; rw [hg] at h; exact stepK_put h
  · rename_i t want hg
    rw [hg] at h
    obtain ⟨v, h1, h2, h3⟩ := h
    exact ⟨v, h1, fun a => stepK_put (h2 a), fun a => ⟨⟨_, rfl⟩, h3 a⟩⟩
theorem opsW_stay {P : Program} {s : Bool} : ∀ {l : List SO} {K : Env → Fz → Hp → Prop} {σ : Env} {F : Fz} {M : Hp}, opsW P s l K σ F M → opsW P s l (fun σ' F' M' => Stay (opsD l) σ σ' ∧ K σ' F' M') σ F M := by
  intro l
  induction l with
  | nil => intro K σ F M h; exact ⟨Stay.refl _ _, h⟩
  | cons o l ih =>
    intro K σ F M h
    refine stepG_mono (fun σ1 F1 M1 hk => ?_) (stepG_put h)
    obtain ⟨⟨v, rfl⟩, hk⟩ := hk
    refine opsW_mono (fun σ2 F2 M2 hk => ?_) (ih hk)
    have hd : ∀ t, o.d = some t → t ∈ opsD (o :: l) := fun t ht => by simp [opsD, ht]
    have hs : ∀ t, t ∈ opsD l → t ∈ opsD (o :: l) := fun t ht => by
      simp only [opsD, List.filterMap_cons] at ht ⊢
      split
      · exact ht
      · exact List.mem_cons_of_mem _ ht
    exact ⟨(Stay.put hd).trans (hk.1.mono hs), hk.2⟩
theorem W_stay {P : Program} : ∀ {c : SC} {Q : Post} {σ : Env} {F : Fz} {M : Hp}, W P c Q σ F M → W P c (fun x σ' F' M' => Stay c.defs σ σ' ∧ Q x σ' F' M') σ F M := by
  intro c
  induction c with
  | bad => intro Q σ F M h; exact h.elim
  | skip => intro Q σ F M h; exact ⟨Stay.refl _ _, h⟩
  | ret => intro Q σ F M h; exact ⟨Stay.refl _ _, h⟩
  | exit i => intro Q σ F M h; exact ⟨Stay.refl _ _, h⟩
  | ops l => intro Q σ F M h; exact opsW_stay h
  | opd l => intro Q σ F M h; exact opsW_stay h
  | opq l => intro Q σ F M h; exact opsW_stay h
  | seq a b iha ihb =>
    intro Q σ F M h
    show W P a (Post.andThen (W P b _) _) σ F M
    refine W_mono (fun x σ1 F1 M1 hx => ?_) (iha h)
    cases x with
    | n => exact W_mono (fun x σ2 F2 M2 hy => ⟨(hx.1.mono (by simp [SC.defs]; intros; simp [*])).trans (hy.1.mono (by simp [SC.defs]; intros; simp [*])), hy.2⟩) (ihb hx.2)
    | r => exact ⟨hx.1.mono (by simp [SC.defs]; intros; simp [*]), hx.2⟩
    | e i => exact ⟨hx.1.mono (by simp [SC.defs]; intros; simp [*]), hx.2⟩
  | cond c a b iha ihb =>
    intro Q σ F M h
    obtain ⟨t, h1, h2, h3⟩ := h
    exact ⟨t, h1, fun ht => W_mono (fun x σ1 F1 M1 hx => ⟨hx.1.mono (by simp [SC.defs]; intros; simp [*]), hx.2⟩) (iha (h2 ht)), fun ht => W_mono (fun x σ1 F1 M1 hx => ⟨hx.1.mono (by simp [SC.defs]; intros; simp [*]), hx.2⟩) (ihb (h3 ht))⟩
  | block i c ih =>
    intro Q σ F M h
    show W P c (Post.inBlock i _) σ F M
    refine W_mono (fun x σ1 F1 M1 hx => ?_) (ih h)
    cases x with
    | n => exact hx
    | r => exact hx
    | e j => simp only [Post.inBlock] at hx ⊢; split <;> simp_all [SC.defs]
  | loop c ih =>
    intro Q σ F M h
    obtain ⟨I, n, ⟨F1, M1, hw, h1⟩, h2⟩ := h
    refine ⟨fun n σ' F' M' => Stay c.defs σ σ' ∧ I n σ' F' M', n, ⟨F1, M1, hw, Stay.refl _ _, h1⟩, fun n σ1 F1 M1 hi => ?_⟩
    refine W_mono (fun x σ2 F2 M2 hx => ?_) (ih (h2 n σ1 F1 M1 hi.2))
    cases x with
    | n => obtain ⟨hs, m, hm, hk⟩ := hx; exact ⟨m, hm, hi.1.trans hs, hk⟩
    | r => exact ⟨hi.1.trans hx.1, hx.2⟩
    | e j => exact ⟨hi.1.trans hx.1, hx.2⟩
structure At (I : Env → Fz → Hp → Prop) (σ : Env) (F : Fz) (M : Hp) : Prop where
  h : I σ F M
structure Nxt (I : Nat → Env → Fz → Hp → Prop) (N i : Nat) (σ : Env) (F : Fz) (M : Hp) : Prop where
  lt : i < N
  h : I (i + 1) σ F M
structure Nxd (I : Nat → Env → Fz → Hp → Prop) (n : Nat) (σ : Env) (F : Fz) (M : Hp) : Prop where
  h : ∃ m, m < n ∧ I m σ F M
section
variable {P : Program} {a b c : SC} {Q : Post} {σ : Env} {F : Fz} {M : Hp}
theorem loop_st (I : Nat → Env → Fz → Hp → Prop) (n : Nat) (h0 : I n σ F M)
    (h : ∀ n σ' F' M', Stay c.defs σ σ' → I n σ' F' M' → W P c (Post.andThen (Nxd I n) Q) σ' F' M') : W P (.loop c) Q σ F M := by
  refine ⟨fun n σ' F' M' => Stay c.defs σ σ' ∧ I n σ' F' M', n, ⟨F, M, Wk.refl F M, Stay.refl _ _, h0⟩, fun n σ1 F1 M1 hi => ?_⟩
  refine W_mono (fun x σ2 F2 M2 hx => ?_) (W_stay (h n σ1 F1 M1 hi.1 hi.2))
  cases x with
  | n => obtain ⟨hs, ⟨m, hm, hk⟩⟩ := hx; exact ⟨m, hm, hi.1.trans hs, hk⟩
  | r => exact hx.2
  | e j => exact hx.2
theorem loop_up (N : Nat) (I : Nat → Env → Fz → Hp → Prop) (h0 : I 0 σ F M)
    (h : ∀ i σ' F' M', i ≤ N → Stay c.defs σ σ' → I i σ' F' M' → W P c (Post.andThen (Nxt I N i) Q) σ' F' M') : W P (.loop c) Q σ F M := by
  refine loop_st (fun n σ F M => ∃ i, i + n = N ∧ I i σ F M) N ⟨0, by omega, h0⟩ ?_
  rintro n σ' F' M' hs ⟨i, hi, hI⟩
  refine W_mono (fun x σ2 F2 M2 hx => ?_) (h i σ' F' M' (by omega) hs hI)
  cases x with
  | n => obtain ⟨hlt, hk⟩ := hx; exact ⟨⟨n - 1, by omega, i + 1, by omega, hk⟩⟩
  | r => exact hx
  | e j => exact hx
theorem loop_out (h : W P c (Post.andThen (fun _ _ _ => False) Q) σ F M) : W P (.loop c) Q σ F M :=
  loop_of (fun _ σ' F' M' => σ' = σ ∧ F' = F ∧ M' = M) 0 ⟨rfl, rfl, rfl⟩ (by
    rintro n σ' F' M' ⟨rfl, rfl, rfl⟩
    exact W_mono (fun x _ _ _ hx => by
      cases x with
      | n => exact hx.elim
      | r => exact hx
      | e i => exact hx) h)
theorem block_st {i : Nat} (I : Env → Fz → Hp → Prop) (h : W P c (Post.inBlock i (cutQ (At I) Q)) σ F M) (hn : ∀ σ' F' M', Stay c.defs σ σ' → I σ' F' M' → Q .n σ' F' M') : W P (.block i c) Q σ F M := by
  show W P c (Q.inBlock i) σ F M
  refine W_mono (fun x σ2 F2 M2 hx => ?_) (W_stay h)
  cases x with
  | n => exact hn _ _ _ hx.1 hx.2.h
  | r => exact hx.2
  | e j =>
    simp only [Post.inBlock] at hx ⊢
    split
    · rename_i hj; rw [if_pos hj] at hx; exact hn _ _ _ hx.1 hx.2.h
    · rename_i hj; rw [if_neg hj] at hx; exact hx.2
end
theorem tO {P : Program} {s : Bool} {d : Option Nat} {l : List SO} {K : Env → Fz → Hp → Prop} {σ : Env} {F : Fz} {M : Hp} {b : Bool} {k : SK} (h1 : b = true → stepW P s d l K σ F M k) (h2 : b = false → opsW P s l K (put σ d undef) F M) : gK P s d l K σ F M true k (some (.bool b)) :=
  gK_of h1 h2
theorem fO {P : Program} {s : Bool} {d : Option Nat} {l : List SO} {K : Env → Fz → Hp → Prop} {σ : Env} {F : Fz} {M : Hp} {b : Bool} {k : SK} (h1 : b = false → stepW P s d l K σ F M k) (h2 : b = true → opsW P s l K (put σ d undef) F M) : gK P s d l K σ F M false k (some (.bool b)) :=
  gK_of h1 h2
section
variable {P : Program} {s : Bool} {d : Option Nat} {l : List SO} {K : Env → Fz → Hp → Prop} {σ : Env} {F : Fz} {M : Hp} {k : SK} {a b : SC} {Q : Post} {p : Prop} [Decidable p]
theorem tD (h1 : p → stepW P s d l K σ F M k) (h2 : ¬ p → opsW P s l K (put σ d undef) F M) : gK P s d l K σ F M true k (some (.bool (decide p))) :=
  tO (fun h => h1 (of_decide_eq_true h)) (fun h => h2 (of_decide_eq_false h))
theorem fD (h1 : ¬ p → stepW P s d l K σ F M k) (h2 : p → opsW P s l K (put σ d undef) F M) : gK P s d l K σ F M false k (some (.bool (decide p))) :=
  fO (fun h => h1 (of_decide_eq_false h)) (fun h => h2 (of_decide_eq_true h))
theorem tN (h1 : ¬ p → stepW P s d l K σ F M k) (h2 : p → opsW P s l K (put σ d undef) F M) : gK P s d l K σ F M true k (some (.bool (!decide p))) :=
  tO (fun h => h1 (of_decide_eq_false (by simpa using h))) (fun h => h2 (of_decide_eq_true (by simpa using h)))
theorem fN (h1 : p → stepW P s d l K σ F M k) (h2 : ¬ p → opsW P s l K (put σ d undef) F M) : gK P s d l K σ F M false k (some (.bool (!decide p))) :=
  fO (fun h => h1 (of_decide_eq_true (by simpa using h))) (fun h => h2 (of_decide_eq_false (by simpa using h)))
theorem cO {t : Bool} (h1 : t = true → W P a Q σ F M) (h2 : t = false → W P b Q σ F M) : condK P a b Q σ F M (some (.bool t)) := condK_of h1 h2
theorem cD (h1 : p → W P a Q σ F M) (h2 : ¬ p → W P b Q σ F M) : condK P a b Q σ F M (some (.bool (decide p))) :=
  condK_of (fun h => h1 (of_decide_eq_true h)) (fun h => h2 (of_decide_eq_false h))
theorem cN (h1 : ¬ p → W P a Q σ F M) (h2 : p → W P b Q σ F M) : condK P a b Q σ F M (some (.bool (!decide p))) :=
  condK_of (fun h => h1 (of_decide_eq_false (by simpa using h))) (fun h => h2 (of_decide_eq_true (by simpa using h)))
theorem cB {c : Bool} (h1 : c = false → W P a Q σ F M) (h2 : c = true → W P b Q σ F M) : condK P a b Q σ F M (some (.bool (!c))) :=
  condK_of (fun h => h1 (by simpa using h)) (fun h => h2 (by simpa using h))
end
section
variable {P : Program} {s : Bool} {d : Option Nat} {l : List SO} {K : Env → Fz → Hp → Prop} {σ : Env} {F : Fz} {M : Hp} {k : SK} {c : Bool}
theorem tB (h1 : c = false → stepW P s d l K σ F M k) (h2 : c = true → opsW P s l K (put σ d undef) F M) : gK P s d l K σ F M true k (some (.bool (!c))) :=
  tO (fun h => h1 (by simpa using h)) (fun h => h2 (by simpa using h))
theorem fB (h1 : c = true → stepW P s d l K σ F M k) (h2 : c = false → opsW P s l K (put σ d undef) F M) : gK P s d l K σ F M false k (some (.bool (!c))) :=
  fO (fun h => h1 (by simpa using h)) (fun h => h2 (by simpa using h))
end
theorem upd_none2 {M : Hp} {b r : Nat} {e : Ent} : ((M.upd b e) r = none) = ((¬ r = b ∧ ¬ b = r) ∧ M r = none) := by
  rw [upd_none]
  apply propext
  constructor
  · rintro ⟨h1, h2⟩; exact ⟨⟨h1, fun e => h1 e.symm⟩, h2⟩
  · rintro ⟨⟨h1, _⟩, h2⟩; exact ⟨h1, h2⟩
def Fz.all (F : Fz) (A : Hp) : Fz := { f := fun b => blk F A b, mp := F.mp }
def Hp.join (A B : Hp) : Hp := fun b => match A b with | some e => some e | none => B b
theorem join_none {A B : Hp} {b : Nat} : (A.join B) b = none ↔ A b = none ∧ B b = none := by
  unfold Hp.join; cases h : A b <;> simp
theorem join_left {A B : Hp} {b : Nat} {e : Ent} (h : A b = some e) : (A.join B) b = some e := by
  unfold Hp.join; rw [h]
theorem join_right {A B : Hp} {b : Nat} (h : A b = none) : (A.join B) b = B b := by
  unfold Hp.join; rw [h]
theorem join_noHp (A : Hp) : A.join noHp = A := by
  funext b; unfold Hp.join; cases A b <;> rfl
theorem blk_all {F : Fz} {A N : Hp} (hd : ∀ b, N b ≠ none → A b = none ∧ F b = none) (b : Nat) : blk (F.all A) N b = blk F (A.join N) b := by
  cases hn : N b with
  | some e =>
    have := (hd b (by rw [hn]; simp)).1
    rw [blk_M hn, blk_M (e := e) (by rw [join_right this]; exact hn)]
  | none =>
    cases ha : A b with
    | some e => rw [blk_M (e := e) (join_left ha)]; simp [blk, hn, Fz.all, ha]
    | none => simp [blk, hn, Fz.all, ha, Hp.join]
theorem CallsA.lend {P : Program} {f : FuncId} {args : List Value} {F : Fz} {A B : Hp} {R : Value → Fz → Hp → Prop} (hd : ∀ b, B b ≠ none → A b = none)
    (h : CallsA P f args (F.all A) B fun v F' N => F' = F.all A ∧ R v F' N) :
    CallsA P f args F (A.join B) fun v F' M' => F' = F ∧ ∃ N, M' = A.join N ∧ (∀ b, N b ≠ none → A b = none ∧ F b = none) ∧ R v (F.all A) N := by
  refine ⟨h.1, fun w hw => ?_⟩
  have hr : Rel (F.all A) B w := by
    refine ⟨fun b c hb => ?_, fun b n hb => ?_, fun b hb => ?_, hw.mp⟩
    · cases ha : A b with
      | some e =>
        have hb' : blk F A b = some c := hb
        rw [blk_M ha] at hb'
        cases hb'
        obtain ⟨cur, h1, h2, _⟩ := hw.mu b e (join_left ha)
        exact ⟨cur, _, _, h1, h2⟩
      | none =>
        have hb' : blk F A b = some c := hb
        simp only [blk, ha] at hb'
        exact hw.fz b c hb'
    · exact hw.mu b n (by rw [join_right (hd b (by rw [hb]; simp))]; exact hb)
    · have ha := hd b hb
      show blk F A b = none
      simp only [blk, ha]
      exact hw.ap b (fun e => hb (join_none.1 e).2)
  refine (h.2 w hr).mono fun en w' ⟨v, F', N, he, h1, h2, hF, hR⟩ => ?_
  subst hF
  have hN : ∀ b, N b ≠ none → A b = none ∧ F b = none := fun b hb => by
    have h3 : blk F A b = none := h1.ap b hb
    cases ha : A b with
    | some e => rw [blk_M ha] at h3; cases h3
    | none => simp only [blk, ha] at h3; exact ⟨rfl, h3⟩
  refine ⟨v, F, A.join N, he, ⟨fun b c hb => ?_, fun b n hb => ?_, fun b hb => ?_, h1.mp⟩, ⟨h2.os, h2.tape, h2.output, h2.size, fun b hb hm hp => ?_⟩, rfl, N, rfl, hN, hR⟩
  · have ha : A b = none := by
      cases ha : A b with
      | none => rfl
      | some e => have := hw.ap b (by rw [join_left ha]; simp); rw [hb] at this; cases this
    exact h1.fz b c (by show blk F A b = some c; simp only [blk, ha]; exact hb)
  · cases ha : A b with
    | some x =>
      rw [join_left ha] at hb
      cases hb
      obtain ⟨cur, g1, g2, g3⟩ := hw.mu b n (join_left ha)
      have hlt := (Array.getElem?_eq_some_iff.1 g1).1
      have hB : B b = none := by
        cases hB : B b with
        | none => rfl
        | some x => have := hd b (by rw [hB]; simp); rw [ha] at this; cases this
      have := h2.block b hlt hB (hw.noMap (join_left ha))
      exact ⟨cur, by rw [this.1]; exact g1, g2, g3⟩
    | none => exact h1.mu b n (by rw [join_right ha] at hb; exact hb)
  · cases ha : A b with
    | some e => exact hw.ap b (by rw [join_left ha]; simp)
    | none =>
      rw [join_right ha] at hb
      exact (hN b hb).2
  · obtain ⟨ha, hB⟩ := join_none.1 hm
    obtain ⟨g1, g2, g3, _⟩ := h2.block b hb hB hp
    exact ⟨g1, join_none.2 ⟨ha, g2⟩, g3, id⟩
def Makes (F : Fz) (M : Hp) (Q : Value → Hp → Prop) : Value → Fz → Hp → Prop := fun v F' M' => F' = F ∧ Keep M M' ∧ Old F M' ∧ Q v M'
theorem CallsA.lendAll {P : Program} {f : FuncId} {args : List Value} {F : Fz} {M : Hp} {Q : Value → Hp → Prop} (hold : Old F M)
    (h : CallsA P f args (F.all M) noHp (Makes (F.all M) noHp Q)) :
    CallsA P f args F M (Makes F M fun v M' => ∃ N, M' = M.join N ∧ (∀ b, N b ≠ none → M b = none ∧ F b = none) ∧ Q v N) := by
  have h1 := CallsA.lend (A := M) (B := noHp) (R := fun v _ N => Q v N) (fun b hb => absurd rfl hb) (h.mono fun v F' N hq => ⟨hq.1, hq.2.2.2⟩)
  rw [join_noHp] at h1
  refine h1.mono fun v F' M' hq => ?_
  obtain ⟨hF, N, rfl, hN, hQ⟩ := hq
  refine ⟨hF, fun b e hb => join_left hb, fun b hb => ?_, N, rfl, hN, hQ⟩
  rw [join_none]
  refine ⟨hold b hb, ?_⟩
  cases hn : N b with
  | none => rfl
  | some e => exact absurd (hN b (by rw [hn]; simp)).2 hb
theorem CallsA.lendSame {P : Program} {f : FuncId} {args : List Value} {F : Fz} {M : Hp} {v : Value}
    (h : CallsA P f args (F.all M) noHp (fun u F' M' => u = v ∧ F' = F.all M ∧ M' = noHp)) : CallsA P f args F M (fun u F' M' => u = v ∧ F' = F ∧ M' = M) := by
  have h1 := CallsA.lend (A := M) (B := noHp) (R := fun u _ N => u = v ∧ N = noHp) (fun b hb => absurd rfl hb) (h.mono fun u F' N hq => ⟨hq.2.1, hq.1, hq.2.2⟩)
  rw [join_noHp] at h1
  refine h1.mono fun u F' M' hq => ?_
  obtain ⟨hF, N, rfl, hN, hu, hn⟩ := hq
  rw [hn, join_noHp]
  exact ⟨hu, hF, rfl⟩
theorem RdG.all {α : Type} {sz : Nat} {f : α → List Value} {F : Fz} {M N : Hp} {u : Value} {l : List α} (hd : ∀ b, N b ≠ none → M b = none ∧ F b = none) (h : RdG sz f (F.all M) N u l) : RdG sz f F (M.join N) u l := by
  obtain ⟨h1, ad, cap, h2, h3, h4⟩ := h
  refine ⟨h1, ad, cap, h2, h3, ?_⟩
  rcases h4 with h4 | ⟨b, o, cs, g1, g2, g3⟩
  · exact .inl h4
  · exact .inr ⟨b, o, cs, g1, by rw [← blk_all hd]; exact g2, g3⟩
theorem RdG.lent {α : Type} {sz : Nat} {f : α → List Value} {F : Fz} {M : Hp} {u : Value} {l : List α} (h : RdG sz f F M u l) {N : Hp} (hN : Old (F.all M) N) : RdG sz f (F.all M) N u l := by
  obtain ⟨h1, ad, cap, h2, h3, h4⟩ := h
  refine ⟨h1, ad, cap, h2, h3, ?_⟩
  rcases h4 with h4 | ⟨b, o, cs, g1, g2, g3⟩
  · exact .inl h4
  · exact .inr ⟨b, o, cs, g1, hN.blk g2, g3⟩
theorem ne_of_blk {F : Fz} {M : Hp} {b r : Nat} {cs : List Value} (h : blk F M b = some cs) (hF : F r = none) (hM : M r = none) : ¬ b = r := by
  rintro rfl
  simp [blk, hM, hF] at h
theorem blk_upd_known {F : Fz} {M : Hp} {b r : Nat} {e : Ent} (h : (blk F M b).isSome = true) (hF : F r = none) (hM : M r = none) : blk F (M.upd r e) b = blk F M b := by
  obtain ⟨cs, hc⟩ := Option.isSome_iff_exists.1 h
  exact blk_upd_ne (ne_of_blk hc hF hM)
theorem RdG.rows {α : Type} {sz : Nat} {f : α → List Value} {F : Fz} {M : Hp} {a : Option Addr} {c : Nat} {l : List α} (h : RdG sz f F M (.slice a l.length c) l) (hl : 0 < l.length) :
    ∃ b o cs, a = some ⟨b, o, none⟩ ∧ blk F M b = some cs ∧ ∀ i (hi : i < l.length), o + i * sz + sz ≤ cs.length ∧ (cs.drop (o + i * sz)).take sz = f l[i] := by
  obtain ⟨_, ad, cap, _, e, h⟩ := h
  cases e
  rcases h with h | ⟨b, o, cs, rfl, hb, hc⟩
  · rw [h] at hl; simp at hl
  · exact ⟨b, o, cs, rfl, hb, hc⟩
end Go.Ax
namespace Go.Ax
open Go
set_option linter.unusedVariables false
set_option linter.unusedSimpArgs false
structure By where
  st : Int
  n : Int
  b : Int
  o : Int
  i : Int
def By.cs (s : By) : List Value := [.int .i64 s.st, .int .i64 s.n, .int .i64 s.b, .int .i64 s.o, .int .i64 s.i]
def By.val (s : By) : Value := .agg s.cs.toArray
@[go_sem] theorem By.fold2 {s : By} : Value.agg s.cs.toArray = s.val := rfl
@[go_sem] theorem By.cells_m {s : By} : Value.cells.match_1 (fun _ => Array Value) s.val (fun cs => cs) (fun u => #[u]) = s.cs.toArray := rfl
@[go_sem] theorem By.cells_val {s : By} : s.val.cells = s.cs.toArray := rfl
@[go_sem] theorem By.cs_size {s : By} : s.cs.toArray.size = 5 := rfl
@[go_sem] theorem By.cs_len {s : By} : s.cs.length = 5 := rfl
@[go_sem] theorem By.cs_plain {s : By} : plainCells s.cs = True := by
  apply eq_true
  intro u hu
  simp only [By.cs, List.mem_cons, List.not_mem_nil, or_false] at hu
  rcases hu with rfl | rfl | rfl | rfl | rfl <;> rfl
theorem By.len (s : By) : s.cs.length = 5 := rfl
@[go_sem] theorem By.take_all {s : By} : s.cs.take 5 = s.cs := rfl
@[go_sem] theorem By.take0 {s : By} : s.cs.take 0 = [] := rfl
@[go_sem] theorem By.drop_all {s : By} : s.cs.drop 5 = [] := rfl
@[go_sem] theorem By.ld {s : By} : rd true 5 s.cs 0 = some s.val := rfl
@[go_sem] theorem By.get0 {s : By} : s.cs[0]? = some (.int .i64 s.st) := rfl
@[go_sem] theorem By.ld0 {s : By} : rd false 1 s.cs 0 = some (.int .i64 s.st) := rfl
@[go_sem] theorem By.get1 {s : By} : s.cs[1]? = some (.int .i64 s.n) := rfl
@[go_sem] theorem By.ld1 {s : By} : rd false 1 s.cs 1 = some (.int .i64 s.n) := rfl
@[go_sem] theorem By.get2 {s : By} : s.cs[2]? = some (.int .i64 s.b) := rfl
@[go_sem] theorem By.ld2 {s : By} : rd false 1 s.cs 2 = some (.int .i64 s.b) := rfl
@[go_sem] theorem By.get3 {s : By} : s.cs[3]? = some (.int .i64 s.o) := rfl
@[go_sem] theorem By.ld3 {s : By} : rd false 1 s.cs 3 = some (.int .i64 s.o) := rfl
@[go_sem] theorem By.get4 {s : By} : s.cs[4]? = some (.int .i64 s.i) := rfl
@[go_sem] theorem By.ld4 {s : By} : rd false 1 s.cs 4 = some (.int .i64 s.i) := rfl
theorem By.row {cs : List Value} {p : Nat} {s : By} (h : (cs.drop p).take 5 = s.cs) : cs[p]? = some (.int .i64 s.st) ∧ cs[p + 1]? = some (.int .i64 s.n) ∧ cs[p + 2]? = some (.int .i64 s.b) ∧ cs[p + 3]? = some (.int .i64 s.o) ∧ cs[p + 4]? = some (.int .i64 s.i) := by
  have key : ∀ j, j < 5 → cs[p + j]? = s.cs[j]? := fun j hj => by
    rw [← h, List.getElem?_take_of_lt hj, List.getElem?_drop]
  exact ⟨key 0 (by decide), key 1 (by decide), key 2 (by decide), key 3 (by decide), key 4 (by decide)⟩
theorem By.fold {x0 : Int} {x1 : Int} {x2 : Int} {x3 : Int} {x4 : Int} : Value.agg [.int .i64 x0, .int .i64 x1, .int .i64 x2, .int .i64 x3, .int .i64 x4].toArray = By.val ⟨x0, x1, x2, x3, x4⟩ := rfl
instance By.dec : DecidableEq By := fun x y => decidable_of_iff (x.st = y.st ∧ x.n = y.n ∧ x.b = y.b ∧ x.o = y.o ∧ x.i = y.i) (by cases x; cases y; simp)
theorem decEq_By (a b : By) : decide (a = b) = (decide (a.st = b.st) && (decide (a.n = b.n) && (decide (a.b = b.b) && (decide (a.o = b.o) && (decide (a.i = b.i) && true))))) := by
  rw [Bool.eq_iff_iff]
  cases a; cases b
  simp
@[go_sem] theorem eqV_By (a b : By) : eqV (.st [(false, 0, 1, .i), (false, 1, 1, .i), (false, 2, 1, .i), (false, 3, 1, .i), (false, 4, 1, .i)]) a.val b.val = some (decide (a = b)) := by
  rw [decEq_By]; rfl
structure Al where
  p : Int
  w : Int
def Al.cs (s : Al) : List Value := [.int .i64 s.p, .int .i64 s.w]
def Al.val (s : Al) : Value := .agg s.cs.toArray
@[go_sem] theorem Al.fold2 {s : Al} : Value.agg s.cs.toArray = s.val := rfl
@[go_sem] theorem Al.cells_m {s : Al} : Value.cells.match_1 (fun _ => Array Value) s.val (fun cs => cs) (fun u => #[u]) = s.cs.toArray := rfl
@[go_sem] theorem Al.cells_val {s : Al} : s.val.cells = s.cs.toArray := rfl
@[go_sem] theorem Al.cs_size {s : Al} : s.cs.toArray.size = 2 := rfl
@[go_sem] theorem Al.cs_len {s : Al} : s.cs.length = 2 := rfl
@[go_sem] theorem Al.cs_plain {s : Al} : plainCells s.cs = True := by
  apply eq_true
  intro u hu
  simp only [Al.cs, List.mem_cons, List.not_mem_nil, or_false] at hu
  rcases hu with rfl | rfl <;> rfl
@[go_sem] theorem Al.take_all {s : Al} : s.cs.take 2 = s.cs := rfl
@[go_sem] theorem Al.take0 {s : Al} : s.cs.take 0 = [] := rfl
@[go_sem] theorem Al.drop_all {s : Al} : s.cs.drop 2 = [] := rfl
@[go_sem] theorem Al.ld {s : Al} : rd true 2 s.cs 0 = some s.val := rfl
@[go_sem] theorem Al.get0 {s : Al} : s.cs[0]? = some (.int .i64 s.p) := rfl
@[go_sem] theorem Al.ld0 {s : Al} : rd false 1 s.cs 0 = some (.int .i64 s.p) := rfl
@[go_sem] theorem Al.get1 {s : Al} : s.cs[1]? = some (.int .i64 s.w) := rfl
@[go_sem] theorem Al.ld1 {s : Al} : rd false 1 s.cs 1 = some (.int .i64 s.w) := rfl
theorem Al.fold {x0 : Int} {x1 : Int} : Value.agg [.int .i64 x0, .int .i64 x1].toArray = Al.val ⟨x0, x1⟩ := rfl
instance Al.dec : DecidableEq Al := fun x y => decidable_of_iff (x.p = y.p ∧ x.w = y.w) (by cases x; cases y; simp)
theorem decEq_Al (a b : Al) : decide (a = b) = (decide (a.p = b.p) && (decide (a.w = b.w) && true)) := by
  rw [Bool.eq_iff_iff]
  cases a; cases b
  simp
@[go_sem] theorem eqV_Al (a b : Al) : eqV (.st [(false, 0, 1, .i), (false, 1, 1, .i)]) a.val b.val = some (decide (a = b)) := by
  rw [decEq_Al]; rfl
structure Bl where
  st : Int
  lA : Option Addr
  lC : Nat
  l : List By
def Bl.cs (s : Bl) : List Value := [.int .i64 s.st, .slice s.lA s.l.length s.lC]
def Bl.val (s : Bl) : Value := .agg s.cs.toArray
@[go_sem] theorem Bl.fold2 {s : Bl} : Value.agg s.cs.toArray = s.val := rfl
@[go_sem] theorem Bl.cells_m {s : Bl} : Value.cells.match_1 (fun _ => Array Value) s.val (fun cs => cs) (fun u => #[u]) = s.cs.toArray := rfl
@[go_sem] theorem Bl.cells_val {s : Bl} : s.val.cells = s.cs.toArray := rfl
@[go_sem] theorem Bl.cs_size {s : Bl} : s.cs.toArray.size = 2 := rfl
@[go_sem] theorem Bl.cs_len {s : Bl} : s.cs.length = 2 := rfl
@[go_sem] theorem Bl.cs_plain {s : Bl} : plainCells s.cs = True := by
  apply eq_true
  intro u hu
  simp only [Bl.cs, List.mem_cons, List.not_mem_nil, or_false] at hu
  rcases hu with rfl | rfl <;> rfl
theorem Bl.plain (s : Bl) : plainCells s.cs := of_eq_true Bl.cs_plain
theorem Bl.len (s : Bl) : s.cs.length = 2 := rfl
@[go_sem] theorem Bl.take_all {s : Bl} : s.cs.take 2 = s.cs := rfl
@[go_sem] theorem Bl.take0 {s : Bl} : s.cs.take 0 = [] := rfl
@[go_sem] theorem Bl.drop_all {s : Bl} : s.cs.drop 2 = [] := rfl
@[go_sem] theorem Bl.ld {s : Bl} : rd true 2 s.cs 0 = some s.val := rfl
@[go_sem] theorem Bl.get0 {s : Bl} : s.cs[0]? = some (.int .i64 s.st) := rfl
@[go_sem] theorem Bl.ld0 {s : Bl} : rd false 1 s.cs 0 = some (.int .i64 s.st) := rfl
@[go_sem] theorem Bl.get1 {s : Bl} : s.cs[1]? = some (.slice s.lA s.l.length s.lC) := rfl
@[go_sem] theorem Bl.ld1 {s : Bl} : rd false 1 s.cs 1 = some (.slice s.lA s.l.length s.lC) := rfl
theorem Bl.row {cs : List Value} {p : Nat} {s : Bl} (h : (cs.drop p).take 2 = s.cs) : cs[p]? = some (.int .i64 s.st) ∧ cs[p + 1]? = some (.slice s.lA s.l.length s.lC) := by
  have key : ∀ j, j < 2 → cs[p + j]? = s.cs[j]? := fun j hj => by
    rw [← h, List.getElem?_take_of_lt hj, List.getElem?_drop]
  exact ⟨key 0 (by decide), key 1 (by decide)⟩
structure Ste where
  blocksA : Option Addr
  blocksC : Nat
  blocks : List Bl
  nextA : Option Addr
  nextC : Nat
  next : List Int
  inp : Int
  p : Int
  w : Int
def Ste.cs (s : Ste) : List Value := [.slice s.blocksA s.blocks.length s.blocksC, .slice s.nextA s.next.length s.nextC, .int .i64 s.inp, .int .i64 s.p, .int .i64 s.w]
def Ste.val (s : Ste) : Value := .agg s.cs.toArray
@[go_sem] theorem Ste.fold2 {s : Ste} : Value.agg s.cs.toArray = s.val := rfl
@[go_sem] theorem Ste.cells_m {s : Ste} : Value.cells.match_1 (fun _ => Array Value) s.val (fun cs => cs) (fun u => #[u]) = s.cs.toArray := rfl
@[go_sem] theorem Ste.cells_val {s : Ste} : s.val.cells = s.cs.toArray := rfl
@[go_sem] theorem Ste.cs_size {s : Ste} : s.cs.toArray.size = 5 := rfl
@[go_sem] theorem Ste.cs_len {s : Ste} : s.cs.length = 5 := rfl
@[go_sem] theorem Ste.cs_plain {s : Ste} : plainCells s.cs = True := by
  apply eq_true
  intro u hu
  simp only [Ste.cs, List.mem_cons, List.not_mem_nil, or_false] at hu
  rcases hu with rfl | rfl | rfl | rfl | rfl <;> rfl
@[go_sem] theorem Ste.take_all {s : Ste} : s.cs.take 5 = s.cs := rfl
@[go_sem] theorem Ste.take0 {s : Ste} : s.cs.take 0 = [] := rfl
@[go_sem] theorem Ste.drop_all {s : Ste} : s.cs.drop 5 = [] := rfl
@[go_sem] theorem Ste.ld {s : Ste} : rd true 5 s.cs 0 = some s.val := rfl
@[go_sem] theorem Ste.get0 {s : Ste} : s.cs[0]? = some (.slice s.blocksA s.blocks.length s.blocksC) := rfl
@[go_sem] theorem Ste.ld0 {s : Ste} : rd false 1 s.cs 0 = some (.slice s.blocksA s.blocks.length s.blocksC) := rfl
@[go_sem] theorem Ste.get1 {s : Ste} : s.cs[1]? = some (.slice s.nextA s.next.length s.nextC) := rfl
@[go_sem] theorem Ste.ld1 {s : Ste} : rd false 1 s.cs 1 = some (.slice s.nextA s.next.length s.nextC) := rfl
@[go_sem] theorem Ste.get2 {s : Ste} : s.cs[2]? = some (.int .i64 s.inp) := rfl
@[go_sem] theorem Ste.ld2 {s : Ste} : rd false 1 s.cs 2 = some (.int .i64 s.inp) := rfl
@[go_sem] theorem Ste.get3 {s : Ste} : s.cs[3]? = some (.int .i64 s.p) := rfl
@[go_sem] theorem Ste.ld3 {s : Ste} : rd false 1 s.cs 3 = some (.int .i64 s.p) := rfl
@[go_sem] theorem Ste.get4 {s : Ste} : s.cs[4]? = some (.int .i64 s.w) := rfl
@[go_sem] theorem Ste.ld4 {s : Ste} : rd false 1 s.cs 4 = some (.int .i64 s.w) := rfl
@[go_sem] theorem Ste.sub_bad {s : Ste} : rd true 2 s.cs 3 = some (Al.val ⟨s.p, s.w⟩) := rfl
theorem Ste.row {cs : List Value} {p : Nat} {s : Ste} (h : (cs.drop p).take 5 = s.cs) : cs[p]? = some (.slice s.blocksA s.blocks.length s.blocksC) ∧ cs[p + 1]? = some (.slice s.nextA s.next.length s.nextC) ∧ cs[p + 2]? = some (.int .i64 s.inp) ∧ cs[p + 3]? = some (.int .i64 s.p) ∧ cs[p + 4]? = some (.int .i64 s.w) := by
  have key : ∀ j, j < 5 → cs[p + j]? = s.cs[j]? := fun j hj => by
    rw [← h, List.getElem?_take_of_lt hj, List.getElem?_drop]
  exact ⟨key 0 (by decide), key 1 (by decide), key 2 (by decide), key 3 (by decide), key 4 (by decide)⟩
structure Cl where
  b : Int
  p : Int
  k : Int
  v : V
  lA : Option Addr
  lC : Nat
  l : List Ba
def Cl.cs (s : Cl) : List Value := [.int .i64 s.b, .int .i64 s.p, .int .i64 s.k, .int .i64 s.v.w, .bool s.v.no, .int .i64 s.v.low, .int .i64 s.v.high, .int .i64 s.v.free, .int .i64 s.v.bits, .slice s.lA s.l.length s.lC]
def Cl.val (s : Cl) : Value := .agg s.cs.toArray
@[go_sem] theorem Cl.fold2 {s : Cl} : Value.agg s.cs.toArray = s.val := rfl
@[go_sem] theorem Cl.cells_m {s : Cl} : Value.cells.match_1 (fun _ => Array Value) s.val (fun cs => cs) (fun u => #[u]) = s.cs.toArray := rfl
@[go_sem] theorem Cl.cells_val {s : Cl} : s.val.cells = s.cs.toArray := rfl
@[go_sem] theorem Cl.cs_size {s : Cl} : s.cs.toArray.size = 10 := rfl
@[go_sem] theorem Cl.cs_len {s : Cl} : s.cs.length = 10 := rfl
@[go_sem] theorem Cl.cs_plain {s : Cl} : plainCells s.cs = True := by
  apply eq_true
  intro u hu
  simp only [Cl.cs, List.mem_cons, List.not_mem_nil, or_false] at hu
  rcases hu with rfl | rfl | rfl | rfl | rfl | rfl | rfl | rfl | rfl | rfl <;> rfl
theorem Cl.plain (s : Cl) : plainCells s.cs := of_eq_true Cl.cs_plain
theorem Cl.len (s : Cl) : s.cs.length = 10 := rfl
@[go_sem] theorem Cl.take_all {s : Cl} : s.cs.take 10 = s.cs := rfl
@[go_sem] theorem Cl.take0 {s : Cl} : s.cs.take 0 = [] := rfl
@[go_sem] theorem Cl.drop_all {s : Cl} : s.cs.drop 10 = [] := rfl
@[go_sem] theorem Cl.ld {s : Cl} : rd true 10 s.cs 0 = some s.val := rfl
@[go_sem] theorem Cl.get0 {s : Cl} : s.cs[0]? = some (.int .i64 s.b) := rfl
@[go_sem] theorem Cl.ld0 {s : Cl} : rd false 1 s.cs 0 = some (.int .i64 s.b) := rfl
@[go_sem] theorem Cl.get1 {s : Cl} : s.cs[1]? = some (.int .i64 s.p) := rfl
@[go_sem] theorem Cl.ld1 {s : Cl} : rd false 1 s.cs 1 = some (.int .i64 s.p) := rfl
@[go_sem] theorem Cl.get2 {s : Cl} : s.cs[2]? = some (.int .i64 s.k) := rfl
@[go_sem] theorem Cl.ld2 {s : Cl} : rd false 1 s.cs 2 = some (.int .i64 s.k) := rfl
@[go_sem] theorem Cl.get3 {s : Cl} : s.cs[3]? = some (.int .i64 s.v.w) := rfl
@[go_sem] theorem Cl.ld3 {s : Cl} : rd false 1 s.cs 3 = some (.int .i64 s.v.w) := rfl
@[go_sem] theorem Cl.get4 {s : Cl} : s.cs[4]? = some (.bool s.v.no) := rfl
@[go_sem] theorem Cl.ld4 {s : Cl} : rd false 1 s.cs 4 = some (.bool s.v.no) := rfl
@[go_sem] theorem Cl.get5 {s : Cl} : s.cs[5]? = some (.int .i64 s.v.low) := rfl
@[go_sem] theorem Cl.ld5 {s : Cl} : rd false 1 s.cs 5 = some (.int .i64 s.v.low) := rfl
@[go_sem] theorem Cl.get6 {s : Cl} : s.cs[6]? = some (.int .i64 s.v.high) := rfl
@[go_sem] theorem Cl.ld6 {s : Cl} : rd false 1 s.cs 6 = some (.int .i64 s.v.high) := rfl
@[go_sem] theorem Cl.get7 {s : Cl} : s.cs[7]? = some (.int .i64 s.v.free) := rfl
@[go_sem] theorem Cl.ld7 {s : Cl} : rd false 1 s.cs 7 = some (.int .i64 s.v.free) := rfl
@[go_sem] theorem Cl.get8 {s : Cl} : s.cs[8]? = some (.int .i64 s.v.bits) := rfl
@[go_sem] theorem Cl.ld8 {s : Cl} : rd false 1 s.cs 8 = some (.int .i64 s.v.bits) := rfl
@[go_sem] theorem Cl.get9 {s : Cl} : s.cs[9]? = some (.slice s.lA s.l.length s.lC) := rfl
@[go_sem] theorem Cl.ld9 {s : Cl} : rd false 1 s.cs 9 = some (.slice s.lA s.l.length s.lC) := rfl
@[go_sem] theorem Cl.sub_abs {s : Cl} : rd true 7 s.cs 3 = some (abV s.v (.slice s.lA s.l.length s.lC)) := rfl
@[go_sem] theorem Cl.sub_num {s : Cl} : rd true 6 s.cs 3 = some (s.v.val) := rfl
theorem Cl.row {cs : List Value} {p : Nat} {s : Cl} (h : (cs.drop p).take 10 = s.cs) : cs[p]? = some (.int .i64 s.b) ∧ cs[p + 1]? = some (.int .i64 s.p) ∧ cs[p + 2]? = some (.int .i64 s.k) ∧ cs[p + 3]? = some (.int .i64 s.v.w) ∧ cs[p + 4]? = some (.bool s.v.no) ∧ cs[p + 5]? = some (.int .i64 s.v.low) ∧ cs[p + 6]? = some (.int .i64 s.v.high) ∧ cs[p + 7]? = some (.int .i64 s.v.free) ∧ cs[p + 8]? = some (.int .i64 s.v.bits) ∧ cs[p + 9]? = some (.slice s.lA s.l.length s.lC) := by
  have key : ∀ j, j < 10 → cs[p + j]? = s.cs[j]? := fun j hj => by
    rw [← h, List.getElem?_take_of_lt hj, List.getElem?_drop]
  exact ⟨key 0 (by decide), key 1 (by decide), key 2 (by decide), key 3 (by decide), key 4 (by decide), key 5 (by decide), key 6 (by decide), key 7 (by decide), key 8 (by decide), key 9 (by decide)⟩
structure En where
  no : Bool
  cellsA : Option Addr
  cellsC : Nat
  cells : List Cl
  newsA : Option Addr
  newsC : Nat
  news : List Int
def En.cs (s : En) : List Value := [.bool s.no, .slice s.cellsA s.cells.length s.cellsC, .slice s.newsA s.news.length s.newsC]
def En.val (s : En) : Value := .agg s.cs.toArray
@[go_sem] theorem En.fold2 {s : En} : Value.agg s.cs.toArray = s.val := rfl
@[go_sem] theorem En.cells_m {s : En} : Value.cells.match_1 (fun _ => Array Value) s.val (fun cs => cs) (fun u => #[u]) = s.cs.toArray := rfl
@[go_sem] theorem En.cells_val {s : En} : s.val.cells = s.cs.toArray := rfl
@[go_sem] theorem En.cs_size {s : En} : s.cs.toArray.size = 3 := rfl
@[go_sem] theorem En.cs_len {s : En} : s.cs.length = 3 := rfl
@[go_sem] theorem En.cs_plain {s : En} : plainCells s.cs = True := by
  apply eq_true
  intro u hu
  simp only [En.cs, List.mem_cons, List.not_mem_nil, or_false] at hu
  rcases hu with rfl | rfl | rfl <;> rfl
@[go_sem] theorem En.take_all {s : En} : s.cs.take 3 = s.cs := rfl
@[go_sem] theorem En.take0 {s : En} : s.cs.take 0 = [] := rfl
@[go_sem] theorem En.drop_all {s : En} : s.cs.drop 3 = [] := rfl
@[go_sem] theorem En.ld {s : En} : rd true 3 s.cs 0 = some s.val := rfl
@[go_sem] theorem En.get0 {s : En} : s.cs[0]? = some (.bool s.no) := rfl
@[go_sem] theorem En.ld0 {s : En} : rd false 1 s.cs 0 = some (.bool s.no) := rfl
@[go_sem] theorem En.get1 {s : En} : s.cs[1]? = some (.slice s.cellsA s.cells.length s.cellsC) := rfl
@[go_sem] theorem En.ld1 {s : En} : rd false 1 s.cs 1 = some (.slice s.cellsA s.cells.length s.cellsC) := rfl
@[go_sem] theorem En.get2 {s : En} : s.cs[2]? = some (.slice s.newsA s.news.length s.newsC) := rfl
@[go_sem] theorem En.ld2 {s : En} : rd false 1 s.cs 2 = some (.slice s.newsA s.news.length s.newsC) := rfl
@[go_sem] theorem Cl.abs_tail {s : Cl} : s.cs.drop 3 = abCs s.v (.slice s.lA s.l.length s.lC) := rfl
structure Pc where
  b : Int
  p : Int
  k : Int
  v : V
  l : List Ba
instance Pc.dec : DecidableEq Pc := fun x y => decidable_of_iff (x.b = y.b ∧ x.p = y.p ∧ x.k = y.k ∧ x.v = y.v ∧ x.l = y.l) (by cases x; cases y; simp)
def Cl.pc (c : Cl) : Pc := ⟨c.b, c.p, c.k, c.v, c.l⟩
def Bl.rd (F : Fz) (M : Hp) (s : Bl) : Prop := RdG 5 By.cs F M (.slice s.lA s.l.length s.lC) s.l
def Cl.rd (F : Fz) (M : Hp) (s : Cl) : Prop := RdG 7 Ba.cs F M (.slice s.lA s.l.length s.lC) s.l
structure Ste.rd (F : Fz) (M : Hp) (s : Ste) : Prop where
  blocks : RdG 2 Bl.cs F M (.slice s.blocksA s.blocks.length s.blocksC) s.blocks
  bytes : ∀ b ∈ s.blocks, b.rd F M
  next : intR F M s.nextA s.nextC s.next
  zero : (s.blocksA = none → s.blocksC = 0) ∧ (s.nextA = none → s.nextC = 0) ∧ ∀ b ∈ s.blocks, b.lA = none → b.lC = 0
structure En.rd (F : Fz) (M : Hp) (s : En) : Prop where
  cells : RdG 10 Cl.cs F M (.slice s.cellsA s.cells.length s.cellsC) s.cells
  ptrs : ∀ c ∈ s.cells, c.rd F M
  news : intR F M s.newsA s.newsC s.news
  zero : (s.cellsA = none → s.cellsC = 0) ∧ (s.newsA = none → s.newsC = 0) ∧ ∀ c ∈ s.cells, c.lA = none → c.lC = 0
theorem Ste.rd.keep {F : Fz} {M M' : Hp} {s : Ste} (h : s.rd F M) (kp : Keep M M') (o : Old F M') : s.rd F M' := ⟨h.blocks.keep kp o, fun b hb => RdG.keep (h.bytes b hb) kp o, h.next.keep kp o, h.zero⟩
theorem En.rd.keep {F : Fz} {M M' : Hp} {s : En} (h : s.rd F M) (kp : Keep M M') (o : Old F M') : s.rd F M' := ⟨h.cells.keep kp o, fun b hb => RdG.keep (h.ptrs b hb) kp o, h.news.keep kp o, h.zero⟩
theorem Ste.rd.new {F : Fz} {M : Hp} {s : Ste} (h : s.rd F M) {r : Nat} {e : Ent} (hF : F r = none) (hM : M r = none) : s.rd F (M.upd r e) := ⟨h.blocks.new hF hM, fun b hb => RdG.new (h.bytes b hb) hF hM, h.next.new hF hM, h.zero⟩
theorem En.rd.new {F : Fz} {M : Hp} {s : En} (h : s.rd F M) {r : Nat} {e : Ent} (hF : F r = none) (hM : M r = none) : s.rd F (M.upd r e) := ⟨h.cells.new hF hM, fun b hb => RdG.new (h.ptrs b hb) hF hM, h.news.new hF hM, h.zero⟩
theorem Ste.rd.lent {F : Fz} {M N : Hp} {s : Ste} (h : s.rd F M) (hN : Old (F.all M) N) : s.rd (F.all M) N := ⟨h.blocks.lent hN, fun b hb => RdG.lent (h.bytes b hb) hN, h.next.lent hN, h.zero⟩
theorem En.rd.lent {F : Fz} {M N : Hp} {s : En} (h : s.rd F M) (hN : Old (F.all M) N) : s.rd (F.all M) N := ⟨h.cells.lent hN, fun b hb => RdG.lent (h.ptrs b hb) hN, h.news.lent hN, h.zero⟩
theorem En.rd.all {F : Fz} {M N : Hp} {s : En} (hd : ∀ b, N b ≠ none → M b = none ∧ F b = none) (h : s.rd (F.all M) N) : s.rd F (M.join N) := ⟨h.cells.all hd, fun b hb => RdG.all hd (h.ptrs b hb), h.news.all hd, h.zero⟩
theorem Ste.rd.all {F : Fz} {M N : Hp} {s : Ste} (hd : ∀ b, N b ≠ none → M b = none ∧ F b = none) (h : s.rd (F.all M) N) : s.rd F (M.join N) := ⟨h.blocks.all hd, fun b hb => RdG.all hd (h.bytes b hb), h.next.all hd, h.zero⟩
structure Pg.rdM (F : Fz) (M : Hp) (p : Pg) : Prop where
  vars : intR F M p.vA p.vC p.vars
  news : intR F M p.nA p.nC p.news
  exprs : RdG 5 Xp.cs F M (.slice p.eA p.exprs.length p.eC) p.exprs
  stmts : RdG 7 Sm.cs F M (.slice p.sA p.stmts.length p.sC) p.stmts
  main : intR F M p.mA p.mC p.main
  bodies : ∀ s ∈ p.stmts, intR F M s.ba s.bc s.body ∧ intR F M s.ea s.ec s.els
  zero : (p.vA = none → p.vC = 0) ∧ (p.nA = none → p.nC = 0) ∧ ∀ s ∈ p.stmts, (s.ba = none → s.bc = 0) ∧ (s.ea = none → s.ec = 0)
  few : p.vars.length ≤ 2500 ∧ p.news.length ≤ 2500 ∧ p.exprs.length ≤ 2500 ∧ p.stmts.length ≤ 2500 ∧ p.main.length ≤ 2500 ∧ ∀ s ∈ p.stmts, s.body.length ≤ 2500 ∧ s.els.length ≤ 2500
theorem Pg.rdM.lent {F : Fz} {M : Hp} {p : Pg} (h : p.rdM F M) : p.rd (F.all M) :=
  ⟨fun N o => h.vars.lent o, fun N o => h.news.lent o, fun N o => h.exprs.lent o, fun N o => h.stmts.lent o, fun N o => h.main.lent o, fun s hs N o => ⟨(h.bodies s hs).1.lent o, (h.bodies s hs).2.lent o⟩, h.zero, h.few⟩
abbrev Ext (B : Nat → Option (List Value)) (F : Fz) (M : Hp) : Prop := ∀ b c, B b = some c → blk F M b = some c
theorem Ext.old {F : Fz} {M : Hp} (h : Old F M) : Ext F F M := fun b c hb => h.blk hb
section
variable {B : Nat → Option (List Value)}
theorem rd_one {a r : Sh} {cs : List Value} (h : Rd B (.cons 1 a r) cs) : ∃ x cs', cs = x :: cs' ∧ Rd B a [x] ∧ Rd B r cs' := by
  obtain ⟨h1, h2, h3⟩ := h
  cases cs with
  | nil => simp at h1
  | cons x cs => exact ⟨x, cs, rfl, by simpa using h2, by simpa using h3⟩
theorem rd_part {n : Nat} {a r : Sh} {cs : List Value} (h : Rd B (.cons n a r) cs) : ∃ c1 c2, cs = c1 ++ c2 ∧ c1.length = n ∧ Rd B a c1 ∧ Rd B r c2 :=
  ⟨cs.take n, cs.drop n, (List.take_append_drop _ _).symm, h.1, h.2.1, h.2.2⟩
theorem rd_end {cs : List Value} (h : Rd B .nil cs) : cs = [] := h
theorem rd_i {x : Value} (h : Rd B (.int .i64) [x]) : ∃ n : Int, x = .int .i64 n ∧ in64 n := by
  obtain ⟨n, e, hw⟩ := h
  cases e
  refine ⟨n, rfl, ?_⟩
  simp [Lit.wf, IntKind.min, IntKind.max, IntKind.signed, IntKind.bits] at hw
  unfold in64
  omega
theorem rd_b {x : Value} (h : Rd B .bool [x]) : ∃ b : Bool, x = .bool b := by
  obtain ⟨n, e⟩ := h
  cases e
  exact ⟨n, rfl⟩
theorem rdG0 {α : Type} {sz bytes : Nat} {e : Sh} {f : α → List Value} {Q : α → Prop} {v : Value} (h : Rd B (.slice sz bytes e) [v]) (hb : 0 < bytes) (hsz : 0 < sz) (hx : ∀ x : List Value, x.length = sz → Rd B e x → ∃ a : α, x = f a ∧ Q a) :
    ∃ (a : Option Addr) (cap : Nat) (l : List α), v = .slice a l.length cap ∧ (a = none → cap = 0) ∧ l.length ≤ 140737488351232 ∧ (∀ x ∈ l, Q x) ∧ ∀ (F : Fz) (M : Hp), Ext B F M → RdG sz f F M (.slice a l.length cap) l := by
  obtain ⟨a, cap, l, rfl, h1, h2, h3⟩ := rdG_of h hb hsz hx
  exact ⟨a, cap, l, rfl, rd_slice0 h, h1, h2, h3⟩
theorem rdI0 {v : Value} (h : Rd B shInts [v]) : ∃ (a : Option Addr) (cap : Nat) (l : List Int), v = .slice a l.length cap ∧ (a = none → cap = 0) ∧ l.length ≤ 140737488351232 ∧ (∀ x ∈ l, in64 x) ∧ ∀ (F : Fz) (M : Hp), Ext B F M → intR F M a cap l :=
  rdG0 (Q := in64) h (by decide) (by decide) (fun x hl hx => by
    match x, hl with
    | [x], _ =>
      obtain ⟨n, rfl, hn⟩ := rd_i hx
      exact ⟨n, rfl, hn⟩)
abbrev shBy : Sh := .cons 1 (.int .i64) (.cons 1 (.int .i64) (.cons 1 (.int .i64) (.cons 1 (.int .i64) (.cons 1 (.int .i64) .nil))))
abbrev shAl : Sh := .cons 1 (.int .i64) (.cons 1 (.int .i64) .nil)
abbrev shBk : Sh := .cons 1 (.int .i64) (.cons 1 (.slice 5 40 shBy) .nil)
abbrev shSt : Sh := .cons 1 (.slice 2 32 shBk) (.cons 1 shInts (.cons 1 (.int .i64) (.cons 2 shAl .nil)))
abbrev shCl : Sh := .cons 1 (.int .i64) (.cons 1 (.int .i64) (.cons 1 (.int .i64) (.cons 7 shAb .nil)))
abbrev shEn : Sh := .cons 1 .bool (.cons 1 (.slice 10 96 shCl) (.cons 1 shInts .nil))
abbrev shSm : Sh := .cons 1 (.int .i64) (.cons 1 (.int .i64) (.cons 1 (.int .i64) (.cons 1 (.int .i64) (.cons 1 (.int .i64) (.cons 1 shInts (.cons 1 shInts .nil))))))
abbrev shAbi : Sh := .cons 1 .bool (.cons 1 (.int .i64) .nil)
abbrev shPg : Sh := .cons 2 shAbi (.cons 1 shInts (.cons 1 shInts (.cons 1 (.slice 5 40 shBy) (.cons 1 (.slice 7 88 shSm) (.cons 1 shInts .nil)))))
abbrev shAsk16 : Sh := .cons 7 shPg (.cons 1 (.slice 5 72 shSt) (.cons 1 (.slice 3 56 shEn) (.cons 1 (.slice 7 72 shAb) .nil)))
theorem rd_By {x : List Value} (h : Rd B shBy x) : ∃ s : By, x = s.cs := by
  obtain ⟨x0, c, rfl, h0, h⟩ := rd_one h
  obtain ⟨x1, c, rfl, h1, h⟩ := rd_one h
  obtain ⟨x2, c, rfl, h2, h⟩ := rd_one h
  obtain ⟨x3, c, rfl, h3, h⟩ := rd_one h
  obtain ⟨x4, c, rfl, h4, h⟩ := rd_one h
  obtain rfl := rd_end h
  obtain ⟨n0, rfl, _⟩ := rd_i h0
  obtain ⟨n1, rfl, _⟩ := rd_i h1
  obtain ⟨n2, rfl, _⟩ := rd_i h2
  obtain ⟨n3, rfl, _⟩ := rd_i h3
  obtain ⟨n4, rfl, _⟩ := rd_i h4
  exact ⟨⟨n0, n1, n2, n3, n4⟩, rfl⟩
theorem rd_Xp {x : List Value} (h : Rd B shBy x) : ∃ s : Xp, x = s.cs := by
  obtain ⟨s, rfl⟩ := rd_By h
  exact ⟨⟨s.st, s.n, s.b, s.o, s.i⟩, rfl⟩
def Bl.inB (B : Nat → Option (List Value)) (s : Bl) : Prop := (s.lA = none → s.lC = 0) ∧ s.l.length ≤ 140737488351232 ∧ ∀ F M, Ext B F M → s.rd F M
theorem rd_Bl {x : List Value} (h : Rd B shBk x) : ∃ s : Bl, x = s.cs ∧ s.inB B := by
  obtain ⟨x0, c, rfl, h0, h⟩ := rd_one h
  obtain ⟨x1, c, rfl, h1, h⟩ := rd_one h
  obtain rfl := rd_end h
  obtain ⟨n0, rfl, _⟩ := rd_i h0
  obtain ⟨a, cap, l, rfl, g1, g2, g3, g4⟩ := rdG0 (f := By.cs) (Q := fun _ => True) h1 (by decide) (by decide) (fun x _ hx => by obtain ⟨s, hs⟩ := rd_By hx; exact ⟨s, hs, trivial⟩)
  exact ⟨⟨n0, a, cap, l⟩, rfl, g1, g2, g4⟩
structure Ste.inB (B : Nat → Option (List Value)) (s : Ste) : Prop where
  many : s.blocks.length ≤ 140737488351232 ∧ s.next.length ≤ 140737488351232
  bytes : ∀ b ∈ s.blocks, b.l.length ≤ 140737488351232
  rd : ∀ F M, Ext B F M → s.rd F M
theorem rd_Ste {x : List Value} (h : Rd B shSt x) : ∃ s : Ste, x = s.cs ∧ s.inB B := by
  obtain ⟨x0, c, rfl, h0, h⟩ := rd_one h
  obtain ⟨x1, c, rfl, h1, h⟩ := rd_one h
  obtain ⟨x2, c, rfl, h2, h⟩ := rd_one h
  obtain ⟨y, c, rfl, hy, h3, h⟩ := rd_part h
  obtain rfl := rd_end h
  obtain ⟨x3, c, rfl, h4, h⟩ := rd_one h3
  obtain ⟨x4, c, rfl, h5, h⟩ := rd_one h
  obtain rfl := rd_end h
  obtain ⟨n2, rfl, _⟩ := rd_i h2
  obtain ⟨n3, rfl, _⟩ := rd_i h4
  obtain ⟨n4, rfl, _⟩ := rd_i h5
  obtain ⟨a, cap, l, rfl, g1, g2, g3, g4⟩ := rdG0 (f := Bl.cs) (Q := Bl.inB B) h0 (by decide) (by decide) (fun x _ hx => rd_Bl hx)
  obtain ⟨a', cap', l', rfl, k1, k2, k3, k4⟩ := rdI0 h1
  exact ⟨⟨a, cap, l, a', cap', l', n2, n3, n4⟩, rfl, ⟨g2, k2⟩, fun b hb => (g3 b hb).2.1, fun F M hB => ⟨g4 F M hB, fun b hb => (g3 b hb).2.2 F M hB, k4 F M hB, g1, k1, fun b hb => (g3 b hb).1⟩⟩
def Cl.inB (B : Nat → Option (List Value)) (s : Cl) : Prop := (s.lA = none → s.lC = 0) ∧ s.l.length ≤ 140737488351232 ∧ ∀ F M, Ext B F M → s.rd F M
theorem rd_Cl {x : List Value} (h : Rd B shCl x) : ∃ s : Cl, x = s.cs ∧ s.inB B := by
  obtain ⟨x0, c, rfl, h0, h⟩ := rd_one h
  obtain ⟨x1, c, rfl, h1, h⟩ := rd_one h
  obtain ⟨x2, c, rfl, h2, h⟩ := rd_one h
  obtain ⟨y, c, rfl, hy, h3, h⟩ := rd_part h
  obtain rfl := rd_end h
  obtain ⟨z, c, rfl, hz, h4, h⟩ := rd_part h3
  obtain ⟨x4, c, rfl, h5, h⟩ := rd_one h
  obtain rfl := rd_end h
  obtain ⟨v, rfl⟩ := rd_V hz h4
  obtain ⟨n0, rfl, _⟩ := rd_i h0
  obtain ⟨n1, rfl, _⟩ := rd_i h1
  obtain ⟨n2, rfl, _⟩ := rd_i h2
  obtain ⟨a, cap, l, rfl, g1, g2, g3, g4⟩ := rdG0 (f := Ba.cs) (Q := fun _ => True) h5 (by decide) (by decide) (fun x hl hx => by obtain ⟨s, hs⟩ := rd_Ba hl hx; exact ⟨s, hs, trivial⟩)
  exact ⟨⟨n0, n1, n2, v, a, cap, l⟩, rfl, g1, g2, g4⟩
structure En.inB (B : Nat → Option (List Value)) (s : En) : Prop where
  many : s.cells.length ≤ 140737488351232 ∧ s.news.length ≤ 140737488351232
  ptrs : ∀ b ∈ s.cells, b.l.length ≤ 140737488351232
  rd : ∀ F M, Ext B F M → s.rd F M
theorem rd_En {x : List Value} (h : Rd B shEn x) : ∃ s : En, x = s.cs ∧ s.inB B := by
  obtain ⟨x0, c, rfl, h0, h⟩ := rd_one h
  obtain ⟨x1, c, rfl, h1, h⟩ := rd_one h
  obtain ⟨x2, c, rfl, h2, h⟩ := rd_one h
  obtain rfl := rd_end h
  obtain ⟨n0, rfl⟩ := rd_b h0
  obtain ⟨a, cap, l, rfl, g1, g2, g3, g4⟩ := rdG0 (f := Cl.cs) (Q := Cl.inB B) h1 (by decide) (by decide) (fun x _ hx => rd_Cl hx)
  obtain ⟨a', cap', l', rfl, k1, k2, k3, k4⟩ := rdI0 h2
  exact ⟨⟨n0, a, cap, l, a', cap', l'⟩, rfl, ⟨g2, k2⟩, fun b hb => (g3 b hb).2.1, fun F M hB => ⟨g4 F M hB, fun b hb => (g3 b hb).2.2 F M hB, k4 F M hB, g1, k1, fun b hb => (g3 b hb).1⟩⟩
def Sm.inB (B : Nat → Option (List Value)) (s : Sm) : Prop := ((s.ba = none → s.bc = 0) ∧ (s.ea = none → s.ec = 0)) ∧ (s.body.length ≤ 140737488351232 ∧ s.els.length ≤ 140737488351232) ∧ ∀ F M, Ext B F M → intR F M s.ba s.bc s.body ∧ intR F M s.ea s.ec s.els
theorem rd_Sm {x : List Value} (h : Rd B shSm x) : ∃ s : Sm, x = s.cs ∧ s.inB B := by
  obtain ⟨x0, c, rfl, h0, h⟩ := rd_one h
  obtain ⟨x1, c, rfl, h1, h⟩ := rd_one h
  obtain ⟨x2, c, rfl, h2, h⟩ := rd_one h
  obtain ⟨x3, c, rfl, h3, h⟩ := rd_one h
  obtain ⟨x4, c, rfl, h4, h⟩ := rd_one h
  obtain ⟨x5, c, rfl, h5, h⟩ := rd_one h
  obtain ⟨x6, c, rfl, h6, h⟩ := rd_one h
  obtain rfl := rd_end h
  obtain ⟨n0, rfl, _⟩ := rd_i h0
  obtain ⟨n1, rfl, _⟩ := rd_i h1
  obtain ⟨n2, rfl, _⟩ := rd_i h2
  obtain ⟨n3, rfl, _⟩ := rd_i h3
  obtain ⟨n4, rfl, _⟩ := rd_i h4
  obtain ⟨a, cap, l, rfl, g1, g2, g3, g4⟩ := rdI0 h5
  obtain ⟨a', cap', l', rfl, k1, k2, k3, k4⟩ := rdI0 h6
  exact ⟨⟨n0, n1, n2, n3, n4, a, cap, l, a', cap', l'⟩, rfl, ⟨g1, k1⟩, ⟨g2, k2⟩, fun F M hB => ⟨g4 F M hB, k4 F M hB⟩⟩
structure Pg.inB (B : Nat → Option (List Value)) (p : Pg) : Prop where
  many : p.vars.length ≤ 140737488351232 ∧ p.news.length ≤ 140737488351232 ∧ p.exprs.length ≤ 140737488351232 ∧ p.stmts.length ≤ 140737488351232 ∧ p.main.length ≤ 140737488351232 ∧ ∀ s ∈ p.stmts, s.body.length ≤ 140737488351232 ∧ s.els.length ≤ 140737488351232
  vars : ∀ F M, Ext B F M → intR F M p.vA p.vC p.vars
  news : ∀ F M, Ext B F M → intR F M p.nA p.nC p.news
  exprs : ∀ F M, Ext B F M → RdG 5 Xp.cs F M (.slice p.eA p.exprs.length p.eC) p.exprs
  stmts : ∀ F M, Ext B F M → RdG 7 Sm.cs F M (.slice p.sA p.stmts.length p.sC) p.stmts
  main : ∀ F M, Ext B F M → intR F M p.mA p.mC p.main
  bodies : ∀ s ∈ p.stmts, ∀ F M, Ext B F M → intR F M s.ba s.bc s.body ∧ intR F M s.ea s.ec s.els
  zero : (p.vA = none → p.vC = 0) ∧ (p.nA = none → p.nC = 0) ∧ ∀ s ∈ p.stmts, (s.ba = none → s.bc = 0) ∧ (s.ea = none → s.ec = 0)
  ints : (∀ x ∈ p.vars, in64 x) ∧ (∀ x ∈ p.news, in64 x)
theorem rd_Pg {x : List Value} (h : Rd B shPg x) : ∃ p : Pg, x = p.cs ∧ p.inB B := by
  obtain ⟨y, c, rfl, hy, ha, h⟩ := rd_part h
  obtain ⟨x2, c, rfl, h2, h⟩ := rd_one h
  obtain ⟨x3, c, rfl, h3, h⟩ := rd_one h
  obtain ⟨x4, c, rfl, h4, h⟩ := rd_one h
  obtain ⟨x5, c, rfl, h5, h⟩ := rd_one h
  obtain ⟨x6, c, rfl, h6, h⟩ := rd_one h
  obtain rfl := rd_end h
  obtain ⟨x0, c, rfl, h0, h⟩ := rd_one ha
  obtain ⟨x1, c, rfl, h1, h⟩ := rd_one h
  obtain rfl := rd_end h
  obtain ⟨n0, rfl⟩ := rd_b h0
  obtain ⟨n1, rfl, _⟩ := rd_i h1
  obtain ⟨a2, c2, l2, rfl, p1, p2, p3, p4⟩ := rdI0 h2
  obtain ⟨a3, c3, l3, rfl, q1, q2, q3, q4⟩ := rdI0 h3
  obtain ⟨a4, c4, l4, rfl, r1, r2, r3, r4⟩ := rdG0 (f := Xp.cs) (Q := fun _ => True) h4 (by decide) (by decide) (fun x _ hx => by obtain ⟨s, hs⟩ := rd_Xp hx; exact ⟨s, hs, trivial⟩)
  obtain ⟨a5, c5, l5, rfl, s1, s2, s3, s4⟩ := rdG0 (f := Sm.cs) (Q := Sm.inB B) h5 (by decide) (by decide) (fun x _ hx => rd_Sm hx)
  obtain ⟨a6, c6, l6, rfl, t1, t2, t3, t4⟩ := rdI0 h6
  exact ⟨⟨n0, n1, a2, c2, l2, a3, c3, l3, a4, c4, l4, a5, c5, l5, a6, c6, l6⟩, rfl, ⟨p2, q2, r2, s2, t2, fun s hs => (s3 s hs).2.1⟩, p4, q4, r4, s4, t4, fun s hs => (s3 s hs).2.2, ⟨p1, q1, fun s hs => (s3 s hs).1⟩, p3, q3⟩
theorem Pg.inB.rd {F : Fz} {p : Pg} (h : p.inB F) (hf : p.vars.length ≤ 2500 ∧ p.news.length ≤ 2500 ∧ p.exprs.length ≤ 2500 ∧ p.stmts.length ≤ 2500 ∧ p.main.length ≤ 2500 ∧ ∀ s ∈ p.stmts, s.body.length ≤ 2500 ∧ s.els.length ≤ 2500) : p.rd F :=
  ⟨fun M o => h.vars F M (Ext.old o), fun M o => h.news F M (Ext.old o), fun M o => h.exprs F M (Ext.old o), fun M o => h.stmts F M (Ext.old o), fun M o => h.main F M (Ext.old o), fun s hs M o => h.bodies s hs F M (Ext.old o), h.zero, hf⟩
structure Ask16 where
  p : Pg
  sA : Option Addr
  sC : Nat
  s : List Ste
  eA : Option Addr
  eC : Nat
  e : List En
  xA : Option Addr
  xC : Nat
  x : List Ab
def Ask16.cs (q : Ask16) : List Value := q.p.cs ++ [.slice q.sA q.s.length q.sC, .slice q.eA q.e.length q.eC, .slice q.xA q.x.length q.xC]
structure Ask16.inB (B : Nat → Option (List Value)) (q : Ask16) : Prop where
  p : q.p.inB B
  s : ∀ F M, Ext B F M → RdG 5 Ste.cs F M (.slice q.sA q.s.length q.sC) q.s
  ss : ∀ x ∈ q.s, x.inB B
  e : ∀ F M, Ext B F M → RdG 3 En.cs F M (.slice q.eA q.e.length q.eC) q.e
  es : ∀ x ∈ q.e, x.inB B
  x : ∀ F M, Ext B F M → RdG 7 Ab.cs F M (.slice q.xA q.x.length q.xC) q.x
  xs : ∀ y ∈ q.x, y.row B
  zero : (q.sA = none → q.sC = 0) ∧ (q.eA = none → q.eC = 0) ∧ (q.xA = none → q.xC = 0)
  many : q.s.length ≤ 140737488351232 ∧ q.e.length ≤ 140737488351232 ∧ q.x.length ≤ 140737488351232
theorem rd_ask16 {cs : List Value} (h : Rd B shAsk16 cs) : ∃ q : Ask16, cs = q.cs ∧ q.inB B := by
  obtain ⟨y, c, rfl, hy, hp, h⟩ := rd_part h
  obtain ⟨x1, c, rfl, h1, h⟩ := rd_one h
  obtain ⟨x2, c, rfl, h2, h⟩ := rd_one h
  obtain ⟨x3, c, rfl, h3, h⟩ := rd_one h
  obtain rfl := rd_end h
  obtain ⟨p, rfl, hq⟩ := rd_Pg hp
  obtain ⟨a1, c1, l1, rfl, p1, p2, p3, p4⟩ := rdG0 (f := Ste.cs) (Q := Ste.inB B) h1 (by decide) (by decide) (fun x _ hx => rd_Ste hx)
  obtain ⟨a2, c2, l2, rfl, q1, q2, q3, q4⟩ := rdG0 (f := En.cs) (Q := En.inB B) h2 (by decide) (by decide) (fun x _ hx => rd_En hx)
  obtain ⟨a3, c3, l3, rfl, r1, r2, r3, r4⟩ := rdG0 (f := Ab.cs) (Q := Ab.row B) h3 (by decide) (by decide) (fun x hl hx => rd_Ab hl hx)
  exact ⟨⟨p, a1, c1, l1, a2, c2, l2, a3, c3, l3⟩, rfl, hq, p4, p3, q4, q3, r4, r3, ⟨p1, q1, r1⟩, p2, q2, r2⟩
end
end Go.Ax
