/- Parts B8: the machine's runs of small codes, contracts of functions, plain facts. -/
import Derived.Test.YtjmgdglhhiccoaaGreatB7
namespace Go.Proofs.Tryz.K
open Go Go.Ax Go.Proofs.Tryz.S
set_option maxRecDepth 100000
set_option linter.unusedSimpArgs false
set_option linter.unusedVariables false
set_option maxHeartbeats 4000000
variable (F : Fz) (M : Hp)
def holI (p : Pg) (e : En) (m : List Bl) (F0 : Fz) (M0 : Hp) (i : Nat) (σ : Env) (F : Fz) (M : Hp) : Prop :=
  F0 = F ∧ Keep M0 M ∧ Old F0 M ∧ Ax.look σ 17 = some (.int .i64 i) ∧ (e.pe.cells.take i).all (saysB p m) = true
def holN (p : Pg) (e : En) (m : List Bl) (F0 : Fz) (M0 : Hp) (i : Nat) (σ : Env) (F : Fz) (M : Hp) : Prop :=
  F0 = F ∧ M0 = M ∧ Ax.look σ 54 = some (.int .i64 i) ∧ (List.range i).all (newB p m e.news) = true
def pinI (p : Pg) (e : En) (m : List Bl) (F0 : Fz) (M0 : Hp) (i : Nat) (σ : Env) (F : Fz) (M : Hp) : Prop :=
  F0 = F ∧ Keep M0 M ∧ Old F0 M ∧ Ax.look σ 7 = some (.int .i64 i) ∧ (e.pe.cells.take i).all (saysB p m) = true
def pinN (p : Pg) (e : En) (m : List Bl) (F0 : Fz) (M0 : Hp) (i : Nat) (σ : Env) (F : Fz) (M : Hp) : Prop :=
  F0 = F ∧ M0 = M ∧ Ax.look σ 8 = some (.int .i64 i) ∧ (List.range i).all (newB p m e.news) = true
theorem newB_at {p : Pg} {m : List Bl} {news : List Int} {i j : Nat} (hi : i < news.length) (hj : j < m.length) (e : j = p.vars.length + 1 + i) : newB p m news i = !decide (band .i64 (shrv .i64 news[i] (m[j]).st) 1 = 0) := by
  unfold newB
  rw [List.getElem?_eq_getElem hi]
  have : ((p.vars.length : Int) + 1 + i) = ((j : Nat) : Int) := by omega
  rw [this, blAt_get hj]
  rfl
theorem all_range {n : Nat} {f : Nat → Bool} : (List.range (n + 1)).all f = ((List.range n).all f && f n) := by
  rw [List.range_succ, List.all_append]; simp
theorem range_no {n i : Nat} {f : Nat → Bool} (h : i < n) (hf : f i = false) : (List.range n).all f = false := by
  rw [List.all_eq_false]; exact ⟨i, List.mem_range.2 h, by simp [hf]⟩
theorem k45 (p : Pg) (e : En) (s : Ste) (hp : p.rd F) (hold : Old F M) (h : e.rd F M) (hs : s.rd F M) (hc : progC p = true) (hfm : FitM p s.blocks) (hfc : e.no = false → (∀ c ∈ e.cells, FitC p s.blocks c.pc) ∧ e.news.length = p.news.length) :
    CallsA Tryz.prog 45 [p.val, e.val, s.val] F M (Same F M (.bool (inEnv p e.pe s.blocks))) := by
  refine callsA_of hm Tryz.func45 e45 (Nat.le_of_ble_eq_true rfl) ?_
  have hl1 := h.cells.1
  have hl2 := h.news.1
  have hl3 := hs.blocks.1
  have hpre := progC_pre hc
  have hlen := hfm.len
  simp only [c45, go_sem, Nat.reduceAdd]
  intro r3 hF3 hM3
  simp only [go_sem, reduceCtorEq, Nat.reduceEqDiff]
  intro r4 hF4 hM4
  simp only [upd_none2] at hM4
  simp only [go_sem, reduceCtorEq, Nat.reduceEqDiff]
  intro r5 hF5 hM5
  simp only [upd_none2] at hM5
  have kp5 : Keep M (((M.upd r3 ⟨p.cs, 28, 7⟩).upd r4 ⟨e.cs, 38, 3⟩).upd r5 ⟨s.cs, 46, 5⟩) := (by repeat' first | exact Keep.refl _ | (refine Keep.new ?_ (by simp only [*])))
  have old5 : Old F (((M.upd r3 ⟨p.cs, 28, 7⟩).upd r4 ⟨e.cs, 38, 3⟩).upd r5 ⟨s.cs, 46, 5⟩) := (by repeat' first | assumption | (refine Old.upd ?_ (by assumption)))
  have f3 : (((M.upd r3 ⟨p.cs, 28, 7⟩).upd r4 ⟨e.cs, 38, 3⟩).upd r5 ⟨s.cs, 46, 5⟩) r3 = some ⟨p.cs, 28, 7⟩ := by rw [Hp.upd_ne' (by simp [hM5]), Hp.upd_ne' (by simp [hM4])]; exact Hp.upd_same _ _ _
  have f4 : (((M.upd r3 ⟨p.cs, 28, 7⟩).upd r4 ⟨e.cs, 38, 3⟩).upd r5 ⟨s.cs, 46, 5⟩) r4 = some ⟨e.cs, 38, 3⟩ := by rw [Hp.upd_ne' (by simp [hM5])]; exact Hp.upd_same _ _ _
  have f5 : (((M.upd r3 ⟨p.cs, 28, 7⟩).upd r4 ⟨e.cs, 38, 3⟩).upd r5 ⟨s.cs, 46, 5⟩) r5 = some ⟨s.cs, 46, 5⟩ := Hp.upd_same _ _ _
  generalize (((M.upd r3 ⟨p.cs, 28, 7⟩).upd r4 ⟨e.cs, 38, 3⟩).upd r5 ⟨s.cs, 46, 5⟩) = M1 at *
  have h1 := h.keep kp5 old5
  have hs1 := hs.keep kp5 old5
  have b3 := blk_M (F := F) f3
  have b4 := blk_M (F := F) f4
  have b5 := blk_M (F := F) f5
  clear hM3 hM4 hM5 hF3 hF4 hF5 h hs
  have fin : ∀ v : Bool, inEnv p e.pe s.blocks = v → ∀ M', Keep M1 M' → endK F M' (Same F M (.bool (inEnv p e.pe s.blocks))) (.bool v) := fun v h M' k => endK_keep (kp5.trans k) ⟨by rw [h], rfl, rfl⟩
  by_cases hno : e.no = true
  · have hR : inEnv p e.pe s.blocks = false := by
      have : e.pe.no = true := hno
      unfold inEnv; rw [this]; rfl
    simp only [go_sem, Nat.reduceEqDiff, b4, hno]
    exact fin _ hR _ (Keep.refl _)
  have hno' : e.no = false := by simpa using hno
  obtain ⟨hfc, hnl⟩ := hfc hno'
  have hR : inEnv p e.pe s.blocks = (e.pe.cells.all (saysB p s.blocks) && (List.range e.news.length).all (newB p s.blocks e.news)) := by
    have : e.pe.no = false := hno'
    unfold inEnv; rw [this]; rfl
  generalize inEnv p e.pe s.blocks = R at *
  simp only [go_sem, Nat.reduceEqDiff, b4, hno']
  have hpl : e.pe.cells.length = e.cells.length := by simp [En.pe]
  refine loop_up e.cells.length (holI p e s.blocks F M1) ⟨rfl, Keep.refl _, old5, (by simp only [go_sem, *] <;> rfl), rfl⟩ ?_
  rintro i σ F' M2 hi hst ⟨rfl, kp, old, q17, he⟩
  have q3 := hst 3 rfl
  have q4 := hst 4 rfl
  have q5 := hst 5 rfl
  have q15 := hst 15 rfl
  have q16 := hst 16 rfl
  simp only [go_sem, Nat.reduceEqDiff] at q3 q4 q5 q15 q16
  clear hst
  have g3 := kp _ _ f3
  have g4 := kp _ _ f4
  have g5 := kp _ _ f5
  have b3' := blk_M (F := F) g3
  have b4' := blk_M (F := F) g4
  have b5' := blk_M (F := F) g5
  have h2 := h1.keep kp old
  have hs2 := hs1.keep kp old
  by_cases hil : (i : Int) < e.cells.length
  · have hi0 : (0 : Int) ≤ i := by omega
    have hi1 : i < e.cells.length := by omega
    have ei : IntKind.i64.wrap ((i : Int) + 1) = i + 1 := w64 (by omega) (by omega)
    have hfi := hfc _ (List.getElem_mem hi1)
    have hci := h2.ptrs _ (List.getElem_mem hi1)
    have t1 : e.pe.cells.take (i + 1) = e.pe.cells.take i ++ [(e.cells[i]).pc] := by
      rw [List.take_succ_eq_append_getElem (by omega)]; simp [En.pe]
    have hno2 : saysB p s.blocks (e.cells[i]).pc = false → R = false := fun h => by
      rw [hR]
      have : e.pe.cells.all (saysB p s.blocks) = false := by
        rw [List.all_eq_false]
        exact ⟨(e.cells[i]).pc, by simp only [En.pe]; exact List.mem_map_of_mem (List.getElem_mem hi1), by simp [h]⟩
      rw [this]; rfl
    obtain ⟨b, o, cs, ea, hb, rows⟩ := h2.cells.rows (by omega)
    obtain ⟨d1, d2⟩ := rows i hi1
    clear rows
    generalize e.cells[i] = c at *
    obtain ⟨k, hk⟩ := Int.eq_ofNat_of_zero_le (by have := hfi.block; omega : 0 ≤ c.pc.b)
    have hkl : k < s.blocks.length := by have := hfi.block; omega
    have hk0 : (0 : Int) ≤ k := by omega
    have hkl' : (k : Int) < s.blocks.length := by omega
    have hk' : c.b = k := hk
    obtain ⟨b', o', cs', ea', hb', rows⟩ := hs2.blocks.rows (by omega)
    obtain ⟨d3, d4⟩ := rows k hkl
    clear rows
    have hsay : saysB p s.blocks c.pc = (!decide ((s.blocks[k]).st = 1) || sayV p.big c.pc (((s.blocks[k]).l.drop c.p.toNat).take (spanK p.ptr c.k).toNat)) := by
      rw [← blAt_get hkl, ← hk]; rfl
    have hin := hfi.inside
    rw [hk, blAt_get hkl] at hin
    have hbr : (s.blocks[k]).rd F M2 := hs2.bytes _ (List.getElem_mem hkl)
    have hby := (hfm.bytes k hkl).1
    generalize s.blocks[k] = x at *
    have next : saysB p s.blocks c.pc = true → ∀ M3 σ', Keep M2 M3 → Old F M3 → Ax.look σ' 17 = some (.int .i64 ((i + 1 : Nat) : Int)) → Nxt (holI p e s.blocks F M1) e.cells.length i σ' F M3 := fun hx M3 σ' kp3 o3 h =>
      ⟨hi1, rfl, kp.trans kp3, o3, h, by rw [t1, List.all_append, he]; simp [hx]⟩
    simp only [go_sem, reduceIte, Nat.reduceEqDiff, Nat.reduceAdd, q15, q16, q17, hil, hi0, ea, Int.toNat_natCast, hb, d1, d2]
    intro r8 hF8 hM8
    have n3 := ne_of_none hM8 g3
    have n5 := ne_of_none hM8 g5
    have nb' := ne_of_blk hb' hF8 hM8
    simp only [setH, Hp.upd_upd, go_sem, reduceIte, Nat.reduceEqDiff, Nat.reduceAdd, q5, n5, b5', hk', hk0, hkl', ea', nb', hb', Int.toNat_natCast, d3, d4]
    intro r9 hF9 hM9
    simp only [upd_none2] at hM9
    have kp9 : Keep M2 ((M2.upd r8 ⟨c.cs, 87, 10⟩).upd r9 ⟨x.cs, 54, 2⟩) := (by repeat' first | exact Keep.refl _ | (refine Keep.new ?_ (by simp only [*])))
    have old9 : Old F ((M2.upd r8 ⟨c.cs, 87, 10⟩).upd r9 ⟨x.cs, 54, 2⟩) := (by repeat' first | assumption | (refine Old.upd ?_ (by assumption)))
    have b8 : blk F ((M2.upd r8 ⟨c.cs, 87, 10⟩).upd r9 ⟨x.cs, 54, 2⟩) r8 = some c.cs := by
      have f8 : ((M2.upd r8 ⟨c.cs, 87, 10⟩).upd r9 ⟨x.cs, 54, 2⟩) r8 = some ⟨c.cs, 87, 10⟩ := by rw [Hp.upd_ne' (by simp [hM9])]; exact Hp.upd_same _ _ _
      exact blk_M (F := F) f8
    have b9 : blk F ((M2.upd r8 ⟨c.cs, 87, 10⟩).upd r9 ⟨x.cs, 54, 2⟩) r9 = some x.cs := blk_M (F := F) (Hp.upd_same _ _ _)
    have b39 := blk_M (F := F) (kp9 _ _ g3)
    have hcr : c.rd F ((M2.upd r8 ⟨c.cs, 87, 10⟩).upd r9 ⟨x.cs, 54, 2⟩) := RdG.keep hci kp9 old9
    have hxr : x.rd F ((M2.upd r8 ⟨c.cs, 87, 10⟩).upd r9 ⟨x.cs, 54, 2⟩) := RdG.keep hbr kp9 old9
    clear hci hbr n3 n5 nb'
    by_cases hst : x.st = 1
    rotate_left
    · simp only [setH, Hp.upd_upd, go_sem, reduceCtorEq, reduceIte, Nat.reduceEqDiff, Nat.reduceAdd, b9, hst, q17, ei]
      refine next (by rw [hsay, decide_eq_false hst]; rfl) _ _ kp9 old9 (by simp only [go_sem, *] <;> rfl)
    simp only [setH, Hp.upd_upd, go_sem, reduceIte, Nat.reduceEqDiff, Nat.reduceAdd, Nat.reduceLeDiff, q3, b8, b9, b39, hst]
    generalize (M2.upd r8 ⟨c.cs, 87, 10⟩).upd r9 ⟨x.cs, 54, 2⟩ = M3 at *
    obtain ⟨n1, n4⟩ := spanK_in hpre.1 hfi.kind
    obtain ⟨n, hn⟩ := Int.eq_ofNat_of_zero_le (by omega : 0 ≤ spanK p.ptr c.pc.k)
    have hn' : spanK p.ptr c.k = n := hn
    obtain ⟨hp0, hpl⟩ := hin hst
    obtain ⟨q, hq⟩ := Int.eq_ofNat_of_zero_le hp0
    have hq' : c.p = q := hq
    rw [hn] at hpl n1 n4
    rw [hq] at hpl
    have hn1 : 0 < n := by omega
    have hq0 : (0 : Int) ≤ q := by omega
    have hxl := hxr.1
    rw [hst, hq', hn', Int.toNat_natCast, Int.toNat_natCast] at hsay
    have hcl := cut_len (l := x.l) (lo := q) (n := n) (by omega)
    have hcut := RdG.cut hxr (lo := q) (n := n) (by omega)
    have ew : IntKind.i64.wrap ((q : Int) + n) = ((q + n : Nat) : Int) := by rw [w64 (by omega) (by omega)]; omega
    have e1 : (0 : Int) ≤ ((q + n : Nat) : Int) := by omega
    have e2 : (q : Int) ≤ ((q + n : Nat) : Int) := by omega
    have e3 : ((q + n : Nat) : Int) ≤ x.l.length := by omega
    have e4 : x.l.length ≤ x.lC := by
      obtain ⟨_, ad, cap, hc, e, _⟩ := hxr
      cases e; exact hc
    have e4' : (x.l.length : Int) ≤ x.lC := by omega
    have e5 : q + n - q = n := by omega
    have hby' : ∀ z ∈ (x.l.drop q).take n, byteB z = true := fun z hz => hby z (List.mem_of_mem_drop (List.mem_of_mem_take hz))
    have hkk : c.k = 0 ∨ c.k = 11 ∨ isS c.k = true := hfi.kind
    have kG := k86 F M3 p.big p.ptr c _ _ ((x.l.drop q).take n) old9 hcr hcut (by rw [hcl]; exact hn1) hby'
    rw [hcl] at kG
    with_reducible refine callK_same (k87 F M3 p.big p.ptr c.k hkk) ?_
    simp only [go_sem, reduceIte, Nat.reduceEqDiff, hn', hq', ew, e2, e3, e4, e5, Int.toNat_natCast, hq0]
    with_reducible refine callK_same kG ?_
    generalize sayV p.big c.pc ((x.l.drop q).take n) = sv at *
    cases sv
    · simp only [go_sem, reduceIte, Nat.reduceEqDiff]
      exact fin _ (hno2 (by rw [hsay]; rfl)) _ (kp.trans kp9)
    · simp only [go_sem, reduceIte, Nat.reduceEqDiff, q17, ei]
      exact next (by rw [hsay]; rfl) _ _ kp9 old9 (by simp only [go_sem, *] <;> rfl)
  have hx : i = e.cells.length := by omega
  have hall : e.pe.cells.all (saysB p s.blocks) = true := by
    rw [List.take_of_length_le (by omega)] at he; exact he
  rw [hall, Bool.true_and] at hR
  simp only [go_sem, reduceIte, Nat.reduceEqDiff, q4, q16, q17, hil, b4']
  clear q17 hil he hx
  refine loop_up e.news.length (holN p e s.blocks F M2) ⟨rfl, rfl, (by simp only [go_sem, *] <;> rfl), rfl⟩ ?_
  rintro k σ3 F' M3 hk hst ⟨rfl, rfl, q54, he3⟩
  have t3 := hst 3 rfl
  have t5 := hst 5 rfl
  have t52 := hst 52 rfl
  have t53 := hst 53 rfl
  simp only [go_sem, Nat.reduceEqDiff, q3, q5] at t3 t5 t52 t53
  clear hst
  by_cases hkl : (k : Int) < e.news.length
  rotate_left
  · have hk' : k = e.news.length := by omega
    rw [hk'] at he3
    simp only [go_sem, reduceIte, t53, q54, hkl]
    exact fin _ (by rw [hR, he3]) _ kp
  have hk0 : (0 : Int) ≤ k := by omega
  have hk1 : k < e.news.length := by omega
  have ek : IntKind.i64.wrap ((k : Int) + 1) = k + 1 := w64 (by omega) (by omega)
  have hj : p.vars.length + 1 + k < s.blocks.length := by omega
  have ew1 : IntKind.i64.wrap (1 + (p.vars.length : Int)) = 1 + p.vars.length := w64 (by omega) (by omega)
  have ew2 : IntKind.i64.wrap (1 + (p.vars.length : Int) + k) = ((p.vars.length + 1 + k : Nat) : Int) := by rw [w64 (by omega) (by omega)]; omega
  have hj0 : (0 : Int) ≤ ((p.vars.length + 1 + k : Nat) : Int) := by omega
  have hjl : ((p.vars.length + 1 + k : Nat) : Int) < s.blocks.length := by omega
  have hnB := newB_at (p := p) (m := s.blocks) hk1 hj rfl
  have hst0 := (hfm.bytes _ hj).2.1
  obtain ⟨b4, o4, cs4, ea4, hb4, e1⟩ := Ax.int_at h2.news hk1
  obtain ⟨b', o', cs', ea', hb', rows⟩ := hs2.blocks.rows (by omega)
  obtain ⟨d3, d4⟩ := rows _ hj
  obtain ⟨d4, _⟩ := Go.Ax.Bl.row d4
  clear rows
  generalize s.blocks[p.vars.length + 1 + k] = x at *
  generalize e.news[k] = y at *
  have hst0' : ¬ x.st < 0 := by omega
  by_cases hz : band .i64 (shrv .i64 y x.st) 1 = 0
  · have hf : newB p s.blocks e.news k = false := by rw [hnB]; simp [hz]
    simp only [go_sem, reduceIte, Nat.reduceEqDiff, t3, t5, t52, t53, q54, hkl, hk0, ea4, Int.toNat_natCast, Nat.add_zero, hb4, e1, b3', b5', ew1, ew2, hj0, hjl, ea', hb', d4, hst0', hz]
    exact fin _ (by rw [hR, range_no hk1 hf]) _ kp
  · have hf : newB p s.blocks e.news k = true := by rw [hnB]; simp [hz]
    simp only [go_sem, reduceIte, Nat.reduceEqDiff, t3, t5, t52, t53, q54, hkl, hk0, ea4, Int.toNat_natCast, Nat.add_zero, hb4, e1, b3', b5', ew1, ew2, hj0, hjl, ea', hb', d4, hst0', hz, ek]
    exact ⟨hk1, rfl, rfl, (by simp only [go_sem, *] <;> rfl), by rw [all_range, he3, hf]; rfl⟩
theorem k17 (p : Pg) (e : En) (s : Ste) (hp : p.rd F) (hold : Old F M) (h : e.rd F M) (hs : s.rd F M) (hc : progC p = true) (hfm : FitM p s.blocks) (hfc : e.no = false → (∀ c ∈ e.cells, FitC p s.blocks c.pc) ∧ e.news.length = p.news.length) :
    CallsA Tryz.prog 17 [p.val, e.val, s.val] F M (Same F M (.bool (inEnv p e.pe s.blocks))) := by
  refine callsA_of hm Tryz.func17 e17 (Nat.le_of_ble_eq_true rfl) ?_
  have hl1 := h.cells.1
  have hl2 := h.news.1
  have hl3 := hs.blocks.1
  have hpre := progC_pre hc
  have hlen := hfm.len
  simp only [c17, go_sem, Nat.reduceAdd]
  intro r3 hF3 hM3
  simp only [go_sem, reduceCtorEq, Nat.reduceEqDiff]
  intro r4 hF4 hM4
  simp only [upd_none2] at hM4
  simp only [go_sem, reduceCtorEq, Nat.reduceEqDiff]
  intro r5 hF5 hM5
  simp only [upd_none2] at hM5
  have kp5 : Keep M (((M.upd r3 ⟨p.cs, 28, 7⟩).upd r4 ⟨e.cs, 38, 3⟩).upd r5 ⟨s.cs, 46, 5⟩) := (by repeat' first | exact Keep.refl _ | (refine Keep.new ?_ (by simp only [*])))
  have old5 : Old F (((M.upd r3 ⟨p.cs, 28, 7⟩).upd r4 ⟨e.cs, 38, 3⟩).upd r5 ⟨s.cs, 46, 5⟩) := (by repeat' first | assumption | (refine Old.upd ?_ (by assumption)))
  have f3 : (((M.upd r3 ⟨p.cs, 28, 7⟩).upd r4 ⟨e.cs, 38, 3⟩).upd r5 ⟨s.cs, 46, 5⟩) r3 = some ⟨p.cs, 28, 7⟩ := by rw [Hp.upd_ne' (by simp [hM5]), Hp.upd_ne' (by simp [hM4])]; exact Hp.upd_same _ _ _
  have f4 : (((M.upd r3 ⟨p.cs, 28, 7⟩).upd r4 ⟨e.cs, 38, 3⟩).upd r5 ⟨s.cs, 46, 5⟩) r4 = some ⟨e.cs, 38, 3⟩ := by rw [Hp.upd_ne' (by simp [hM5])]; exact Hp.upd_same _ _ _
  have f5 : (((M.upd r3 ⟨p.cs, 28, 7⟩).upd r4 ⟨e.cs, 38, 3⟩).upd r5 ⟨s.cs, 46, 5⟩) r5 = some ⟨s.cs, 46, 5⟩ := Hp.upd_same _ _ _
  generalize (((M.upd r3 ⟨p.cs, 28, 7⟩).upd r4 ⟨e.cs, 38, 3⟩).upd r5 ⟨s.cs, 46, 5⟩) = M1 at *
  have h1 := h.keep kp5 old5
  have hs1 := hs.keep kp5 old5
  have b3 := blk_M (F := F) f3
  have b4 := blk_M (F := F) f4
  have b5 := blk_M (F := F) f5
  clear hM3 hM4 hM5 hF3 hF4 hF5 h hs
  have fin : ∀ v : Bool, inEnv p e.pe s.blocks = v → ∀ M', Keep M1 M' → endK F M' (Same F M (.bool (inEnv p e.pe s.blocks))) (.bool v) := fun v h M' k => endK_keep (kp5.trans k) ⟨by rw [h], rfl, rfl⟩
  by_cases hno : e.no = true
  · have hR : inEnv p e.pe s.blocks = false := by
      have : e.pe.no = true := hno
      unfold inEnv; rw [this]; rfl
    simp only [go_sem, Nat.reduceEqDiff, b4, hno]
    exact fin _ hR _ (Keep.refl _)
  have hno' : e.no = false := by simpa using hno
  obtain ⟨hfc, hnl⟩ := hfc hno'
  have hR : inEnv p e.pe s.blocks = (e.pe.cells.all (saysB p s.blocks) && (List.range e.news.length).all (newB p s.blocks e.news)) := by
    have : e.pe.no = false := hno'
    unfold inEnv; rw [this]; rfl
  generalize inEnv p e.pe s.blocks = R at *
  simp only [go_sem, Nat.reduceEqDiff, b4, hno']
  have hpl : e.pe.cells.length = e.cells.length := by simp [En.pe]
  refine loop_up e.cells.length (pinI p e s.blocks F M1) ⟨rfl, Keep.refl _, old5, (by simp only [go_sem, *] <;> rfl), rfl⟩ ?_
  rintro i σ F' M2 hi hst ⟨rfl, kp, old, q7, he⟩
  have q3 := hst 3 rfl
  have q4 := hst 4 rfl
  have q5 := hst 5 rfl
  simp only [go_sem, Nat.reduceEqDiff] at q3 q4 q5
  clear hst
  have g3 := kp _ _ f3
  have g4 := kp _ _ f4
  have g5 := kp _ _ f5
  have b3' := blk_M (F := F) g3
  have b4' := blk_M (F := F) g4
  have b5' := blk_M (F := F) g5
  have h2 := h1.keep kp old
  have hs2 := hs1.keep kp old
  by_cases hil : (i : Int) < e.cells.length
  · have hi0 : (0 : Int) ≤ i := by omega
    have hi1 : i < e.cells.length := by omega
    have ei : IntKind.i64.wrap ((i : Int) + 1) = i + 1 := w64 (by omega) (by omega)
    have hfi := hfc _ (List.getElem_mem hi1)
    have hci := h2.ptrs _ (List.getElem_mem hi1)
    have t1 : e.pe.cells.take (i + 1) = e.pe.cells.take i ++ [(e.cells[i]).pc] := by
      rw [List.take_succ_eq_append_getElem (by omega)]; simp [En.pe]
    have hno2 : saysB p s.blocks (e.cells[i]).pc = false → R = false := fun h => by
      rw [hR]
      have : e.pe.cells.all (saysB p s.blocks) = false := by
        rw [List.all_eq_false]
        exact ⟨(e.cells[i]).pc, by simp only [En.pe]; exact List.mem_map_of_mem (List.getElem_mem hi1), by simp [h]⟩
      rw [this]; rfl
    obtain ⟨b, o, cs, ea, hb, rows⟩ := h2.cells.rows (by omega)
    obtain ⟨d1, d2⟩ := rows i hi1
    clear rows
    generalize e.cells[i] = c at *
    have hblk : 1 ≤ c.b ∧ c.b < s.blocks.length := hfi.block
    have hin : (blAt s.blocks c.b).st = 1 → 0 ≤ c.p ∧ c.p + spanK p.ptr c.k ≤ (blAt s.blocks c.b).l.length := hfi.inside
    have hkk : c.k = 0 ∨ c.k = 11 ∨ isS c.k = true := hfi.kind
    have hby : ∀ x ∈ (blAt s.blocks c.b).l, byteB x = true := by
      obtain ⟨k, hk⟩ := Int.eq_ofNat_of_zero_le (by omega : 0 ≤ c.b)
      have hkl : k < s.blocks.length := by omega
      rw [hk, blAt_get hkl]
      exact (hfm.bytes k hkl).1
    have kS := k46 F M2 p s.blocksA s.blocksC s.blocks c old hpre.1 hci hs2.blocks hs2.bytes (by omega) hin hby hkk
    simp only [go_sem, reduceIte, Nat.reduceEqDiff, q3, q4, q5, q7, b3', b4', b5', hil, hi0, ea, Int.toNat_natCast, hb, d1, d2]
    with_reducible refine callK_same kS ?_
    cases hsv : saysB p s.blocks c.pc
    · simp only [go_sem]
      exact fin _ (hno2 hsv) _ kp
    · simp only [go_sem, reduceIte, Nat.reduceEqDiff, q7, ei]
      exact ⟨hi1, rfl, kp, old, (by simp only [go_sem, *] <;> rfl), by rw [t1, List.all_append, he]; simp [hsv]⟩
  have hx : i = e.cells.length := by omega
  have hall : e.pe.cells.all (saysB p s.blocks) = true := by
    rw [List.take_of_length_le (by omega)] at he; exact he
  rw [hall, Bool.true_and] at hR
  simp only [go_sem, reduceIte, Nat.reduceEqDiff, q4, q7, hil, b4']
  clear q7 hil he hx
  refine loop_up e.news.length (pinN p e s.blocks F M2) ⟨rfl, rfl, (by simp only [go_sem, *] <;> rfl), rfl⟩ ?_
  rintro k σ3 F' M3 hk hst ⟨rfl, rfl, q8, he3⟩
  have t3 := hst 3 rfl
  have t4 := hst 4 rfl
  have t5 := hst 5 rfl
  simp only [go_sem, Nat.reduceEqDiff, q3, q4, q5] at t3 t4 t5
  clear hst
  by_cases hkl : (k : Int) < e.news.length
  rotate_left
  · have hk' : k = e.news.length := by omega
    rw [hk'] at he3
    simp only [go_sem, reduceIte, Nat.reduceEqDiff, t4, b4', q8, hkl]
    exact fin _ (by rw [hR, he3]) _ kp
  have hk0 : (0 : Int) ≤ k := by omega
  have hk1 : k < e.news.length := by omega
  have ek : IntKind.i64.wrap ((k : Int) + 1) = k + 1 := w64 (by omega) (by omega)
  have hj : p.vars.length + 1 + k < s.blocks.length := by omega
  have ew1 : IntKind.i64.wrap ((p.vars.length : Int) + 1) = p.vars.length + 1 := w64 (by omega) (by omega)
  have ew2 : IntKind.i64.wrap ((p.vars.length : Int) + 1 + k) = ((p.vars.length + 1 + k : Nat) : Int) := by rw [w64 (by omega) (by omega)]; omega
  have hj0 : (0 : Int) ≤ ((p.vars.length + 1 + k : Nat) : Int) := by omega
  have hjl : ((p.vars.length + 1 + k : Nat) : Int) < s.blocks.length := by omega
  have hnB := newB_at (p := p) (m := s.blocks) hk1 hj rfl
  have hst0 := (hfm.bytes _ hj).2.1
  obtain ⟨b4, o4, cs4, ea4, hb4, e1⟩ := Ax.int_at h2.news hk1
  obtain ⟨b', o', cs', ea', hb', rows⟩ := hs2.blocks.rows (by omega)
  obtain ⟨d3, d4⟩ := rows _ hj
  obtain ⟨d4, _⟩ := Go.Ax.Bl.row d4
  clear rows
  generalize s.blocks[p.vars.length + 1 + k] = x at *
  generalize e.news[k] = y at *
  have hst0' : ¬ x.st < 0 := by omega
  by_cases hz : band .i64 (shrv .i64 y x.st) 1 = 0
  · have hf : newB p s.blocks e.news k = false := by rw [hnB]; simp [hz]
    simp only [go_sem, reduceIte, Nat.reduceEqDiff, t3, t4, t5, q8, hkl, hk0, ea4, Int.toNat_natCast, Nat.add_zero, hb4, e1, b3', b4', b5', ew1, ew2, hj0, hjl, ea', hb', d4, hst0', hz]
    exact fin _ (by rw [hR, range_no hk1 hf]) _ kp
  · have hf : newB p s.blocks e.news k = true := by rw [hnB]; simp [hz]
    simp only [go_sem, reduceIte, Nat.reduceEqDiff, t3, t4, t5, q8, hkl, hk0, ea4, Int.toNat_natCast, Nat.add_zero, hb4, e1, b3', b4', b5', ew1, ew2, hj0, hjl, ea', hb', d4, hst0', hz, ek]
    exact ⟨hk1, rfl, rfl, (by simp only [go_sem, *] <;> rfl), by rw [all_range, he3, hf]; rfl⟩
theorem k16 (p : Pg) (e : En) (s : Ste) (hp : p.rd F) (hold : Old F M) (h : e.rd F M) (hs : s.rd F M) (hfe : e.cells.length ≤ 100000 ∧ e.news.length ≤ 100000) :
    CallsA Tryz.prog 16 [p.val, e.val, s.val] F M (Same F M (if progC p = true ∧ envB p e.pe = true ∧ stateB p s = true then .tuple #[.bool (inEnv p e.pe s.blocks), .int .i64 0] else .tuple #[.bool false, .int .i64 1])) := by
  refine callsA_of hm Tryz.func16 e16 (Nat.le_of_ble_eq_true rfl) ?_
  simp only [c16, go_sem, Nat.reduceAdd]
  intro r3 hF3 hM3
  simp only [go_sem, reduceCtorEq, Nat.reduceEqDiff]
  intro r4 hF4 hM4
  simp only [upd_none2] at hM4
  simp only [go_sem, reduceCtorEq, Nat.reduceEqDiff]
  intro r5 hF5 hM5
  simp only [upd_none2] at hM5
  have kp5 : Keep M (((M.upd r3 ⟨p.cs, 28, 7⟩).upd r4 ⟨e.cs, 38, 3⟩).upd r5 ⟨s.cs, 46, 5⟩) := (by repeat' first | exact Keep.refl _ | (refine Keep.new ?_ (by simp only [*])))
  have old5 : Old F (((M.upd r3 ⟨p.cs, 28, 7⟩).upd r4 ⟨e.cs, 38, 3⟩).upd r5 ⟨s.cs, 46, 5⟩) := (by repeat' first | assumption | (refine Old.upd ?_ (by assumption)))
  have f3 : (((M.upd r3 ⟨p.cs, 28, 7⟩).upd r4 ⟨e.cs, 38, 3⟩).upd r5 ⟨s.cs, 46, 5⟩) r3 = some ⟨p.cs, 28, 7⟩ := by rw [Hp.upd_ne' (by simp [hM5]), Hp.upd_ne' (by simp [hM4])]; exact Hp.upd_same _ _ _
  have f4 : (((M.upd r3 ⟨p.cs, 28, 7⟩).upd r4 ⟨e.cs, 38, 3⟩).upd r5 ⟨s.cs, 46, 5⟩) r4 = some ⟨e.cs, 38, 3⟩ := by rw [Hp.upd_ne' (by simp [hM5])]; exact Hp.upd_same _ _ _
  have f5 : (((M.upd r3 ⟨p.cs, 28, 7⟩).upd r4 ⟨e.cs, 38, 3⟩).upd r5 ⟨s.cs, 46, 5⟩) r5 = some ⟨s.cs, 46, 5⟩ := Hp.upd_same _ _ _
  generalize (((M.upd r3 ⟨p.cs, 28, 7⟩).upd r4 ⟨e.cs, 38, 3⟩).upd r5 ⟨s.cs, 46, 5⟩) = M1 at *
  have h1 := h.keep kp5 old5
  have hs1 := hs.keep kp5 old5
  have b3 := blk_M (F := F) f3
  have b4 := blk_M (F := F) f4
  have b5 := blk_M (F := F) f5
  clear hM3 hM4 hM5 hF3 hF4 hF5 h hs
  simp only [go_sem, reduceIte, Nat.reduceEqDiff, Nat.reduceAdd, b3, b4]
  intro r10 hF10 hM10
  have f3' := ((Keep.refl M1).new hM10 (e := ⟨e.cs, 38, 3⟩)) _ _ f3
  have f4' := ((Keep.refl M1).new hM10 (e := ⟨e.cs, 38, 3⟩)) _ _ f4
  have f5' := ((Keep.refl M1).new hM10 (e := ⟨e.cs, 38, 3⟩)) _ _ f5
  have b3' := blk_M (F := F) f3'
  have b4' := blk_M (F := F) f4'
  have b5' := blk_M (F := F) f5'
  have kp6 : Keep M1 (M1.upd r10 ⟨e.cs, 38, 3⟩) := (Keep.refl M1).new hM10
  have old6 : Old F (M1.upd r10 ⟨e.cs, 38, 3⟩) := old5.upd hF10
  have f10 : (M1.upd r10 ⟨e.cs, 38, 3⟩) r10 = some ⟨e.cs, 38, 3⟩ := Hp.upd_same _ _ _
  generalize M1.upd r10 ⟨e.cs, 38, 3⟩ = M2 at *
  have b10 := blk_M (F := F) f10
  have h2 := h1.keep kp6 old6
  have hs2 := hs1.keep kp6 old6
  have hlE : RdG 3 En.cs F M2 (.slice (some ⟨r10, 0, none⟩) [e].length 1) [e] := by
    refine ⟨by simp, _, _, Nat.le_refl _, rfl, .inr ⟨r10, 0, e.cs, rfl, b10, ?_⟩⟩
    intro i hi
    have : i = 0 := by simp at hi; omega
    subst this
    exact ⟨by simp [En.cs_len], by simp [En.take_all]⟩
  have kA := k44 F M2 p _ _ [e] hp old6 hlE (fun x hx => by rw [List.mem_singleton.1 hx]; exact h2) (fun x hx => by rw [List.mem_singleton.1 hx]; exact hfe)
  simp only [List.all_cons, List.all_nil, Bool.and_true, List.length_singleton] at kA
  simp only [go_sem, Nat.reduceEqDiff]
  with_reducible refine callK_same kA ?_
  have fin : ∀ v : Value, (if progC p = true ∧ envB p e.pe = true ∧ stateB p s = true then Value.tuple #[.bool (inEnv p e.pe s.blocks), .int .i64 0] else .tuple #[.bool false, .int .i64 1]) = v → ∀ M', Keep M2 M' → endK F M' (Same F M (if progC p = true ∧ envB p e.pe = true ∧ stateB p s = true then .tuple #[.bool (inEnv p e.pe s.blocks), .int .i64 0] else .tuple #[.bool false, .int .i64 1])) v := fun v h M' k => endK_keep (kp5.trans (kp6.trans k)) ⟨h.symm, rfl, rfl⟩
  generalize hRd : (if progC p = true ∧ envB p e.pe = true ∧ stateB p s = true then Value.tuple #[.bool (inEnv p e.pe s.blocks), .int .i64 0] else .tuple #[.bool false, .int .i64 1]) = R at *
  by_cases hpe : progC p = true ∧ envB p e.pe = true
  rotate_left
  · have hf : (progC p && envB p e.pe) = false := by
      cases h1 : progC p
      · rfl
      · cases h2 : envB p e.pe
        · rfl
        · exact absurd ⟨h1, h2⟩ hpe
    rw [if_neg (fun h => hpe ⟨h.1, h.2.1⟩)] at hRd
    simp only [go_sem, reduceIte, Nat.reduceEqDiff, hf]
    exact fin _ hRd.symm _ (Keep.refl _)
  have ht : (progC p && envB p e.pe) = true := by rw [hpe.1, hpe.2]; rfl
  simp only [go_sem, reduceIte, Nat.reduceEqDiff, ht, b3', b5']
  with_reducible refine callK_same (k28 F M2 p s hp old6 hs2) ?_
  cases hsb : stateB p s
  · rw [hsb, if_neg (fun h => by cases h.2.2)] at hRd
    simp only [go_sem, reduceCtorEq, reduceIte, Nat.reduceEqDiff]
    exact fin _ hRd.symm _ (Keep.refl _)
  rw [hsb, if_pos ⟨hpe.1, hpe.2, rfl⟩] at hRd
  have hfm : FitM p s.blocks := FitM.of (by unfold stateB at hsb; simp only [Bool.and_eq_true] at hsb; exact hsb.2)
  have kH := k45 F M2 p e s hp old6 h2 hs2 hpe.1 hfm (fun hn => ⟨fun c hc => FitC.of hfm ((envB_cells hpe.2 hn).1 _ (by simp only [En.pe]; exact List.mem_map_of_mem hc)), (envB_cells hpe.2 hn).2.1⟩)
  simp only [go_sem, reduceCtorEq, reduceIte, Nat.reduceEqDiff, b3', b4', b5']
  with_reducible refine callK_same kH ?_
  simp only [go_sem, Nat.reduceEqDiff]
  exact fin _ hRd.symm _ (Keep.refl _)
end Go.Proofs.Tryz.K
namespace Go.Proofs.Tryz.K
open Go Go.Ax Go.Proofs.Tryz.S
set_option maxRecDepth 100000
set_option linter.unusedSimpArgs false
set_option linter.unusedVariables false
set_option maxHeartbeats 4000000
variable (F : Fz) (M : Hp)
theorem k80 (x y : Cl) (h1 : x.rd F M) (h2 : y.rd F M) :
    CallsA Tryz.prog 80 [x.val, y.val] F M (Same F M (.bool (decide (x.pc = y.pc)))) := by
  refine callsA_of hm Tryz.func80 e80 (Nat.le_of_ble_eq_true rfl) ?_
  have e : ∀ c1 c2 : Pc, decide (c1 = c2) = (decide (c1.b = c2.b) && (decide (c1.p = c2.p) && (decide (c1.k = c2.k) && (decide (c1.v = c2.v) && decide (c1.l = c2.l))))) := fun c1 c2 => by
    rw [Bool.eq_iff_iff]; cases c1; cases c2; simp
  have hR : decide (x.pc = y.pc) = (decide (x.b = y.b) && (decide (x.p = y.p) && (decide (x.k = y.k) && (decide (x.v = y.v) && decide (x.l = y.l))))) := e _ _
  generalize decide (x.pc = y.pc) = R at *
  simp only [c80, go_sem]
  intro r2 hF2 hM2
  simp only [go_sem, reduceCtorEq, Nat.reduceEqDiff]
  intro r3 hF3 hM3
  simp only [upd_none2] at hM3
  have kp3 : Keep M ((M.upd r2 ⟨x.cs, 87, 10⟩).upd r3 ⟨y.cs, 87, 10⟩) := (by repeat' first | exact Keep.refl _ | (refine Keep.new ?_ (by simp only [*])))
  have f2 : ((M.upd r2 ⟨x.cs, 87, 10⟩).upd r3 ⟨y.cs, 87, 10⟩) r2 = some ⟨x.cs, 87, 10⟩ := by rw [Hp.upd_ne' (by simp [hM3])]; exact Hp.upd_same _ _ _
  have f3 : ((M.upd r2 ⟨x.cs, 87, 10⟩).upd r3 ⟨y.cs, 87, 10⟩) r3 = some ⟨y.cs, 87, 10⟩ := Hp.upd_same _ _ _
  have g1 : x.rd F ((M.upd r2 ⟨x.cs, 87, 10⟩).upd r3 ⟨y.cs, 87, 10⟩) := RdG.new (RdG.new h1 hF2 hM2) hF3 (by simp only [upd_none2, not_false_eq_true, and_self, *])
  have g2 : y.rd F ((M.upd r2 ⟨x.cs, 87, 10⟩).upd r3 ⟨y.cs, 87, 10⟩) := RdG.new (RdG.new h2 hF2 hM2) hF3 (by simp only [upd_none2, not_false_eq_true, and_self, *])
  have kE := k72 F ((M.upd r2 ⟨x.cs, 87, 10⟩).upd r3 ⟨y.cs, 87, 10⟩) x.v y.v (.slice x.lA x.l.length x.lC) (.slice y.lA y.l.length y.lC) x.l y.l g1 g2
  have b2 := blk_M (F := F) f2
  have b3 := blk_M (F := F) f3
  generalize ((M.upd r2 ⟨x.cs, 87, 10⟩).upd r3 ⟨y.cs, 87, 10⟩) = M1 at *
  by_cases c1 : x.b = y.b
  rotate_left
  · simp only [go_sem, reduceCtorEq, reduceIte, Nat.reduceEqDiff, b2, b3, c1]
    exact endK_keep kp3 ⟨by rw [hR]; simp [c1], rfl, rfl⟩
  by_cases c2 : x.p = y.p
  rotate_left
  · simp only [go_sem, reduceCtorEq, reduceIte, Nat.reduceEqDiff, b2, b3, c1, c2]
    exact endK_keep kp3 ⟨by rw [hR]; simp [c2], rfl, rfl⟩
  by_cases c3 : x.k = y.k
  rotate_left
  · simp only [go_sem, reduceCtorEq, reduceIte, Nat.reduceEqDiff, b2, b3, c1, c2, c3]
    exact endK_keep kp3 ⟨by rw [hR]; simp [c3], rfl, rfl⟩
  simp only [go_sem, reduceIte, Nat.reduceEqDiff, Nat.reduceAdd, b2, b3, c1, c2, c3]
  with_reducible refine callK_same kE ?_
  simp only [go_sem, reduceIte, Nat.reduceEqDiff]
  exact endK_keep kp3 ⟨by rw [hR]; simp [c1, c2, c3], rfl, rfl⟩
theorem k38 (a1 a2 : Option Addr) (c1 c2 : Nat) (l1 l2 : List Cl) (h1 : RdG 10 Cl.cs F M (.slice a1 l1.length c1) l1) (h2 : RdG 10 Cl.cs F M (.slice a2 l2.length c2) l2) (r1 : ∀ x ∈ l1, x.rd F M) (r2 : ∀ x ∈ l2, x.rd F M) :
    CallsA Tryz.prog 38 [.slice a1 l1.length c1, .slice a2 l2.length c2] F M (Same F M (.bool (decide (l1.map Cl.pc = l2.map Cl.pc)))) := by
  refine callsA_of hm Tryz.func38 e38 (Nat.le_of_ble_eq_true rfl) ?_
  have hm1 := h1.1
  by_cases hlen : (l1.length : Int) = l2.length
  rotate_left
  · simp only [c38, go_sem, reduceCtorEq, reduceIte, Nat.reduceEqDiff, hlen]
    exact endK_same ⟨by rw [decide_eq_false (fun h => hlen (by have := congrArg List.length h; simp at this; omega))], rfl, rfl⟩
  simp only [c38, go_sem, reduceCtorEq, reduceIte, Nat.reduceEqDiff, hlen]
  refine loop_up l1.length (fun i σ F' M' => F = F' ∧ M = M' ∧ Ax.look σ 5 = some (.int .i64 i) ∧ (l1.map Cl.pc).take i = (l2.map Cl.pc).take i) ⟨rfl, rfl, (by simp only [go_sem, *] <;> rfl), by simp⟩ ?_
  rintro i σ F' M' hi hs ⟨rfl, rfl, h5, he⟩
  have s0 := hs 0 rfl
  have s1 := hs 1 rfl
  simp only [go_sem, reduceCtorEq, Nat.reduceEqDiff] at s0 s1
  clear hs
  by_cases hil : (i : Int) < l2.length
  rotate_left
  · have : l1.map Cl.pc = l2.map Cl.pc := by
      rw [List.take_of_length_le (by simp; omega), List.take_of_length_le (by simp; omega)] at he
      exact he
    simp only [go_sem, reduceCtorEq, reduceIte, Nat.reduceEqDiff, s0, h5, hil, hlen]
    exact endK_same ⟨by simp [this], rfl, rfl⟩
  have hi0 : (0 : Int) ≤ i := by omega
  have hi1 : i < l1.length := by omega
  have hi2 : i < l2.length := by omega
  have ei : IntKind.i64.wrap ((i : Int) + 1) = i + 1 := w64 (by omega) (by omega)
  obtain ⟨b, o, cs, rfl, hb, d1, d2⟩ := RdG.at h1 hi1
  obtain ⟨b', o', cs', rfl, hb', d3, d4⟩ := RdG.at h2 hi2
  have t1 : (l1.map Cl.pc).take (i + 1) = (l1.map Cl.pc).take i ++ [(l1[i]).pc] := by rw [List.take_succ_eq_append_getElem (by simpa using hi1)]; simp
  have t2 : (l2.map Cl.pc).take (i + 1) = (l2.map Cl.pc).take i ++ [(l2[i]).pc] := by rw [List.take_succ_eq_append_getElem (by simpa using hi2)]; simp
  have hne : ¬ (l1[i]).pc = (l2[i]).pc → ¬ l1.map Cl.pc = l2.map Cl.pc := fun h e => by
    have := congrArg (fun l => l[i]?) e
    simp only [List.getElem?_map, List.getElem?_eq_getElem hi1, List.getElem?_eq_getElem hi2, Option.map_some, Option.some.injEq] at this
    exact h this
  have x1 := r1 _ (List.getElem_mem hi1)
  have x2 := r2 _ (List.getElem_mem hi2)
  generalize l1[i] = x at *
  generalize l2[i] = y at *
  simp only [go_sem, reduceCtorEq, reduceIte, Nat.reduceEqDiff, s0, s1, h5, hlen, hil, hi0, Int.toNat_natCast, hb, hb', d1, d2, d3, d4]
  with_reducible refine callK_same (k80 F M x y x1 x2) ?_
  by_cases hxy : x.pc = y.pc
  · simp only [go_sem, reduceIte, Nat.reduceEqDiff, hxy, h5, ei]
    exact ⟨hi1, rfl, rfl, (by simp only [go_sem, *] <;> rfl), by rw [t1, t2, he, hxy]⟩
  · simp only [go_sem, hxy]
    exact endK_same ⟨by rw [decide_eq_false (hne hxy)], rfl, rfl⟩
theorem k12 (x y : En) (h1 : x.rd F M) (h2 : y.rd F M) :
    CallsA Tryz.prog 12 [x.val, y.val] F M (Same F M (.bool (decide (x.pe = y.pe)))) := by
  refine callsA_of hm Tryz.func12 e12 (Nat.le_of_ble_eq_true rfl) ?_
  have e : ∀ c1 c2 : Pe, decide (c1 = c2) = (decide (c1.no = c2.no) && (decide (c1.cells = c2.cells) && decide (c1.news = c2.news))) := fun c1 c2 => by
    rw [Bool.eq_iff_iff]; cases c1; cases c2; simp
  have hR : decide (x.pe = y.pe) = (decide (x.no = y.no) && (decide (x.cells.map Cl.pc = y.cells.map Cl.pc) && decide (x.news = y.news))) := e _ _
  generalize decide (x.pe = y.pe) = R at *
  simp only [c12, go_sem]
  intro r2 hF2 hM2
  simp only [go_sem, reduceCtorEq, Nat.reduceEqDiff]
  intro r3 hF3 hM3
  simp only [upd_none2] at hM3
  have kp3 : Keep M ((M.upd r2 ⟨x.cs, 38, 3⟩).upd r3 ⟨y.cs, 38, 3⟩) := (by repeat' first | exact Keep.refl _ | (refine Keep.new ?_ (by simp only [*])))
  have f2 : ((M.upd r2 ⟨x.cs, 38, 3⟩).upd r3 ⟨y.cs, 38, 3⟩) r2 = some ⟨x.cs, 38, 3⟩ := by rw [Hp.upd_ne' (by simp [hM3])]; exact Hp.upd_same _ _ _
  have f3 : ((M.upd r2 ⟨x.cs, 38, 3⟩).upd r3 ⟨y.cs, 38, 3⟩) r3 = some ⟨y.cs, 38, 3⟩ := Hp.upd_same _ _ _
  have g1 : x.rd F ((M.upd r2 ⟨x.cs, 38, 3⟩).upd r3 ⟨y.cs, 38, 3⟩) := (h1.new hF2 hM2).new hF3 (by simp only [upd_none2, not_false_eq_true, and_self, *])
  have g2 : y.rd F ((M.upd r2 ⟨x.cs, 38, 3⟩).upd r3 ⟨y.cs, 38, 3⟩) := (h2.new hF2 hM2).new hF3 (by simp only [upd_none2, not_false_eq_true, and_self, *])
  have b2 := blk_M (F := F) f2
  have b3 := blk_M (F := F) f3
  generalize ((M.upd r2 ⟨x.cs, 38, 3⟩).upd r3 ⟨y.cs, 38, 3⟩) = M1 at *
  have kC := k38 F M1 _ _ _ _ x.cells y.cells g1.cells g2.cells g1.ptrs g2.ptrs
  have kN := k39 F M1 _ _ _ _ x.news y.news g1.news g2.news
  by_cases c1 : x.no = y.no
  rotate_left
  · have c1' : (x.no == y.no) = false := by simpa using c1
    simp only [go_sem, reduceCtorEq, reduceIte, Nat.reduceEqDiff, b2, b3, c1']
    exact endK_keep kp3 ⟨by rw [hR]; simp [c1], rfl, rfl⟩
  have c1' : (x.no == y.no) = true := by simpa using c1
  simp only [go_sem, Nat.reduceEqDiff, b2, b3, c1']
  with_reducible refine callK_same kC ?_
  by_cases c2 : x.cells.map Cl.pc = y.cells.map Cl.pc
  rotate_left
  · simp only [go_sem, reduceCtorEq, reduceIte, Nat.reduceEqDiff, c2]
    exact endK_keep kp3 ⟨by rw [hR]; simp [c2], rfl, rfl⟩
  simp only [go_sem, reduceIte, Nat.reduceEqDiff, b2, b3, c2]
  with_reducible refine callK_same kN ?_
  simp only [go_sem, reduceIte, Nat.reduceEqDiff]
  exact endK_keep kp3 ⟨by rw [hR]; simp [c1, c2], rfl, rfl⟩
def cnI (l : List Int) (F0 : Fz) (M0 : Hp) (i : Nat) (σ : Env) (F : Fz) (M : Hp) : Prop :=
  F0 = F ∧ Keep M0 M ∧ Old F0 M ∧ Ax.look σ 4 = some (.int .i64 i) ∧ ∃ w, Ax.look σ 3 = some w ∧ MineG 1 intC 3 F0 M0 M w (l.take i)
theorem k43 (a : Option Addr) (c : Nat) (l : List Int) (h : intR F M a c l) (hold : Old F M) (hl : l.length ≤ 100000) :
    CallsA Tryz.prog 43 [.slice a l.length c] F M (rowR 1 intC 3 l F M) := by
  refine callsA_of hm Tryz.func43 e43 (Nat.le_of_ble_eq_true rfl) ?_
  simp only [c43, go_sem]
  refine loop_up l.length (cnI l F M) ⟨rfl, Keep.refl _, hold, (by simp only [go_sem, *] <;> rfl), _, (by simp only [go_sem, Nat.reduceEqDiff, *] <;> rfl), by rw [List.take_zero]; exact MineG.nil⟩ ?_
  rintro i σ F' M' hi hst ⟨rfl, kp, old, q4, w, q3, mine⟩
  have q0 := hst 0 rfl
  simp only [go_sem, reduceCtorEq] at q0
  clear hst
  by_cases hil : (i : Int) < l.length
  rotate_left
  · rw [List.take_of_length_le (by omega)] at mine
    simp only [go_sem, reduceCtorEq, reduceIte, Nat.reduceEqDiff, q0, q3, q4, hil]
    exact mine.done kp
  have hi0 : (0 : Int) ≤ i := by omega
  have hi1 : i < l.length := by omega
  have ei : IntKind.i64.wrap ((i : Int) + 1) = i + 1 := w64 (by omega) (by omega)
  obtain ⟨b, o, cs, rfl, hb, d1⟩ := Ax.int_at (h.keep kp old) hi1
  have t1 := List.take_succ_eq_append_getElem hi1
  generalize l[i] = x at *
  simp only [go_sem, reduceCtorEq, reduceIte, Nat.reduceEqDiff, q0, q3, q4, hil, hi0, Int.toNat_natCast, hb, d1]
  intro rb hFb hMb
  simp only [go_sem, Nat.reduceEqDiff]
  refine apMG_of (xs := l.take i) (ys := [x]) intC_len intC_plain (by decide) (mine.fresh hMb) (kp.new (kp.free hMb)) ⟨rfl, .inr ⟨⟨rb, 0, none⟩, 1, rfl, .inr ⟨rb, 0, _, rfl, blk_upd_same, by simp [intC, intV]⟩⟩⟩ (by simp) (by simp; omega) ?_
  rintro v' M2 _ _ kp2 ho2 mine2
  rw [← t1] at mine2
  simp only [go_sem, reduceIte, Nat.reduceEqDiff, q4, ei]
  exact ⟨hi1, rfl, kp2, ho2 (old.upd hFb), (by simp only [go_sem, *] <;> rfl), v', (by simp only [go_sem, Nat.reduceEqDiff, *] <;> rfl), mine2⟩
def cellNew (c : Pc) (F : Fz) (M : Hp) (u : Value) (F' : Fz) (M' : Hp) : Prop := F' = F ∧ Keep M M' ∧ Old F M' ∧ ∃ c' : Cl, u = c'.val ∧ c'.pc = c ∧ OwnG 7 Ba.cs 157 F M' (.slice c'.lA c'.l.length c'.lC) c'.l
theorem own_zero {α : Type} {sz : Nat} {f : α → List Value} {e : TypeId} {F : Fz} {M : Hp} {a : Option Addr} {n c : Nat} {l : List α} (h : OwnG sz f e F M (.slice a n c) l) : a = none → c = 0 := by
  rintro rfl
  rcases h with ⟨h, _⟩ | ⟨g, cap, h, _⟩
  · cases h; rfl
  · cases h
end Go.Proofs.Tryz.K
namespace Go.Ax
open Go
set_option linter.unusedVariables false
set_option linter.unusedSimpArgs false
def Ask16.val (q : Ask16) : Value := .agg q.cs.toArray
@[go_sem] theorem Ask16.fold2 {q : Ask16} : Value.agg q.cs.toArray = q.val := rfl
@[go_sem] theorem Ask16.cells_m {q : Ask16} : Value.cells.match_1 (fun _ => Array Value) q.val (fun cs => cs) (fun u => #[u]) = q.cs.toArray := rfl
@[go_sem] theorem Ask16.cells_val {q : Ask16} : q.val.cells = q.cs.toArray := rfl
@[go_sem] theorem Ask16.cs_size {q : Ask16} : q.cs.toArray.size = 10 := rfl
@[go_sem] theorem Ask16.cs_len {q : Ask16} : q.cs.length = 10 := rfl
@[go_sem] theorem Ask16.cs_plain {q : Ask16} : plainCells q.cs = True := by
  apply eq_true
  intro u hu
  simp only [Ask16.cs, Pg.cs, List.mem_append, List.mem_cons, List.not_mem_nil, or_false] at hu
  rcases hu with (rfl | rfl | rfl | rfl | rfl | rfl | rfl) | rfl | rfl | rfl <;> rfl
@[go_sem] theorem Ask16.take_all {q : Ask16} : q.cs.take 10 = q.cs := rfl
@[go_sem] theorem Ask16.take0 {q : Ask16} : q.cs.take 0 = [] := rfl
@[go_sem] theorem Ask16.drop_all {q : Ask16} : q.cs.drop 10 = [] := rfl
@[go_sem] theorem Ask16.ld {q : Ask16} : rd true 10 q.cs 0 = some q.val := rfl
@[go_sem] theorem Ask16.ldp {q : Ask16} : rd true 7 q.cs 0 = some q.p.val := rfl
@[go_sem] theorem Ask16.get2 {q : Ask16} : q.cs[2]? = some (.slice q.p.vA q.p.vars.length q.p.vC) := rfl
@[go_sem] theorem Ask16.get7 {q : Ask16} : q.cs[7]? = some (.slice q.sA q.s.length q.sC) := rfl
@[go_sem] theorem Ask16.ld7 {q : Ask16} : rd false 1 q.cs 7 = some (.slice q.sA q.s.length q.sC) := rfl
@[go_sem] theorem Ask16.get8 {q : Ask16} : q.cs[8]? = some (.slice q.eA q.e.length q.eC) := rfl
@[go_sem] theorem Ask16.ld8 {q : Ask16} : rd false 1 q.cs 8 = some (.slice q.eA q.e.length q.eC) := rfl
@[go_sem] theorem Ask16.get9 {q : Ask16} : q.cs[9]? = some (.slice q.xA q.x.length q.xC) := rfl
@[go_sem] theorem Ask16.ld9 {q : Ask16} : rd false 1 q.cs 9 = some (.slice q.xA q.x.length q.xC) := rfl
@[go_sem] theorem Ask16.ld2 {q : Ask16} : rd false 1 q.cs 2 = some (.slice q.p.vA q.p.vars.length q.p.vC) := rfl
def Pg.few (p : Pg) : Prop := p.vars.length ≤ 2500 ∧ p.news.length ≤ 2500 ∧ p.exprs.length ≤ 2500 ∧ p.stmts.length ≤ 2500 ∧ p.main.length ≤ 2500 ∧ ∀ s ∈ p.stmts, s.body.length ≤ 2500 ∧ s.els.length ≤ 2500
def Ste.few (s : Ste) : Prop := s.blocks.length ≤ 2500 ∧ s.next.length ≤ 2500 ∧ ∀ b ∈ s.blocks, b.l.length ≤ 2500
def En.few (e : En) : Prop := e.cells.length ≤ 2500 ∧ e.news.length ≤ 2500 ∧ ∀ c ∈ e.cells, c.l.length ≤ 2500
def Ask16.few (q : Ask16) : Prop := q.p.few ∧ (∀ s ∈ q.s, s.few) ∧ (∀ e ∈ q.e, e.few) ∧ ∀ x ∈ q.x, x.n ≤ 2500
def wtR (P : Prop) (F : Fz) (M : Hp) (v : Value) (F' : Fz) (M' : Hp) : Prop := F' = F ∧ M' = M ∧ ∃ n : Int, v = .int .i64 n ∧ 0 ≤ n ∧ n ≤ 1125899906842624 ∧ (n ≤ 2500 → P)
theorem inBlock_st {P : Program} {c : SC} {Q : Post} {σ : Env} {F : Fz} {M : Hp} {i : Nat} (I : Env → Fz → Hp → Prop) (h : W P c (Post.inBlock i (cutQ (At I) Q)) σ F M) (hn : ∀ σ' F' M', Stay c.defs σ σ' → I σ' F' M' → Q .n σ' F' M') : W P c (Post.inBlock i Q) σ F M := block_st (i := i) I h hn
end Go.Ax
namespace Go.Proofs.Tryz.K
open Go Go.Ax Go.Proofs.Tryz.S
set_option maxRecDepth 100000
set_option linter.unusedSimpArgs false
set_option linter.unusedVariables false
set_option maxHeartbeats 4000000
variable (F : Fz) (M : Hp)
theorem k9 (n : Int) : CallsA Tryz.prog 9 [.int .i64 n] F M (Same F M (.int .i64 n)) := by
  refine callsA_of hm Tryz.func9 e9 (Nat.le_of_ble_eq_true rfl) ?_
  simp only [c9, go_sem, reduceCtorEq]
  exact endK_same ⟨rfl, rfl, rfl⟩
def wtI (v w : Nat) (P : Nat → Prop) (F0 : Fz) (M0 : Hp) (i : Nat) (σ : Env) (F : Fz) (M : Hp) : Prop :=
  F0 = F ∧ M0 = M ∧ Ax.look σ v = some (.int .i64 i) ∧ ∃ n : Int, Ax.look σ w = some (.int .i64 n) ∧ 0 ≤ n ∧ n ≤ 1125899906842624 ∧ (n ≤ 2500 → P i)
theorem k47 (a : Option Addr) (c : Nat) (l : List Bl) (h : RdG 2 Bl.cs F M (.slice a l.length c) l) (hl : l.length ≤ 140737488351232) (hb : ∀ b ∈ l, b.l.length ≤ 140737488351232) :
    CallsA Tryz.prog 47 [.slice a l.length c] F M (fun v F' M' => F' = F ∧ M' = M ∧ ∃ n : Int, v = .int .i64 n ∧ 0 ≤ n ∧ n ≤ 562949953421312 ∧ (n ≤ 2500 → l.length ≤ 2500 ∧ ∀ b ∈ l, b.l.length ≤ 2500)) := by
  refine callsA_of hm Tryz.func47 e47 (Nat.le_of_ble_eq_true rfl) ?_
  simp only [c47, go_sem, reduceCtorEq]
  refine loop_up l.length (fun i σ F' M' => F = F' ∧ M = M' ∧ Ax.look σ 4 = some (.int .i64 i) ∧ ∃ n : Int, Ax.look σ 3 = some (.int .i64 n) ∧ 0 ≤ n ∧ n ≤ 562949953421312 ∧ (n ≤ 2500 → l.length ≤ 2500 ∧ ∀ b ∈ l.take i, b.l.length ≤ 2500)) ⟨rfl, rfl, (by simp only [go_sem, *] <;> rfl), l.length, (by simp only [go_sem, Nat.reduceEqDiff, *] <;> rfl), by omega, by omega, fun h => ⟨by omega, fun b hb => by simp at hb⟩⟩ ?_
  rintro i σ F' M' hi hst ⟨rfl, rfl, q4, n, q3, n0, n1, hP⟩
  have q0 := hst 0 rfl
  simp only [go_sem, reduceCtorEq] at q0
  clear hst
  by_cases hil : (i : Int) < l.length
  rotate_left
  · rw [List.take_of_length_le (by omega)] at hP
    simp only [go_sem, reduceCtorEq, reduceIte, Nat.reduceEqDiff, q0, q3, q4, hil]
    exact endK_same ⟨rfl, rfl, n, rfl, n0, n1, hP⟩
  by_cases hn : n < 1048576
  rotate_left
  · simp only [go_sem, reduceCtorEq, reduceIte, Nat.reduceEqDiff, q0, q3, q4, hil, hn]
    exact endK_same ⟨rfl, rfl, n, rfl, n0, n1, fun h => by omega⟩
  have hi0 : (0 : Int) ≤ i := by omega
  have hi1 : i < l.length := by omega
  have ei : IntKind.i64.wrap ((i : Int) + 1) = i + 1 := w64 (by omega) (by omega)
  obtain ⟨b, o, cs, rfl, hbk, rows⟩ := h.rows (by omega)
  obtain ⟨d1, d2⟩ := rows i hi1
  obtain ⟨_, d2⟩ := Go.Ax.Bl.row d2
  clear rows
  have hx := hb _ (List.getElem_mem hi1)
  have t1 := List.take_succ_eq_append_getElem hi1
  rw [show (i + 1) = (i + 1) from rfl] at t1
  generalize l[i] = x at *
  have en : IntKind.i64.wrap (n + (x.l.length : Int)) = n + x.l.length := w64 (by omega) (by omega)
  simp only [go_sem, reduceCtorEq, reduceIte, Nat.reduceEqDiff, q0, q3, q4, hil, hn, hi0, Int.toNat_natCast, hbk, d2, ei, en]
  refine ⟨hi1, rfl, rfl, (by simp only [go_sem, *] <;> rfl), n + x.l.length, (by simp only [go_sem, Nat.reduceEqDiff, *] <;> rfl), by omega, by omega, fun h => ⟨(hP (by omega)).1, fun y hy => ?_⟩⟩
  rw [t1] at hy
  rcases List.mem_append.1 hy with hy | hy
  · exact (hP (by omega)).2 y hy
  · rw [List.mem_singleton.1 hy]; omega
theorem k19 (s : Ste) (h : s.rd F M) (hl : s.blocks.length ≤ 140737488351232 ∧ s.next.length ≤ 140737488351232) (hb : ∀ b ∈ s.blocks, b.l.length ≤ 140737488351232) :
    CallsA Tryz.prog 19 [s.val] F M (wtR s.few F M) := by
  refine callsA_of hm Tryz.func19 e19 (Nat.le_of_ble_eq_true rfl) ?_
  simp only [c19, go_sem]
  intro r1 hF1 hM1
  simp only [go_sem, Nat.reduceEqDiff]
  refine callK_of (k47 F _ _ _ s.blocks (h.new hF1 hM1).blocks hl.1 hb) ?_
  rintro u F' M' ⟨rfl, rfl, n, rfl, n0, n1, hP⟩
  refine ⟨fun _ => Le.refl _ _, ?_⟩
  have en : IntKind.i64.wrap (n + (s.next.length : Int)) = n + s.next.length := w64 (by omega) (by omega)
  simp only [go_sem, reduceIte, Nat.reduceEqDiff, en]
  exact endK_drop hM1 (endK_same ⟨rfl, rfl, _, rfl, by omega, by omega, fun h => ⟨(hP (by omega)).1, by omega, (hP (by omega)).2⟩⟩)
theorem k20 (e : En) (h : e.rd F M) (hl : e.cells.length ≤ 140737488351232 ∧ e.news.length ≤ 140737488351232) (hb : ∀ c ∈ e.cells, c.l.length ≤ 140737488351232) :
    CallsA Tryz.prog 20 [e.val] F M (wtR e.few F M) := by
  refine callsA_of hm Tryz.func20 e20 (Nat.le_of_ble_eq_true rfl) ?_
  have e0 : IntKind.i64.wrap ((e.cells.length : Int) + e.news.length) = e.cells.length + e.news.length := w64 (by omega) (by omega)
  simp only [c20, go_sem]
  intro r1 hF1 hM1
  have h1 : e.rd F (M.upd r1 ⟨e.cs, 38, 3⟩) := h.new hF1 hM1
  have f1 : (M.upd r1 ⟨e.cs, 38, 3⟩) r1 = some ⟨e.cs, 38, 3⟩ := Hp.upd_same _ _ _
  have kp1 : Keep M (M.upd r1 ⟨e.cs, 38, 3⟩) := (by repeat' first | exact Keep.refl _ | (refine Keep.new ?_ (by simp only [*])))
  generalize M.upd r1 ⟨e.cs, 38, 3⟩ = M1 at *
  have b1 := blk_M (F := F) f1
  simp only [go_sem, reduceIte, Nat.reduceEqDiff, b1, e0]
  refine loop_up e.cells.length (wtI 4 3 (fun i => e.cells.length ≤ 2500 ∧ e.news.length ≤ 2500 ∧ ∀ c ∈ e.cells.take i, c.l.length ≤ 2500) F M1) ⟨rfl, rfl, (by simp only [go_sem, *] <;> rfl), _, (by simp only [go_sem, Nat.reduceEqDiff, *] <;> rfl), by omega, by omega, fun h => ⟨by omega, by omega, fun b hb => by simp at hb⟩⟩ ?_
  rintro i σ F' M' hi hst ⟨rfl, rfl, q4, n, q3, n0, n1, hP⟩
  have q1 := hst 1 rfl
  simp only [go_sem, Nat.reduceEqDiff] at q1
  clear hst
  have hP : n ≤ 2500 → e.cells.length ≤ 2500 ∧ e.news.length ≤ 2500 ∧ ∀ c ∈ e.cells.take i, c.l.length ≤ 2500 := hP
  by_cases hil : (i : Int) < e.cells.length
  rotate_left
  · rw [List.take_of_length_le (by omega)] at hP
    simp only [go_sem, reduceCtorEq, reduceIte, Nat.reduceEqDiff, q1, q3, q4, b1, hil]
    exact endK_keep kp1 ⟨rfl, rfl, n, rfl, n0, n1, hP⟩
  by_cases hn : n < 1048576
  rotate_left
  · simp only [go_sem, reduceIte, Nat.reduceEqDiff, q1, q3, q4, b1, hil, hn]
    exact endK_keep kp1 ⟨rfl, rfl, n, rfl, n0, n1, fun h => by omega⟩
  have hi0 : (0 : Int) ≤ i := by omega
  have hi1 : i < e.cells.length := by omega
  have ei : IntKind.i64.wrap ((i : Int) + 1) = i + 1 := w64 (by omega) (by omega)
  obtain ⟨b, o, cs, ea, hbk, rows⟩ := h1.cells.rows (by omega)
  obtain ⟨d1, d2⟩ := rows i hi1
  obtain ⟨_, _, _, _, _, _, _, _, _, d2⟩ := Go.Ax.Cl.row d2
  have d2' : cs[o + i * 10 + 3 + 6]? = some (.slice (e.cells[i]).lA (e.cells[i]).l.length (e.cells[i]).lC) := d2
  clear rows
  have hx := hb _ (List.getElem_mem hi1)
  have t1 := List.take_succ_eq_append_getElem hi1
  generalize e.cells[i] = x at *
  have en : IntKind.i64.wrap (n + (x.l.length : Int)) = n + x.l.length := w64 (by omega) (by omega)
  simp only [go_sem, reduceIte, Nat.reduceEqDiff, q1, q3, q4, b1, hil, hn, hi0, ea, Int.toNat_natCast, hbk, d2', ei, en]
  refine ⟨hi1, rfl, rfl, (by simp only [go_sem, *] <;> rfl), n + x.l.length, (by simp only [go_sem, Nat.reduceEqDiff, *] <;> rfl), by omega, by omega, fun h => ⟨(hP (by omega)).1, (hP (by omega)).2.1, fun y hy => ?_⟩⟩
  rw [t1] at hy
  rcases List.mem_append.1 hy with hy | hy
  · exact (hP (by omega)).2.2 y hy
  · rw [List.mem_singleton.1 hy]; omega
theorem k18 (p : Pg) (h : p.inB F) (hold : Old F M) :
    CallsA Tryz.prog 18 [p.val] F M (wtR p.few F M) := by
  refine callsA_of hm Tryz.func18 e18 (Nat.le_of_ble_eq_true rfl) ?_
  obtain ⟨m1, m2, m3, m4, m5, m6⟩ := h.many
  have e1 : IntKind.i64.wrap ((p.vars.length : Int) + p.news.length) = p.vars.length + p.news.length := w64 (by omega) (by omega)
  have e2 : IntKind.i64.wrap ((p.vars.length : Int) + p.news.length + p.exprs.length) = p.vars.length + p.news.length + p.exprs.length := w64 (by omega) (by omega)
  have e3 : IntKind.i64.wrap ((p.vars.length : Int) + p.news.length + p.exprs.length + p.stmts.length) = p.vars.length + p.news.length + p.exprs.length + p.stmts.length := w64 (by omega) (by omega)
  have e4 : IntKind.i64.wrap ((p.vars.length : Int) + p.news.length + p.exprs.length + p.stmts.length + p.main.length) = p.vars.length + p.news.length + p.exprs.length + p.stmts.length + p.main.length := w64 (by omega) (by omega)
  simp only [c18, go_sem]
  intro r1 hF1 hM1
  have f1 : (M.upd r1 ⟨p.cs, 28, 7⟩) r1 = some ⟨p.cs, 28, 7⟩ := Hp.upd_same _ _ _
  have kp1 : Keep M (M.upd r1 ⟨p.cs, 28, 7⟩) := (by repeat' first | exact Keep.refl _ | (refine Keep.new ?_ (by simp only [*])))
  have old1 : Old F (M.upd r1 ⟨p.cs, 28, 7⟩) := (by repeat' first | assumption | (refine Old.upd ?_ (by assumption)))
  generalize M.upd r1 ⟨p.cs, 28, 7⟩ = M1 at *
  have b1 := blk_M (F := F) f1
  simp only [go_sem, reduceIte, Nat.reduceEqDiff, b1, e1, e2, e3, e4]
  refine loop_up p.stmts.length (wtI 4 3 (fun i => p.vars.length ≤ 2500 ∧ p.news.length ≤ 2500 ∧ p.exprs.length ≤ 2500 ∧ p.stmts.length ≤ 2500 ∧ p.main.length ≤ 2500 ∧ ∀ s ∈ p.stmts.take i, s.body.length ≤ 2500 ∧ s.els.length ≤ 2500) F M1) ⟨rfl, rfl, (by simp only [go_sem, *] <;> rfl), _, (by simp only [go_sem, Nat.reduceEqDiff, *] <;> rfl), by omega, by omega, fun h => ⟨by omega, by omega, by omega, by omega, by omega, fun b hb => by simp at hb⟩⟩ ?_
  rintro i σ F' M' hi hst ⟨rfl, rfl, q4, n, q3, n0, n1, hP⟩
  have q1 := hst 1 rfl
  simp only [go_sem, Nat.reduceEqDiff] at q1
  clear hst e1 e2 e3 e4
  have hP : n ≤ 2500 → p.vars.length ≤ 2500 ∧ p.news.length ≤ 2500 ∧ p.exprs.length ≤ 2500 ∧ p.stmts.length ≤ 2500 ∧ p.main.length ≤ 2500 ∧ ∀ s ∈ p.stmts.take i, s.body.length ≤ 2500 ∧ s.els.length ≤ 2500 := hP
  by_cases hil : (i : Int) < p.stmts.length
  rotate_left
  · rw [List.take_of_length_le (by omega)] at hP
    simp only [go_sem, reduceCtorEq, reduceIte, Nat.reduceEqDiff, q1, q3, q4, b1, hil]
    exact endK_keep kp1 ⟨rfl, rfl, n, rfl, n0, n1, hP⟩
  by_cases hn : n < 1048576
  rotate_left
  · simp only [go_sem, reduceIte, Nat.reduceEqDiff, q1, q3, q4, b1, hil, hn]
    exact endK_keep kp1 ⟨rfl, rfl, n, rfl, n0, n1, fun h => by omega⟩
  have hi0 : (0 : Int) ≤ i := by omega
  have hi1 : i < p.stmts.length := by omega
  have ei : IntKind.i64.wrap ((i : Int) + 1) = i + 1 := w64 (by omega) (by omega)
  obtain ⟨b, o, cs, ea, hbk, rows⟩ := (h.stmts F M1 (Ext.old old1)).rows (by omega)
  obtain ⟨d1, d2⟩ := rows i hi1
  obtain ⟨_, _, _, _, _, d2, d3⟩ := Go.Ax.Sm.row d2
  clear rows
  have hx := m6 _ (List.getElem_mem hi1)
  have t1 := List.take_succ_eq_append_getElem hi1
  generalize p.stmts[i] = x at *
  have en : IntKind.i64.wrap (n + (x.body.length : Int)) = n + x.body.length := w64 (by omega) (by omega)
  have en2 : IntKind.i64.wrap (n + (x.body.length : Int) + x.els.length) = n + x.body.length + x.els.length := w64 (by omega) (by omega)
  simp only [go_sem, reduceIte, Nat.reduceEqDiff, q1, q3, q4, b1, hil, hn, hi0, ea, Int.toNat_natCast, hbk, d2, d3, ei, en, en2]
  refine ⟨hi1, rfl, rfl, (by simp only [go_sem, *] <;> rfl), n + x.body.length + x.els.length, (by simp only [go_sem, Nat.reduceEqDiff, *] <;> rfl), by omega, by omega, fun h => ?_⟩
  obtain ⟨p1, p2, p3, p4, p5, p6⟩ := hP (by omega)
  refine ⟨p1, p2, p3, p4, p5, fun y hy => ?_⟩
  rw [t1] at hy
  rcases List.mem_append.1 hy with hy | hy
  · exact p6 y hy
  · rw [List.mem_singleton.1 hy]; omega
def hvI (v : Nat) (r : Nat) (P : Nat → Prop) (F0 : Fz) (M0 : Hp) (i : Nat) (σ : Env) (F : Fz) (M : Hp) : Prop :=
  F0 = F ∧ M0 = M ∧ Ax.look σ 1 = some (.pointer (some ⟨r, 0, none⟩)) ∧ Ax.look σ v = some (.int .i64 i) ∧ ∃ n : Int, Ax.look σ 3 = some (.int .i64 n) ∧ 0 ≤ n ∧ n ≤ 2251799813685248 ∧ (n ≤ 2500 → P i)
def hvE (r : Nat) (P : Prop) (F0 : Fz) (M0 : Hp) (σ : Env) (F : Fz) (M : Hp) : Prop :=
  F0 = F ∧ M0 = M ∧ Ax.look σ 1 = some (.pointer (some ⟨r, 0, none⟩)) ∧ ∃ n : Int, Ax.look σ 3 = some (.int .i64 n) ∧ 0 ≤ n ∧ n ≤ 2251799813685248 ∧ (n ≤ 2500 → P)
def heavy16R (q : Ask16) (F : Fz) (M : Hp) (u : Value) (F' : Fz) (M' : Hp) : Prop :=
  F' = F ∧ M' = M ∧ ∃ b : Bool, u = .bool b ∧ (b = false → q.few)
theorem k5 (q : Ask16) (h : q.inB F) (hold : Old F M) :
    CallsA Tryz.prog 5 [q.val] F M (heavy16R q F M) := by
  refine callsA_of hm Tryz.func5 e5 (Nat.le_of_ble_eq_true rfl) ?_
  obtain ⟨m1, m2, m3⟩ := h.many
  simp only [c5, go_sem]
  intro r1 hF1 hM1
  have f1 : (M.upd r1 ⟨q.cs, 33, 10⟩) r1 = some ⟨q.cs, 33, 10⟩ := Hp.upd_same _ _ _
  have kp1 : Keep M (M.upd r1 ⟨q.cs, 33, 10⟩) := (by repeat' first | exact Keep.refl _ | (refine Keep.new ?_ (by simp only [*])))
  have old1 : Old F (M.upd r1 ⟨q.cs, 33, 10⟩) := (by repeat' first | assumption | (refine Old.upd ?_ (by assumption)))
  generalize M.upd r1 ⟨q.cs, 33, 10⟩ = M1 at *
  have b1 := blk_M (F := F) f1
  simp only [go_sem, reduceIte, Nat.reduceEqDiff, Nat.reduceLeDiff, b1]
  refine callK_of (k18 F M1 q.p h.p old1) ?_
  rintro u F' M' ⟨rfl, rfl, n, rfl, n0, n1, hP⟩
  refine ⟨(fun h => by cases h), ?_⟩
  simp only [go_sem]
  refine inBlock_st (hvE r1 ((q.p.few) ∧ ∀ s ∈ q.s, s.few) F' M') ?_ ?_
  · refine loop_up q.s.length (hvI 4 r1 (fun i => (q.p.few) ∧ ∀ s ∈ q.s.take i, s.few) F' M') ⟨rfl, rfl, (by simp only [go_sem, Nat.reduceEqDiff, *] <;> rfl), (by simp only [go_sem, *] <;> rfl), n, (by simp only [go_sem, Nat.reduceEqDiff, *] <;> rfl), n0, by omega, fun h => ⟨hP h, fun s hs => by simp at hs⟩⟩ ?_
    clear hP
    rintro i σ F M hi hst ⟨rfl, rfl, q1, q4, n, q3, n0, n1, hP⟩
    clear hst
    have hP : n ≤ 2500 → (q.p.few) ∧ ∀ s ∈ q.s.take i, s.few := hP
    by_cases hil : (i : Int) < q.s.length
    rotate_left
    · rw [List.take_of_length_le (by omega)] at hP
      simp only [go_sem, reduceCtorEq, reduceIte, Nat.reduceEqDiff, q1, q4, b1, hil]
      exact At.mk ⟨rfl, rfl, q1, n, q3, n0, n1, hP⟩
    by_cases hn : n < 1048576
    rotate_left
    · simp only [go_sem, reduceIte, Nat.reduceEqDiff, q1, q3, q4, b1, hil, hn]
      exact At.mk ⟨rfl, rfl, q1, n, q3, n0, n1, fun h => by omega⟩
    have hi0 : (0 : Int) ≤ i := by omega
    have hi1 : i < q.s.length := by omega
    have ei : IntKind.i64.wrap ((i : Int) + 1) = i + 1 := w64 (by omega) (by omega)
    obtain ⟨b, o, cs, ea, hbk, rows⟩ := (h.s F' M' (Ext.old old1)).rows (by omega)
    obtain ⟨d1, d2⟩ := rows i hi1
    clear rows
    have hx := h.ss _ (List.getElem_mem hi1)
    have t1 := List.take_succ_eq_append_getElem hi1
    generalize q.s[i] = x at *
    simp only [go_sem, reduceIte, Nat.reduceEqDiff, q1, q3, q4, b1, hil, hn, hi0, ea, Int.toNat_natCast, hbk, d1, d2]
    refine callK_of (k19 F' M' x (hx.rd F' M' (Ext.old old1)) hx.many hx.bytes) ?_
    rintro u F M ⟨rfl, rfl, w, rfl, w0, w1, hw⟩
    refine ⟨(fun h => by cases h), ?_⟩
    have en : IntKind.i64.wrap (n + w) = n + w := w64 (by omega) (by omega)
    simp only [go_sem, reduceIte, Nat.reduceEqDiff, q4, ei, en]
    refine ⟨hi1, rfl, rfl, q1, (by simp only [go_sem, *] <;> rfl), n + w, (by simp only [go_sem, Nat.reduceEqDiff, *] <;> rfl), by omega, by omega, fun h => ⟨(hP (by omega)).1, fun y hy => ?_⟩⟩
    rw [t1] at hy
    rcases List.mem_append.1 hy with hy | hy
    · exact (hP (by omega)).2 y hy
    · rw [List.mem_singleton.1 hy]; exact hw (by omega)
  clear hP n0 n1
  rintro σ1 F M _ ⟨rfl, rfl, q1, n, q3, n0, n1, hP⟩
  simp only [go_sem]
  refine inBlock_st (hvE r1 (((q.p.few) ∧ ∀ s ∈ q.s, s.few) ∧ ∀ s ∈ q.e, s.few) F' M') ?_ ?_
  · refine loop_up q.e.length (hvI 5 r1 (fun i => ((q.p.few) ∧ ∀ s ∈ q.s, s.few) ∧ ∀ s ∈ q.e.take i, s.few) F' M') ⟨rfl, rfl, (by simp only [go_sem, Nat.reduceEqDiff, *] <;> rfl), (by simp only [go_sem, *] <;> rfl), n, (by simp only [go_sem, Nat.reduceEqDiff, *] <;> rfl), n0, by omega, fun h => ⟨hP h, fun s hs => by simp at hs⟩⟩ ?_
    clear hP
    rintro i σ F M hi hst ⟨rfl, rfl, q1, q4, n, q3, n0, n1, hP⟩
    clear hst
    have hP : n ≤ 2500 → ((q.p.few) ∧ ∀ s ∈ q.s, s.few) ∧ ∀ s ∈ q.e.take i, s.few := hP
    by_cases hil : (i : Int) < q.e.length
    rotate_left
    · rw [List.take_of_length_le (by omega)] at hP
      simp only [go_sem, reduceCtorEq, reduceIte, Nat.reduceEqDiff, q1, q4, b1, hil]
      exact At.mk ⟨rfl, rfl, q1, n, q3, n0, n1, hP⟩
    by_cases hn : n < 1048576
    rotate_left
    · simp only [go_sem, reduceIte, Nat.reduceEqDiff, q1, q3, q4, b1, hil, hn]
      exact At.mk ⟨rfl, rfl, q1, n, q3, n0, n1, fun h => by omega⟩
    have hi0 : (0 : Int) ≤ i := by omega
    have hi1 : i < q.e.length := by omega
    have ei : IntKind.i64.wrap ((i : Int) + 1) = i + 1 := w64 (by omega) (by omega)
    obtain ⟨b, o, cs, ea, hbk, rows⟩ := (h.e F' M' (Ext.old old1)).rows (by omega)
    obtain ⟨d1, d2⟩ := rows i hi1
    clear rows
    have hx := h.es _ (List.getElem_mem hi1)
    have t1 := List.take_succ_eq_append_getElem hi1
    generalize q.e[i] = x at *
    simp only [go_sem, reduceIte, Nat.reduceEqDiff, q1, q3, q4, b1, hil, hn, hi0, ea, Int.toNat_natCast, hbk, d1, d2]
    refine callK_of (k20 F' M' x (hx.rd F' M' (Ext.old old1)) hx.many hx.ptrs) ?_
    rintro u F M ⟨rfl, rfl, w, rfl, w0, w1, hw⟩
    refine ⟨(fun h => by cases h), ?_⟩
    have en : IntKind.i64.wrap (n + w) = n + w := w64 (by omega) (by omega)
    simp only [go_sem, reduceIte, Nat.reduceEqDiff, q4, ei, en]
    refine ⟨hi1, rfl, rfl, q1, (by simp only [go_sem, *] <;> rfl), n + w, (by simp only [go_sem, Nat.reduceEqDiff, *] <;> rfl), by omega, by omega, fun h => ⟨(hP (by omega)).1, fun y hy => ?_⟩⟩
    rw [t1] at hy
    rcases List.mem_append.1 hy with hy | hy
    · exact (hP (by omega)).2 y hy
    · rw [List.mem_singleton.1 hy]; exact hw (by omega)
  clear hP n0 n1
  rintro σ2 F M _ ⟨rfl, rfl, q1, n, q3, n0, n1, hP⟩
  simp only [go_sem]
  refine inBlock_st (hvE r1 ((((q.p.few) ∧ ∀ s ∈ q.s, s.few) ∧ ∀ s ∈ q.e, s.few) ∧ ∀ s ∈ q.x, s.n ≤ 2500) F' M') ?_ ?_
  · refine loop_up q.x.length (hvI 6 r1 (fun i => (((q.p.few) ∧ ∀ s ∈ q.s, s.few) ∧ ∀ s ∈ q.e, s.few) ∧ ∀ s ∈ q.x.take i, s.n ≤ 2500) F' M') ⟨rfl, rfl, (by simp only [go_sem, Nat.reduceEqDiff, *] <;> rfl), (by simp only [go_sem, *] <;> rfl), n, (by simp only [go_sem, Nat.reduceEqDiff, *] <;> rfl), n0, by omega, fun h => ⟨hP h, fun s hs => by simp at hs⟩⟩ ?_
    clear hP
    rintro i σ F M hi hst ⟨rfl, rfl, q1, q4, n, q3, n0, n1, hP⟩
    clear hst
    have hP : n ≤ 2500 → (((q.p.few) ∧ ∀ s ∈ q.s, s.few) ∧ ∀ s ∈ q.e, s.few) ∧ ∀ s ∈ q.x.take i, s.n ≤ 2500 := hP
    by_cases hil : (i : Int) < q.x.length
    rotate_left
    · rw [List.take_of_length_le (by omega)] at hP
      simp only [go_sem, reduceCtorEq, reduceIte, Nat.reduceEqDiff, q1, q4, b1, hil]
      exact At.mk ⟨rfl, rfl, q1, n, q3, n0, n1, hP⟩
    by_cases hn : n < 1048576
    rotate_left
    · simp only [go_sem, reduceIte, Nat.reduceEqDiff, q1, q3, q4, b1, hil, hn]
      exact At.mk ⟨rfl, rfl, q1, n, q3, n0, n1, fun h => by omega⟩
    have hi0 : (0 : Int) ≤ i := by omega
    have hi1 : i < q.x.length := by omega
    have ei : IntKind.i64.wrap ((i : Int) + 1) = i + 1 := w64 (by omega) (by omega)
    obtain ⟨b, o, cs, ea, hbk, rows⟩ := (h.x F' M' (Ext.old old1)).rows (by omega)
    obtain ⟨d1, d2⟩ := rows i hi1
    clear rows
    have hx := h.xs _ (List.getElem_mem hi1)
    have t1 := List.take_succ_eq_append_getElem hi1
    generalize q.x[i] = x at *
    have hxn : x.n ≤ 140737488351232 := by obtain ⟨l, h1, h2, _⟩ := hx; omega
    have d2 : (cs.drop (o + i * 7)).take 7 = abCs x.v (.slice x.a x.n x.c) := d2
    simp only [go_sem, reduceIte, Nat.reduceEqDiff, q1, q3, q4, b1, hil, hn, hi0, ea, Int.toNat_natCast, hbk, d1, d2]
    refine callK_same (k21 F' M' x.v x.a x.n x.c hxn) ?_
    obtain ⟨w, hwe, w0, w1, hw⟩ : ∃ w : Int, 1 + (x.n : Int) = w ∧ 0 ≤ w ∧ w ≤ 1125899906842624 ∧ (w ≤ 2500 → x.n ≤ 2500) := ⟨_, rfl, by omega, by omega, by omega⟩
    rw [hwe]
    have en : IntKind.i64.wrap (n + w) = n + w := w64 (by omega) (by omega)
    simp only [go_sem, reduceIte, Nat.reduceEqDiff, q4, ei, en]
    refine ⟨hi1, rfl, rfl, q1, (by simp only [go_sem, *] <;> rfl), n + w, (by simp only [go_sem, Nat.reduceEqDiff, *] <;> rfl), by omega, by omega, fun h => ⟨(hP (by omega)).1, fun y hy => ?_⟩⟩
    rw [t1] at hy
    rcases List.mem_append.1 hy with hy | hy
    · exact (hP (by omega)).2 y hy
    · rw [List.mem_singleton.1 hy]; exact hw (by omega)
  clear hP n0 n1
  rintro σ3 F M _ ⟨rfl, rfl, q1, n, q3, n0, n1, hP⟩
  simp only [go_sem, reduceIte, q3]
  refine endK_keep kp1 ⟨rfl, rfl, _, rfl, fun h => ?_⟩
  obtain ⟨⟨⟨h1, h2⟩, h3⟩, h4⟩ := hP (by simpa using h)
  exact ⟨h1, h2, h3, h4⟩
end Go.Proofs.Tryz.K
namespace Go.Ax
open Go
set_option linter.unusedVariables false
set_option linter.unusedSimpArgs false
theorem Keep.le {F : Fz} {M M' : Hp} (kp : Keep M M') (o : Old F M') : Le F M F M' := ⟨fun _ _ h => h, fun b e h => ⟨e, kp b e h, List.prefix_refl _⟩, fun b h _ => o b h⟩
def singleV (b p : Int) (x : By) : Pc := if x.st = 1 then ⟨b, p, 1, V.just 8 x.n, []⟩ else if x.st = 2 then ⟨b, p, 11, V.just 8 x.i, [⟨x.b, V.just 8 x.o⟩]⟩ else ⟨b, p, 0, V.zero, []⟩
def ptrC (b p : Int) (s : Sc) : Pc := ⟨b, p, 7, V.zero, [⟨s.b, V.just 8 s.o⟩]⟩
def wholeV (big : Bool) (ptr : Nat) (l : List By) (at_ : Nat) : Sc × Bool :=
  if at_ % ptr = 0 ∧ at_ + ptr ≤ l.length then ((readV big 7 ((l.drop at_).take ptr)).1, decide ((readV big 7 ((l.drop at_).take ptr)).2 = 0) && decide (0 < (readV big 7 ((l.drop at_).take ptr)).1.b)) else (⟨false, 0, 0, 0⟩, false)
def stepV (big : Bool) (ptr : Nat) (b : Int) (l : List By) (at_ : Nat) : Pc × Nat :=
  if (wholeV big ptr l at_).2 = true then (ptrC b at_ (wholeV big ptr l at_).1, at_ + ptr) else (singleV b at_ (byAt l at_), at_ + 1)
def cellsAt (big : Bool) (ptr : Nat) (b : Int) (l : List By) : Nat → Nat → List Pc
  | 0, _ => []
  | k + 1, at_ => if at_ < l.length then (stepV big ptr b l at_).1 :: cellsAt big ptr b l k (stepV big ptr b l at_).2 else []
def justL (big : Bool) (ptr : Nat) (m : List Bl) : Nat → List Pc
  | 0 => []
  | i + 1 => justL big ptr m i ++ cellsAt big ptr i (blAt m i).l ((blAt m i).l.length) 0
def justV (p : Pg) (m : List Bl) : Pe := ⟨false, justL p.big p.ptr.toNat m m.length, (m.drop (1 + p.vars.length)).map fun x => shlv .i64 1 x.st⟩
theorem cellsAt_more (big : Bool) (ptr : Nat) (b : Int) (l : List By) (hp : 0 < ptr) : ∀ (k at_ : Nat), l.length ≤ at_ + k → cellsAt big ptr b l k at_ = cellsAt big ptr b l (k + 1) at_
  | 0, at_, h => by
    have : ¬ at_ < l.length := by omega
    simp [cellsAt, this]
  | k + 1, at_, h => by
    have hs : at_ + 1 ≤ (stepV big ptr b l at_).2 := by unfold stepV; split <;> omega
    rw [cellsAt]
    conv => rhs; rw [cellsAt]
    split
    · rw [cellsAt_more big ptr b l hp k _ (by omega)]
    · rfl
theorem cellsAt_fuel {big : Bool} {ptr : Nat} {b : Int} {l : List By} (hp : 0 < ptr) {k at_ : Nat} (h : l.length ≤ at_ + k) (n : Nat) : cellsAt big ptr b l (k + n) at_ = cellsAt big ptr b l k at_ := by
  induction n with
  | zero => rfl
  | succ n ih => rw [← Nat.add_assoc, ← cellsAt_more big ptr b l hp (k + n) at_ (by omega), ih]
theorem cellsAt_step {big : Bool} {ptr : Nat} {b : Int} {l : List By} (hp : 0 < ptr) {at_ : Nat} (h : at_ < l.length) :
    cellsAt big ptr b l (l.length - at_) at_ = (stepV big ptr b l at_).1 :: cellsAt big ptr b l (l.length - (stepV big ptr b l at_).2) (stepV big ptr b l at_).2 := by
  have hs : at_ + 1 ≤ (stepV big ptr b l at_).2 := by unfold stepV; split <;> omega
  obtain ⟨k, hk⟩ : ∃ k, l.length - at_ = k + 1 := ⟨l.length - at_ - 1, by omega⟩
  rw [hk, cellsAt, if_pos h]
  congr 1
  have : k = (l.length - (stepV big ptr b l at_).2) + (k - (l.length - (stepV big ptr b l at_).2)) := by omega
  rw [this]
  exact cellsAt_fuel hp (by omega) _
end Go.Ax
namespace Go.Proofs.Tryz.K
open Go Go.Ax Go.Proofs.Tryz.S
set_option maxRecDepth 100000
set_option linter.unusedSimpArgs false
set_option linter.unusedVariables false
set_option maxHeartbeats 4000000
variable (F : Fz) (M : Hp)
theorem k68 (big : Bool) (ptr : Nat) (a : Option Addr) (c : Nat) (l : List By) (at_ : Nat) (hp : ptr = 2 ∨ ptr = 4) (hold : Old F M) (h : RdG 5 By.cs F M (.slice a l.length c) l) (hl : l.length ≤ 100000) (hat : at_ ≤ 100000) :
    CallsA Tryz.prog 68 [.agg #[.bool big, .int .i64 ptr], .slice a l.length c, .int .i64 at_] F M (Same F M (.tuple #[(wholeV big ptr l at_).1.val, .bool (wholeV big ptr l at_).2])) := by
  refine callsA_of hm Tryz.func68 e68 (Nat.le_of_ble_eq_true rfl) ?_
  simp only [c68, go_sem, Nat.reduceAdd]
  intro r3 hF3 hM3
  simp only [go_sem, Nat.reduceAdd]
  intro r6 hF6 hM6
  simp only [upd_none2] at hM6
  have kp6 : Keep M ((M.upd r3 ⟨[.bool big, .int .i64 ptr], 23, 2⟩).upd r6 ⟨[.bool false, .int .i64 0, .int .i64 0, .int .i64 0], 119, 4⟩) := (by repeat' first | exact Keep.refl _ | (refine Keep.new ?_ (by simp only [*])))
  have old6 : Old F ((M.upd r3 ⟨[.bool big, .int .i64 ptr], 23, 2⟩).upd r6 ⟨[.bool false, .int .i64 0, .int .i64 0, .int .i64 0], 119, 4⟩) := (by repeat' first | assumption | (refine Old.upd ?_ (by assumption)))
  have f3 : ((M.upd r3 ⟨[.bool big, .int .i64 ptr], 23, 2⟩).upd r6 ⟨[.bool false, .int .i64 0, .int .i64 0, .int .i64 0], 119, 4⟩) r3 = some ⟨[.bool big, .int .i64 ptr], 23, 2⟩ := by rw [Hp.upd_ne' hM6.1.2]; exact Hp.upd_same _ _ _
  have f6 : ((M.upd r3 ⟨[.bool big, .int .i64 ptr], 23, 2⟩).upd r6 ⟨[.bool false, .int .i64 0, .int .i64 0, .int .i64 0], 119, 4⟩) r6 = some ⟨[.bool false, .int .i64 0, .int .i64 0, .int .i64 0], 119, 4⟩ := Hp.upd_same _ _ _
  have n6 : M r6 = none := hM6.2
  generalize (M.upd r3 ⟨[.bool big, .int .i64 ptr], 23, 2⟩).upd r6 ⟨[.bool false, .int .i64 0, .int .i64 0, .int .i64 0], 119, 4⟩ = M1 at *
  have h1 := h.keep kp6 old6
  have b3 := blk_M (F := F) f3
  have b6 := blk_M (F := F) f6
  clear hF3 hM3 hF6 hM6 h
  have fin : ∀ s v, wholeV big ptr l at_ = (s, v) → ∀ M3, Keep M1 M3 → ∀ x, endK F (M3.upd r6 x) (Same F M (.tuple #[(wholeV big ptr l at_).1.val, .bool (wholeV big ptr l at_).2])) (.tuple #[s.val, .bool v]) := fun s v e M3 kp x => endK_keep ((kp6.trans kp).new n6) ⟨by rw [e], rfl, rfl⟩
  have hp0 : ¬ (ptr : Int) = 0 := by omega
  have em : (at_ : Int).tmod ptr = ((at_ % ptr : Nat) : Int) := by rw [Int.tmod_eq_emod_of_nonneg (by omega)]; rfl
  have ew : IntKind.i64.wrap ((at_ : Int) + ptr) = ((at_ + ptr : Nat) : Int) := by rw [w64 (by omega) (by omega)]; omega
  by_cases hm0 : at_ % ptr = 0
  rotate_left
  · have hm0' : ¬ ((at_ % ptr : Nat) : Int) = 0 := by omega
    have hv : wholeV big ptr l at_ = (⟨false, 0, 0, 0⟩, false) := by unfold wholeV; rw [if_neg (fun h => hm0 h.1)]
    simp only [setH, go_sem, reduceCtorEq, reduceIte, Nat.reduceEqDiff, Nat.reduceAdd, b3, hp0, em, hm0', f6]
    exact fin _ _ hv M1 (Keep.refl _) _
  have hm0' : ((at_ % ptr : Nat) : Int) = 0 := by omega
  by_cases hle : at_ + ptr ≤ l.length
  rotate_left
  · have hle' : (l.length : Int) < ((at_ + ptr : Nat) : Int) := by omega
    have hv : wholeV big ptr l at_ = (⟨false, 0, 0, 0⟩, false) := by unfold wholeV; rw [if_neg (fun h => hle h.2)]
    simp only [setH, go_sem, reduceCtorEq, reduceIte, Nat.reduceEqDiff, Nat.reduceAdd, b3, hp0, em, hm0', ew, hle', f6]
    exact fin _ _ hv M1 (Keep.refl _) _
  have hle' : ¬ (l.length : Int) < ((at_ + ptr : Nat) : Int) := by omega
  have hv : wholeV big ptr l at_ = ((readV big 7 ((l.drop at_).take ptr)).1, decide ((readV big 7 ((l.drop at_).take ptr)).2 = 0) && decide (0 < (readV big 7 ((l.drop at_).take ptr)).1.b)) := by unfold wholeV; rw [if_pos ⟨hm0, hle⟩]
  have hcl := cut_len (l := l) (lo := at_) (n := ptr) hle
  have hcut := RdG.cut h1 (lo := at_) (n := ptr) hle
  have e1 : (0 : Int) ≤ ((at_ + ptr : Nat) : Int) := by omega
  have e0 : (0 : Int) ≤ (at_ : Int) := by omega
  have e2 : (at_ : Int) ≤ ((at_ + ptr : Nat) : Int) := by omega
  have e3 : ((at_ + ptr : Nat) : Int) ≤ l.length := by omega
  have e4 : l.length ≤ c := by
    obtain ⟨_, ad, cap, hc, e, _⟩ := h1
    cases e; exact hc
  have e4' : (l.length : Int) ≤ c := by omega
  have e5 : at_ + ptr - at_ = ptr := by omega
  have kR := k108 F M1 big ptr 7 _ _ ((l.drop at_).take ptr) old6 hcut (by rw [hcl]; omega)
  rw [hcl] at kR
  simp only [go_sem, reduceCtorEq, reduceIte, Nat.reduceEqDiff, Nat.reduceAdd, b3, hp0, em, hm0', ew, hle', e0, e2, e3, e4, e5, Int.toNat_natCast]
  with_reducible refine callK_same kR ?_
  generalize readV big 7 ((l.drop at_).take ptr) = rv at *
  obtain ⟨s, bad⟩ := rv
  simp only [go_sem, Nat.reduceEqDiff, Nat.reduceAdd]
  intro r8 hF8 hM8
  have m6 := ne_of_none hM8 f6
  have kp8 : ∀ e, Keep M1 (M1.upd r8 e) := fun e => (Keep.refl M1).new hM8
  by_cases hbad : bad = 0
  rotate_left
  · simp only [setH, Hp.upd_upd, go_sem, reduceCtorEq, reduceIte, Nat.reduceEqDiff, Nat.reduceAdd, hbad, m6, f6]
    exact fin s false (hv.trans (by simp [hbad])) _ (kp8 _) _
  by_cases hb : 0 < s.b
  · simp only [setH, Hp.upd_upd, go_sem, reduceIte, Nat.reduceEqDiff, Nat.reduceAdd, hbad, hb, m6, f6]
    exact fin s true (hv.trans (by simp [hbad, hb])) _ (kp8 _) _
  · simp only [setH, Hp.upd_upd, go_sem, reduceIte, Nat.reduceEqDiff, Nat.reduceAdd, hbad, hb, m6, f6]
    exact fin s false (hv.trans (by simp [hbad, hb])) _ (kp8 _) _
theorem ab_set_num {v w : V} {u : Value} : v.cs ++ List.drop 6 (abCs w u) = abCs v u := rfl
theorem k70 (b p : Int) (x : By) (hold : Old F M) : CallsA Tryz.prog 70 [.int .i64 b, .int .i64 p, x.val] F M (cellNew (singleV b p x) F M) := by
  refine callsA_of hm Tryz.func70 e70 (Nat.le_of_ble_eq_true rfl) ?_
  simp only [c70, go_sem, reduceCtorEq, Nat.reduceEqDiff, Nat.reduceAdd]
  intro r5 hF5 hM5
  simp only [go_sem, Nat.reduceAdd]
  intro r6 hF6 hM6
  simp only [upd_none2] at hM6
  simp only [go_sem, reduceCtorEq, reduceIte, Nat.reduceEqDiff, Nat.reduceAdd, Nat.reduceLeDiff]
  intro r7 hF7 hM7
  simp only [upd_none2] at hM7
  simp only [setH, Hp.upd_upd, go_sem, reduceIte, Nat.reduceEqDiff, Nat.reduceAdd, hM6, hM7]
  have kp7 : Keep M (((M.upd r5 ⟨x.cs, 83, 5⟩).upd r6 ⟨[.int .i64 0, .int .i64 0, .int .i64 0, .int .i64 0, .bool false, .int .i64 0, .int .i64 0, .int .i64 0, .int .i64 0, .slice none 0 0], 87, 10⟩).upd r7 ⟨[.int .i64 b, .int .i64 p, .int .i64 0, .int .i64 0, .bool false, .int .i64 0, .int .i64 0, .int .i64 0, .int .i64 0, .slice none 0 0], 87, 10⟩) := (by repeat' first | exact Keep.refl _ | (refine Keep.new ?_ (by simp only [*])))
  have old7 : Old F (((M.upd r5 ⟨x.cs, 83, 5⟩).upd r6 ⟨[.int .i64 0, .int .i64 0, .int .i64 0, .int .i64 0, .bool false, .int .i64 0, .int .i64 0, .int .i64 0, .int .i64 0, .slice none 0 0], 87, 10⟩).upd r7 ⟨[.int .i64 b, .int .i64 p, .int .i64 0, .int .i64 0, .bool false, .int .i64 0, .int .i64 0, .int .i64 0, .int .i64 0, .slice none 0 0], 87, 10⟩) := (by repeat' first | assumption | (refine Old.upd ?_ (by assumption)))
  have f5 : (((M.upd r5 ⟨x.cs, 83, 5⟩).upd r6 ⟨[.int .i64 0, .int .i64 0, .int .i64 0, .int .i64 0, .bool false, .int .i64 0, .int .i64 0, .int .i64 0, .int .i64 0, .slice none 0 0], 87, 10⟩).upd r7 ⟨[.int .i64 b, .int .i64 p, .int .i64 0, .int .i64 0, .bool false, .int .i64 0, .int .i64 0, .int .i64 0, .int .i64 0, .slice none 0 0], 87, 10⟩) r5 = some ⟨x.cs, 83, 5⟩ := by rw [Hp.upd_ne' (by simp [hM7]), Hp.upd_ne' (by simp [hM6])]; exact Hp.upd_same _ _ _
  have f6 : (((M.upd r5 ⟨x.cs, 83, 5⟩).upd r6 ⟨[.int .i64 0, .int .i64 0, .int .i64 0, .int .i64 0, .bool false, .int .i64 0, .int .i64 0, .int .i64 0, .int .i64 0, .slice none 0 0], 87, 10⟩).upd r7 ⟨[.int .i64 b, .int .i64 p, .int .i64 0, .int .i64 0, .bool false, .int .i64 0, .int .i64 0, .int .i64 0, .int .i64 0, .slice none 0 0], 87, 10⟩) r6 = some ⟨[.int .i64 0, .int .i64 0, .int .i64 0, .int .i64 0, .bool false, .int .i64 0, .int .i64 0, .int .i64 0, .int .i64 0, .slice none 0 0], 87, 10⟩ := by rw [Hp.upd_ne' (by simp [hM7])]; exact Hp.upd_same _ _ _
  have f7 : (((M.upd r5 ⟨x.cs, 83, 5⟩).upd r6 ⟨[.int .i64 0, .int .i64 0, .int .i64 0, .int .i64 0, .bool false, .int .i64 0, .int .i64 0, .int .i64 0, .int .i64 0, .slice none 0 0], 87, 10⟩).upd r7 ⟨[.int .i64 b, .int .i64 p, .int .i64 0, .int .i64 0, .bool false, .int .i64 0, .int .i64 0, .int .i64 0, .int .i64 0, .slice none 0 0], 87, 10⟩) r7 = some ⟨[.int .i64 b, .int .i64 p, .int .i64 0, .int .i64 0, .bool false, .int .i64 0, .int .i64 0, .int .i64 0, .int .i64 0, .slice none 0 0], 87, 10⟩ := Hp.upd_same _ _ _
  have n6 : M r6 = none := hM6.2
  have n7 : M r7 = none := hM7.2.2
  have ne67 : ¬ r6 = r7 := hM7.1.2
  have ne76 : ¬ r7 = r6 := hM7.1.1
  generalize (((M.upd r5 ⟨x.cs, 83, 5⟩).upd r6 ⟨[.int .i64 0, .int .i64 0, .int .i64 0, .int .i64 0, .bool false, .int .i64 0, .int .i64 0, .int .i64 0, .int .i64 0, .slice none 0 0], 87, 10⟩).upd r7 ⟨[.int .i64 b, .int .i64 p, .int .i64 0, .int .i64 0, .bool false, .int .i64 0, .int .i64 0, .int .i64 0, .int .i64 0, .slice none 0 0], 87, 10⟩) = M1 at *
  have b5 := blk_M (F := F) f5
  have b6 := blk_M (F := F) f6
  have b7 := blk_M (F := F) f7
  have fin : ∀ c : Cl, c.pc = singleV b p x → ∀ M3, Keep M1 M3 → Old F M3 → (∃ X, M3 r7 = some ⟨X, 87, 10⟩) → (∃ X, M3 r6 = some ⟨X, 87, 10⟩) → OwnG 7 Ba.cs 157 F M3 (.slice c.lA c.l.length c.lC) c.l → ∀ X Y, endK F ((M3.upd r7 ⟨X, 87, 10⟩).upd r6 ⟨Y, 87, 10⟩) (cellNew (singleV b p x) F M) c.val := by
    rintro c hc M3 kp3 o3 ⟨X7, g7⟩ ⟨X6, g6⟩ own X Y
    refine endK_same ⟨rfl, ((kp7.trans kp3).new n7).new n6, (o3.upd hF7).upd hF6, c, rfl, hc, own.frame (e' := 87) (fun r y hy hne => ?_) (by decide)⟩
    have e7 : ¬ r = r7 := by rintro rfl; rw [g7] at hy; cases hy; exact hne rfl
    have e6 : ¬ r = r6 := by rintro rfl; rw [g6] at hy; cases hy; exact hne rfl
    rw [Hp.upd_ne' e6, Hp.upd_ne' e7]; exact hy
  by_cases h1 : x.st = 1
  · have hv : singleV b p x = ⟨b, p, 1, V.just 8 x.n, []⟩ := by unfold singleV; rw [if_pos h1]
    simp only [go_sem, Nat.reduceEqDiff, b5, h1]
    with_reducible refine callK_same (k111 F M1 8 x.n) ?_
    simp only [go_sem]
    with_reducible refine callK_same (k110 F M1 _) ?_
    simp only [setH, Hp.upd_upd, go_sem, reduceIte, Nat.reduceEqDiff, Nat.reduceAdd, Nat.reduceLeDiff, f6, f7, ne67]
    exact fin ⟨b, p, 1, V.just 8 x.n, none, 0, []⟩ hv.symm M1 (Keep.refl _) old7 ⟨_, f7⟩ ⟨_, f6⟩ (.inl ⟨rfl, rfl⟩) _ _
  by_cases h2 : x.st = 2
  · have hv : singleV b p x = ⟨b, p, 11, V.just 8 x.i, [⟨x.b, V.just 8 x.o⟩]⟩ := by unfold singleV; rw [if_neg h1, if_pos h2]
    simp only [go_sem, reduceIte, Nat.reduceEqDiff, Int.reduceEq, b5, h2]
    with_reducible refine callK_of (k109 F M1 x.b x.o) ?_
    rintro u F' M2 hu
    obtain ⟨hG, hu⟩ := hu
    subst hG
    obtain ⟨hh, _⟩ | ⟨g, cap, gF, gM, rfl, hcap, rfl⟩ := hu
    · cases hh
    have kp2 : Keep M1 (M1.upd g ⟨[(⟨x.b, V.just 8 x.o⟩ : Ba)].flatMap Ba.cs, 157, cap * 7⟩) := (Keep.refl M1).new gM
    have o2 : Old F' (M1.upd g ⟨[(⟨x.b, V.just 8 x.o⟩ : Ba)].flatMap Ba.cs, 157, cap * 7⟩) := old7.upd gF
    refine ⟨(fun h => by cases h), ?_⟩
    have g5 := kp2 _ _ f5
    have g6 := kp2 _ _ f6
    have g7 := kp2 _ _ f7
    have own : OwnG 7 Ba.cs 157 F' (M1.upd g ⟨[(⟨x.b, V.just 8 x.o⟩ : Ba)].flatMap Ba.cs, 157, cap * 7⟩) (.slice (some ⟨g, 0, none⟩) [(⟨x.b, V.just 8 x.o⟩ : Ba)].length cap) [⟨x.b, V.just 8 x.o⟩] := .inr ⟨g, cap, rfl, gF, Hp.upd_same _ _ _, hcap⟩
    generalize M1.upd g ⟨[(⟨x.b, V.just 8 x.o⟩ : Ba)].flatMap Ba.cs, 157, cap * 7⟩ = M2 at *
    have b5' := blk_M (F := F') g5
    have b7' := blk_M (F := F') g7
    have ne57 : ¬ r5 = r7 := hM7.2.1.2
    simp only [setH, Hp.upd_upd, go_sem, Nat.reduceEqDiff, Nat.reduceAdd, Nat.reduceLeDiff, g7, b5', ne57]
    with_reducible refine callK_same (k111 F' _ 8 x.i) ?_
    simp only [setH, Hp.upd_upd, go_sem, reduceIte, Nat.reduceEqDiff, Nat.reduceAdd, Nat.reduceLeDiff, g6, ne67, ab_set_num]
    exact fin ⟨b, p, 11, V.just 8 x.i, some ⟨g, 0, none⟩, cap, [⟨x.b, V.just 8 x.o⟩]⟩ hv.symm M2 kp2 o2 ⟨_, g7⟩ ⟨_, g6⟩ own _ _
  have hv : singleV b p x = ⟨b, p, 0, V.zero, []⟩ := by unfold singleV; rw [if_neg h1, if_neg h2]
  simp only [setH, go_sem, reduceIte, Nat.reduceEqDiff, Nat.reduceAdd, b7, f6, h1, h2]
  refine endK_same ⟨rfl, kp7.new n6, old7.upd hF6, ⟨b, p, 0, V.zero, none, 0, []⟩, rfl, hv.symm, .inl ⟨rfl, rfl⟩⟩
end Go.Proofs.Tryz.K
namespace Go.Proofs.Tryz.K
open Go Go.Ax Go.Proofs.Tryz.S
set_option maxRecDepth 100000
set_option linter.unusedSimpArgs false
set_option linter.unusedVariables false
set_option maxHeartbeats 4000000
variable (F : Fz) (M : Hp)
structure EnOwn (F : Fz) (M : Hp) (e : En) : Prop where
  own : OwnG 10 Cl.cs 87 F M (.slice e.cellsA e.cells.length e.cellsC) e.cells
  owns : ∀ x ∈ e.cells, OwnG 7 Ba.cs 157 F M (.slice x.lA x.l.length x.lC) x.l
  nums : OwnG 1 intC 3 F M (.slice e.newsA e.news.length e.newsC) e.news
  few : e.cells.length ≤ 100000 ∧ e.news.length ≤ 100000 ∧ ∀ x ∈ e.cells, x.l.length ≤ 100000
theorem EnOwn.rd {F : Fz} {M : Hp} {e : En} (h : EnOwn F M e) : e.rd F M :=
  ⟨h.own.rd Cl.len (by have := h.few.1; omega), fun x hx => (h.owns x hx).rd (fun x => rfl) (by have := h.few.2.2 x hx; omega), h.nums.rd intC_len (by have := h.few.2.1; omega), own_zero h.own, own_zero h.nums, fun x hx => own_zero (h.owns x hx)⟩
theorem EnOwn.frame {F : Fz} {M M' : Hp} {e : En} (h : EnOwn F M e) {te : TypeId} (fr : ∀ r x, M r = some x → ¬ x.elem = te → M' r = some x) (h1 : ¬ 87 = te) (h2 : ¬ 157 = te) (h3 : ¬ 3 = te) : EnOwn F M' e :=
  ⟨h.own.frame fr h1, fun x hx => (h.owns x hx).frame fr h2, h.nums.frame fr h3, h.few⟩
def envOwn (e : Pe) (F : Fz) (M : Hp) (u : Value) (F' : Fz) (M' : Hp) : Prop := F' = F ∧ Keep M M' ∧ Old F M' ∧ ∃ e' : En, u = e'.val ∧ e'.pe = e ∧ EnOwn F M' e'
structure JuB (p : Pg) (s : Ste) (r2 r3 r4 r5 : Nat) (F0 : Fz) (M0 : Hp) (wc wn : Value) (lc : List Cl) (ln : List Int) (M : Hp) : Prop where
  kp : Keep M0 M
  old : Old F0 M
  f2 : M r2 = some ⟨p.cs, 28, 7⟩
  f3 : M r3 = some ⟨s.cs, 46, 5⟩
  f4 : M r4 = some ⟨[.bool false, .slice none 0 0, .slice none 0 0], 38, 3⟩
  f5 : M r5 = some ⟨[.bool false, wc, wn], 38, 3⟩
  own : MineG 10 Cl.cs 87 F0 M0 M wc lc
  owns : ∀ x ∈ lc, OwnG 7 Ba.cs 157 F0 M (.slice x.lA x.l.length x.lC) x.l
  nums : MineG 1 intC 3 F0 M0 M wn ln
section
variable {p : Pg} {s : Ste} {r2 r3 r4 r5 : Nat} {F0 : Fz} {M0 M1 M2 : Hp} {wc wn : Value} {lc : List Cl} {ln : List Int}
theorem JuB.keep (h : JuB p s r2 r3 r4 r5 F0 M0 wc wn lc ln M1) (k : Keep M1 M2) (o : Old F0 M2) : JuB p s r2 r3 r4 r5 F0 M0 wc wn lc ln M2 :=
  ⟨h.kp.trans k, o, k _ _ h.f2, k _ _ h.f3, k _ _ h.f4, k _ _ h.f5, h.own.keep k, fun x hx => (h.owns x hx).keep k, h.nums.keep k⟩
theorem JuB.cell (h : JuB p s r2 r3 r4 r5 F0 M0 wc wn lc ln M1) (hF5 : F0 r5 = none) (h5 : M0 r5 = none) (h45 : ¬ r4 = r5) (h25 : ¬ r2 = r5) (h35 : ¬ r3 = r5) {w : Value} {c : Cl} (hc : OwnG 7 Ba.cs 157 F0 M1 (.slice c.lA c.l.length c.lC) c.l)
    (fr : ∀ r x, M1 r = some x → ¬ x.elem = 87 → M2 r = some x) (kp : Keep M0 M2) (o : Old F0 M2) (mine : MineG 10 Cl.cs 87 F0 M0 M2 w (lc ++ [c])) :
    JuB p s r2 r3 r4 r5 F0 M0 w wn (lc ++ [c]) ln (M2.upd r5 ⟨[.bool false, w, wn], 38, 3⟩) := by
  have g5 := fr _ _ h.f5 (by decide : ¬ (38 : Nat) = 87)
  have fr5 : ∀ r x, M2 r = some x → ¬ x.elem = 38 → (M2.upd r5 ⟨[.bool false, w, wn], 38, 3⟩) r = some x := fun r x hx hne => by
    have : ¬ r = r5 := by rintro rfl; rw [g5] at hx; cases hx; exact hne rfl
    rw [Hp.upd_ne' this]; exact hx
  refine ⟨kp.new h5, o.upd hF5, ?_, ?_, ?_, Hp.upd_same _ _ _, ⟨mine.own.frame fr5 (by decide), mine.new⟩, fun x hx => ?_, ⟨(h.nums.own.frame fr (by decide)).frame fr5 (by decide), h.nums.new⟩⟩
  · rw [Hp.upd_ne' h25]; exact fr _ _ h.f2 (by decide : ¬ (28 : Nat) = 87)
  · rw [Hp.upd_ne' h35]; exact fr _ _ h.f3 (by decide : ¬ (46 : Nat) = 87)
  · rw [Hp.upd_ne' h45]; exact fr _ _ h.f4 (by decide : ¬ (38 : Nat) = 87)
  · rcases List.mem_append.1 hx with hx | hx
    · exact ((h.owns x hx).frame fr (by decide)).frame fr5 (by decide)
    · rw [List.mem_singleton.1 hx]; exact (hc.frame fr (by decide)).frame fr5 (by decide)
theorem JuB.num (h : JuB p s r2 r3 r4 r5 F0 M0 wc wn lc ln M1) (hF5 : F0 r5 = none) (h5 : M0 r5 = none) (h45 : ¬ r4 = r5) (h25 : ¬ r2 = r5) (h35 : ¬ r3 = r5) {w : Value} {n : Int}
    (fr : ∀ r x, M1 r = some x → ¬ x.elem = 3 → M2 r = some x) (kp : Keep M0 M2) (o : Old F0 M2) (mine : MineG 1 intC 3 F0 M0 M2 w (ln ++ [n])) :
    JuB p s r2 r3 r4 r5 F0 M0 wc w lc (ln ++ [n]) (M2.upd r5 ⟨[.bool false, wc, w], 38, 3⟩) := by
  have g5 := fr _ _ h.f5 (by decide : ¬ (38 : Nat) = 3)
  have fr5 : ∀ r x, M2 r = some x → ¬ x.elem = 38 → (M2.upd r5 ⟨[.bool false, wc, w], 38, 3⟩) r = some x := fun r x hx hne => by
    have : ¬ r = r5 := by rintro rfl; rw [g5] at hx; cases hx; exact hne rfl
    rw [Hp.upd_ne' this]; exact hx
  refine ⟨kp.new h5, o.upd hF5, ?_, ?_, ?_, Hp.upd_same _ _ _, ⟨(h.own.own.frame fr (by decide)).frame fr5 (by decide), h.own.new⟩, fun x hx => ((h.owns x hx).frame fr (by decide)).frame fr5 (by decide), ⟨mine.own.frame fr5 (by decide), mine.new⟩⟩
  · rw [Hp.upd_ne' h25]; exact fr _ _ h.f2 (by decide : ¬ (28 : Nat) = 3)
  · rw [Hp.upd_ne' h35]; exact fr _ _ h.f3 (by decide : ¬ (46 : Nat) = 3)
  · rw [Hp.upd_ne' h45]; exact fr _ _ h.f4 (by decide : ¬ (38 : Nat) = 3)
end
theorem cellsAt_len (big : Bool) (q : Nat) (b : Int) (l : List By) : ∀ (n at_ : Nat), (cellsAt big q b l n at_).length ≤ n
  | 0, _ => by simp [cellsAt]
  | n + 1, at_ => by
    rw [cellsAt]
    split
    · have := cellsAt_len big q b l n (stepV big q b l at_).2
      simp only [List.length_cons]; omega
    · simp
theorem justL_len (big : Bool) (q : Nat) {p : Pg} {m : List Bl} (h : FitM p m) : ∀ i, (justL big q m i).length ≤ 32 * i
  | 0 => by simp [justL]
  | i + 1 => by
    have h1 := justL_len big q h i
    have h2 := cellsAt_len big q i (blAt m i).l (blAt m i).l.length 0
    have h3 : (blAt m i).l.length ≤ 32 := by
      by_cases hi : i < m.length
      · rw [blAt_get hi]; exact (h.bytes i hi).2.2.2
      · unfold blAt; rw [Int.toNat_natCast, List.getElem?_eq_none (by omega)]; decide
    rw [justL, List.length_append]
    omega
def juI (p : Pg) (s : Ste) (q : Nat) (r2 r3 r4 r5 : Nat) (F0 : Fz) (M0 : Hp) (i : Nat) (σ : Env) (F : Fz) (M : Hp) : Prop :=
  F0 = F ∧ Ax.look σ 16 = some (.int .i64 i) ∧ ∃ wc, ∃ lc : List Cl, JuB p s r2 r3 r4 r5 F0 M0 wc (.slice none 0 0) lc [] M ∧ lc.map Cl.pc = justL p.big q s.blocks i
def juB (p : Pg) (s : Ste) (q : Nat) (r2 r3 r4 r5 r7 : Nat) (x : Bl) (i : Nat) (F0 : Fz) (M0 : Hp) (n : Nat) (σ : Env) (F : Fz) (M : Hp) : Prop :=
  F0 = F ∧ ∃ at_ : Nat, at_ + n = x.l.length ∧ Ax.look σ 8 = some (.int .i64 at_) ∧ M r7 = some ⟨x.cs, 54, 2⟩ ∧ ∃ wc, ∃ lc : List Cl, JuB p s r2 r3 r4 r5 F0 M0 wc (.slice none 0 0) lc [] M ∧ lc.map Cl.pc ++ cellsAt p.big q i x.l n at_ = justL p.big q s.blocks (i + 1)
theorem step_one (big : Bool) (q : Nat) (b : Int) (l : List By) (at_ : Nat) : (stepV big q b l at_).1.l.length ≤ 1 := by
  unfold stepV
  split
  · simp [ptrC]
  · unfold singleV
    split
    · simp
    split <;> simp
theorem cellsAt_one (big : Bool) (q : Nat) (b : Int) (l : List By) : ∀ (n at_ : Nat), ∀ c ∈ cellsAt big q b l n at_, c.l.length ≤ 1
  | 0, _, c, hc => by simp [cellsAt] at hc
  | n + 1, at_, c, hc => by
    rw [cellsAt] at hc
    split at hc
    · rcases List.mem_cons.1 hc with rfl | hc
      · exact step_one _ _ _ _ _
      · exact cellsAt_one big q b l n _ c hc
    · simp at hc
theorem justL_one (big : Bool) (q : Nat) (m : List Bl) : ∀ i, ∀ c ∈ justL big q m i, c.l.length ≤ 1
  | 0, c, hc => by simp [justL] at hc
  | i + 1, c, hc => by
    rw [justL] at hc
    rcases List.mem_append.1 hc with hc | hc
    · exact justL_one big q m i c hc
    · exact cellsAt_one big q _ _ _ _ c hc
def juN (p : Pg) (s : Ste) (D : List Bl) (G : Bl → Int) (r2 r3 r4 r5 : Nat) (wc : Value) (lc : List Cl) (F0 : Fz) (M0 : Hp) (k : Nat) (σ : Env) (F : Fz) (M : Hp) : Prop :=
  F0 = F ∧ Ax.look σ 75 = some (.int .i64 k) ∧ ∃ wn, JuB p s r2 r3 r4 r5 F0 M0 wc wn lc ((D.take k).map G) M
theorem k29 (p : Pg) (s : Ste) (hp : p.rd F) (hold : Old F M) (hs : s.rd F M) (hc : progC p = true) (hfm : FitM p s.blocks) :
    CallsA Tryz.prog 29 [p.val, s.val] F M (envOwn (justV p s.blocks) F M) := by
  refine callsA_of hm Tryz.func29 e29 (Nat.le_of_ble_eq_true rfl) ?_
  have hpre := progC_pre hc
  obtain ⟨q, hq⟩ := Int.eq_ofNat_of_zero_le (by omega : 0 ≤ p.ptr)
  have hq' : q = 2 ∨ q = 4 := by omega
  have hq0 : 0 < q := by omega
  have hlen := hfm.len
  simp only [c29, go_sem]
  intro r2 hF2 hM2
  simp only [go_sem, reduceCtorEq, Nat.reduceEqDiff]
  intro r3 hF3 hM3
  simp only [upd_none2] at hM3
  simp only [go_sem, Nat.reduceAdd]
  intro r4 hF4 hM4
  simp only [upd_none2] at hM4
  simp only [go_sem, Nat.reduceAdd]
  intro r5 hF5 hM5
  simp only [upd_none2] at hM5
  have n4 : M r4 = none := hM4.2.2
  have n5 : M r5 = none := hM5.2.2.2
  have h45 : ¬ r4 = r5 := by simp [hM5]
  have h54 : ¬ r5 = r4 := by simp [hM5]
  have h25 : ¬ r2 = r5 := by simp [hM5]
  have h35 : ¬ r3 = r5 := by simp [hM5]
  have st : JuB p s r2 r3 r4 r5 F M (.slice none 0 0) (.slice none 0 0) [] [] ((((M.upd r2 ⟨p.cs, 28, 7⟩).upd r3 ⟨s.cs, 46, 5⟩).upd r4 ⟨[.bool false, .slice none 0 0, .slice none 0 0], 38, 3⟩).upd r5 ⟨[.bool false, .slice none 0 0, .slice none 0 0], 38, 3⟩) := by
    refine ⟨(by repeat' first | exact Keep.refl _ | (refine Keep.new ?_ (by simp only [*]))), (by repeat' first | assumption | (refine Old.upd ?_ (by assumption))), ?_, ?_, ?_, Hp.upd_same _ _ _, MineG.nil, fun x hx => by (cases hx), MineG.nil⟩
    · rw [Hp.upd_ne' h25, Hp.upd_ne' (by simp [hM4]), Hp.upd_ne' (by simp [hM3])]; exact Hp.upd_same _ _ _
    · rw [Hp.upd_ne' h35, Hp.upd_ne' (by simp [hM4])]; exact Hp.upd_same _ _ _
    · rw [Hp.upd_ne' h45]; exact Hp.upd_same _ _ _
  generalize ((((M.upd r2 ⟨p.cs, 28, 7⟩).upd r3 ⟨s.cs, 46, 5⟩).upd r4 ⟨[.bool false, .slice none 0 0, .slice none 0 0], 38, 3⟩).upd r5 ⟨[.bool false, .slice none 0 0, .slice none 0 0], 38, 3⟩) = M1 at *
  clear hM2 hM3 hM4 hM5 hF2 hF3
  have b2 := blk_M (F := F) st.f2
  have b3 := blk_M (F := F) st.f3
  simp only [go_sem, Nat.reduceEqDiff, b3]
  refine inBlock_st (fun σ F' M' => F = F' ∧ ∃ wc, ∃ lc : List Cl, JuB p s r2 r3 r4 r5 F M wc (.slice none 0 0) lc [] M' ∧ lc.map Cl.pc = justL p.big q s.blocks s.blocks.length) ?_ ?_
  · refine loop_up s.blocks.length (juI p s q r2 r3 r4 r5 F M) ⟨rfl, (by simp only [go_sem, *] <;> rfl), _, [], st, rfl⟩ ?_
    clear b2 b3 st
    rintro i σ F' M2 hi hst ⟨rfl, q16, wc, lc, st, hlc⟩
    have q2 := hst 2 rfl
    have q3 := hst 3 rfl
    have q5 := hst 5 rfl
    have q14 := hst 14 rfl
    have q15 := hst 15 rfl
    simp only [go_sem, Nat.reduceEqDiff] at q2 q3 q5 q14 q15
    clear hst
    by_cases hil : (i : Int) < s.blocks.length
    rotate_left
    · have : i = s.blocks.length := by omega
      rw [this] at hlc
      simp only [go_sem, reduceIte, q16, q15, hil]
      exact At.mk ⟨rfl, wc, lc, st, hlc⟩
    have hi0 : (0 : Int) ≤ i := by omega
    have hi1 : i < s.blocks.length := by omega
    have ei : IntKind.i64.wrap ((i : Int) + 1) = i + 1 := w64 (by omega) (by omega)
    obtain ⟨b, o, cs, ea, hb, rows⟩ := (hs.keep st.kp st.old).blocks.rows (by omega)
    obtain ⟨d1, d2⟩ := rows i hi1
    clear rows
    have hx := hs.bytes _ (List.getElem_mem hi1)
    have hxb := hfm.bytes i hi1
    have hjs : justL p.big q s.blocks (i + 1) = justL p.big q s.blocks i ++ cellsAt p.big q i (s.blocks[i]).l (s.blocks[i]).l.length 0 := by
      rw [← blAt_get hi1]; rfl
    generalize s.blocks[i] = x at *
    simp only [go_sem, reduceIte, Nat.reduceEqDiff, Nat.reduceAdd, q14, q15, q16, hil, hi0, ea, Int.toNat_natCast, hb, d1, d2]
    intro r7 hF7 hM7
    simp only [setH, Hp.upd_upd, go_sem, Nat.reduceEqDiff, Nat.reduceAdd]
    have kp7 : Keep M2 (M2.upd r7 ⟨x.cs, 54, 2⟩) := (Keep.refl M2).new hM7
    have st7 := st.keep kp7 (st.old.upd hF7)
    have f7 : (M2.upd r7 ⟨x.cs, 54, 2⟩) r7 = some ⟨x.cs, 54, 2⟩ := Hp.upd_same _ _ _
    have h75 : ¬ r7 = r5 := by rintro rfl; rw [st.f5] at hM7; cases hM7
    generalize M2.upd r7 ⟨x.cs, 54, 2⟩ = M3 at *
    clear st kp7 hM7 hF7
    refine inBlock_st (fun σ F' M' => F = F' ∧ ∃ wc, ∃ lc : List Cl, JuB p s r2 r3 r4 r5 F M wc (.slice none 0 0) lc [] M' ∧ lc.map Cl.pc = justL p.big q s.blocks (i + 1)) ?_ ?_
    · refine loop_st (juB p s q r2 r3 r4 r5 r7 x i F M) x.l.length ⟨rfl, 0, by omega, (by simp only [go_sem, *] <;> rfl), f7, wc, lc, st7, by rw [hjs, hlc]⟩ ?_
      clear hlc st7 f7
      rintro n σ2 F' M2 hst ⟨rfl, at_, hat, q8, f7, wc, lc, st, hlc⟩
      have t2 := hst 2 rfl
      have t5 := hst 5 rfl
      have t6 := hst 6 rfl
      have t7 := hst 7 rfl
      simp only [go_sem, Nat.reduceEqDiff, q2, q5] at t2 t5 t6 t7
      clear hst
      have b2 := blk_M (F := F) st.f2
      have b5 := blk_M (F := F) st.f5
      have b7 := blk_M (F := F) f7
      by_cases hal : (at_ : Int) < x.l.length
      rotate_left
      · have hn : n = 0 := by omega
        rw [hn] at hlc
        have hlc' : lc.map Cl.pc = justL p.big q s.blocks (i + 1) := by rw [← hlc]; simp [cellsAt]
        simp only [go_sem, reduceIte, Nat.reduceEqDiff, t7, q8, b7, hal]
        exact At.mk ⟨rfl, wc, lc, st, hlc'⟩
      have ha0 : (0 : Int) ≤ at_ := by omega
      have ha1 : at_ < x.l.length := by omega
      have hx2 : x.rd F M2 := RdG.keep hx st.kp st.old
      have hn : n = x.l.length - at_ := by omega
      rw [hn, cellsAt_step hq0 ha1] at hlc
      have kW := k68 F M2 p.big q x.lA x.lC x.l at_ hq' st.old hx2 (by omega) (by omega)
      rw [← hq] at kW
      simp only [go_sem, reduceIte, Nat.reduceEqDiff, Nat.reduceLeDiff, t2, t7, q8, b2, b7, hal]
      with_reducible refine callK_same kW ?_
      have hsv : stepV p.big q i x.l at_ = if (wholeV p.big q x.l at_).2 = true then (ptrC i at_ (wholeV p.big q x.l at_).1, at_ + q) else (singleV i at_ (byAt x.l at_), at_ + 1) := rfl
      have hle : (wholeV p.big q x.l at_).2 = true → at_ + q ≤ x.l.length := fun h => by
        unfold wholeV at h
        split at h
        · rename_i h2; exact h2.2
        · cases h
      generalize wholeV p.big q x.l at_ = rv at *
      obtain ⟨sc, ok⟩ := rv
      simp only [go_sem, Nat.reduceEqDiff, Nat.reduceAdd]
      intro r9 hF9 hM9
      have kp9 : ∀ e, Keep M2 (M2.upd r9 e) := fun e => (Keep.refl M2).new hM9
      have st9 := fun e => st.keep (kp9 e) (st.old.upd hF9)
      have f79 := fun e => kp9 e _ _ f7
      simp only [setH, Hp.upd_upd, go_sem, Nat.reduceEqDiff, Nat.reduceAdd]
      have st9 := st9 ⟨sc.cs, 119, 4⟩
      have f79 := f79 ⟨sc.cs, 119, 4⟩
      have f9 : (M2.upd r9 ⟨sc.cs, 119, 4⟩) r9 = some ⟨sc.cs, 119, 4⟩ := Hp.upd_same _ _ _
      generalize M2.upd r9 ⟨sc.cs, 119, 4⟩ = M3 at *
      have b29 := blk_M (F := F) st9.f2
      have b59 := blk_M (F := F) st9.f5
      have b79 := blk_M (F := F) f79
      have b9 := blk_M (F := F) f9
      clear kp9 hM9 hF9 st f7 b2 b5 b7
      have done : ∀ (c : Cl) (M4 : Hp), Keep M3 M4 → Old F M4 → OwnG 7 Ba.cs 157 F M4 (.slice c.lA c.l.length c.lC) c.l → ∀ w M5, (∀ r x, M4 r = some x → ¬ x.elem = 87 → M5 r = some x) → Keep M M5 → Old F M5 → MineG 10 Cl.cs 87 F M M5 w (lc ++ [c]) →
          JuB p s r2 r3 r4 r5 F M w (.slice none 0 0) (lc ++ [c]) [] (M5.upd r5 ⟨[.bool false, w, .slice none 0 0], 38, 3⟩) ∧ (M5.upd r5 ⟨[.bool false, w, .slice none 0 0], 38, 3⟩) r7 = some ⟨x.cs, 54, 2⟩ := fun c M4 kp4 o4 own w M5 fr kp5 o5 mine =>
        ⟨(st9.keep kp4 o4).cell hF5 n5 h45 h25 h35 own fr kp5 o5 mine, by rw [Hp.upd_ne' h75]; exact fr _ _ (kp4 _ _ f79) (by decide : ¬ (54 : Nat) = 87)⟩
      have hbig : lc.length + 1 ≤ 1000000 := by
        have h1 := justL_len p.big q hfm (i + 1)
        rw [← hlc] at h1
        have h2 := hpre.2.1
        have h3 := hpre.2.2.1
        simp only [List.length_append, List.length_map, List.length_cons] at h1
        omega
      cases ok
      · have hy := List.getElem_mem ha1
        have hby : byAt x.l at_ = x.l[at_] := by unfold byAt; rw [List.getElem?_eq_getElem ha1]; rfl
        have hx3 : x.rd F M3 := RdG.keep hx st9.kp st9.old
        obtain ⟨b', o', cs', ea', hb', rows⟩ := hx3.rows (by omega)
        obtain ⟨e1, e2⟩ := rows at_ ha1
        clear rows
        rw [if_neg Bool.false_ne_true] at hsv
        rw [hby] at hsv
        rw [hsv] at hlc
        generalize x.l[at_] = y at *
        simp only [go_sem, reduceIte, Nat.reduceEqDiff, t5, t6, t7, q8, b59, b79, hal, ha0, ea', Int.toNat_natCast, hb', e1, e2]
        with_reducible refine callK_of (k70 F M3 i at_ y st9.old) ?_
        rintro u F' M4 ⟨hG, kp4, old4, c, rfl, hc', own⟩
        subst hG
        refine ⟨fun _ => kp4.le old4, ?_⟩
        simp only [go_sem, reduceIte, Nat.reduceAdd]
        intro rb hFb hMb
        simp only [go_sem, Nat.reduceEqDiff]
        have kpb : Keep M4 (M4.upd rb ⟨c.cs, 87, 10⟩) := (Keep.refl M4).new hMb
        refine apMG_of (xs := lc) (ys := [c]) Cl.len Cl.plain (by decide) ((st9.own.keep kp4).keep kpb) ((st9.kp.trans kp4).trans kpb) ⟨rfl, .inr ⟨⟨rb, 0, none⟩, 1, rfl, .inr ⟨rb, 0, _, rfl, blk_upd_same, by simp [Cl.take_all]⟩⟩⟩ (by simp) (by simpa using hbig) ?_
        rintro _ M5 ⟨g', c'', rfl⟩ fr kp5 o5 mine
        obtain ⟨stN, f7N⟩ := done c _ (kp4.trans kpb) (old4.upd hFb) (own.keep kpb) _ M5 fr kp5 (o5 (old4.upd hFb)) mine
        rw [show (lc ++ [c]).length = lc.length + 1 by simp] at stN f7N
        have g5 := fr _ _ (kpb _ _ (kp4 _ _ st9.f5)) (by decide : ¬ (38 : Nat) = 87)
        have ew : IntKind.i64.wrap ((at_ : Int) + 1) = ((at_ + 1 : Nat) : Int) := by rw [w64 (by omega) (by omega)]; omega
        simp only [setH, go_sem, reduceIte, Nat.reduceEqDiff, Nat.reduceAdd, Nat.reduceLeDiff, t5, q8, g5, ew]
        exact ⟨⟨n - 1, by omega, rfl, at_ + 1, by omega, (by simp only [go_sem, *] <;> rfl), f7N, _, lc ++ [c], stN, by rw [← hlc, List.map_append, List.map_singleton, hc', List.append_assoc, List.singleton_append, show n - 1 = x.l.length - (at_ + 1) from by omega]⟩⟩
      · rw [if_pos rfl] at hsv
        rw [hsv] at hlc
        simp only [go_sem, reduceIte, Nat.reduceEqDiff, t5, t6, q8, b59, b9]
        with_reducible refine callK_of (k69 F M3 7 sc (.inl rfl)) ?_
        rintro u F' M4 ⟨hG, hu⟩
        subst hG
        rw [if_pos rfl, if_pos rfl] at hu
        obtain ⟨hh, _⟩ | ⟨g, cap, gF, gM, rfl, hcap, rfl⟩ := hu
        · cases hh
        refine ⟨fun _ => Le.upd gF gM, ?_⟩
        have kp4 : Keep M3 (M3.upd g ⟨[(⟨sc.b, V.just 8 sc.o⟩ : Ba)].flatMap Ba.cs, 157, cap * 7⟩) := (Keep.refl M3).new gM
        have old4 := st9.old.upd (e := ⟨[(⟨sc.b, V.just 8 sc.o⟩ : Ba)].flatMap Ba.cs, 157, cap * 7⟩) gF
        have own : OwnG 7 Ba.cs 157 F' (M3.upd g ⟨[(⟨sc.b, V.just 8 sc.o⟩ : Ba)].flatMap Ba.cs, 157, cap * 7⟩) (.slice (some ⟨g, 0, none⟩) [(⟨sc.b, V.just 8 sc.o⟩ : Ba)].length cap) [⟨sc.b, V.just 8 sc.o⟩] := .inr ⟨g, cap, rfl, gF, Hp.upd_same _ _ _, hcap⟩
        generalize M3.upd g ⟨[(⟨sc.b, V.just 8 sc.o⟩ : Ba)].flatMap Ba.cs, 157, cap * 7⟩ = M4 at *
        simp only [go_sem, reduceIte, Nat.reduceEqDiff, Nat.reduceAdd, Nat.reduceLeDiff]
        intro rb hFb hMb
        have eC : (Value.int .i64 ↑i :: Value.int .i64 ↑at_ :: Value.int .i64 7 :: abCs V.zero (Value.slice (some ⟨g, 0, none⟩) 1 cap)) = Cl.cs ⟨i, at_, 7, V.zero, some ⟨g, 0, none⟩, cap, [⟨sc.b, V.just 8 sc.o⟩]⟩ := rfl
        rw [eC]
        obtain ⟨c, hc⟩ : ∃ c : Cl, c = ⟨i, at_, 7, V.zero, some ⟨g, 0, none⟩, cap, [⟨sc.b, V.just 8 sc.o⟩]⟩ := ⟨_, rfl⟩
        have hc' : c.pc = ptrC i at_ sc := by rw [hc]; rfl
        have own : OwnG 7 Ba.cs 157 F' M4 (.slice c.lA c.l.length c.lC) c.l := by rw [hc]; exact own
        rw [← hc]
        clear eC hc
        simp only [go_sem, Nat.reduceEqDiff]
        have kpb : Keep M4 (M4.upd rb ⟨c.cs, 87, 10⟩) := (Keep.refl M4).new hMb
        refine apMG_of (xs := lc) (ys := [c]) Cl.len Cl.plain (by decide) ((st9.own.keep kp4).keep kpb) ((st9.kp.trans kp4).trans kpb) ⟨rfl, .inr ⟨⟨rb, 0, none⟩, 1, rfl, .inr ⟨rb, 0, _, rfl, blk_upd_same, by simp [Cl.take_all]⟩⟩⟩ (by simp) (by simpa using hbig) ?_
        rintro _ M5 ⟨g', c'', rfl⟩ fr kp5 o5 mine
        obtain ⟨stN, f7N⟩ := done c _ (kp4.trans kpb) (old4.upd hFb) (own.keep kpb) _ M5 fr kp5 (o5 (old4.upd hFb)) mine
        rw [show (lc ++ [c]).length = lc.length + 1 by simp] at stN f7N
        have g5 := fr _ _ (kpb _ _ (kp4 _ _ st9.f5)) (by decide : ¬ (38 : Nat) = 87)
        have b2N := blk_M (F := F') stN.f2
        have hle2 := hle rfl
        have ew : IntKind.i64.wrap ((at_ : Int) + p.ptr) = ((at_ + q : Nat) : Int) := by rw [hq, w64 (by omega) (by omega)]; omega
        simp only [setH, go_sem, reduceIte, Nat.reduceEqDiff, Nat.reduceAdd, Nat.reduceLeDiff, t2, t5, q8, g5, b2N, ew]
        exact ⟨⟨n - q, by omega, rfl, at_ + q, by omega, (by simp only [go_sem, *] <;> rfl), f7N, _, lc ++ [c], stN, by rw [← hlc, List.map_append, List.map_singleton, hc', List.append_assoc, List.singleton_append, show n - q = x.l.length - (at_ + q) from by omega]⟩⟩
    · clear hlc st7 f7
      rintro σ2 F' M4 hst ⟨rfl, wc, lc, st, hlc⟩
      have t16 := hst 16 rfl
      simp only [go_sem, Nat.reduceEqDiff, q16] at t16
      clear hst
      simp only [go_sem, reduceIte, t16, ei]
      exact ⟨hi1, rfl, (by simp only [go_sem, *] <;> rfl), wc, lc, st, hlc⟩
  · clear st b2 b3
    rintro σ F' M2 hst ⟨rfl, wc, lc, st, hlc⟩
    have q2 := hst 2 rfl
    have q3 := hst 3 rfl
    have q4 := hst 4 rfl
    have q5 := hst 5 rfl
    simp only [go_sem, Nat.reduceEqDiff] at q2 q3 q4 q5
    clear hst
    have b2 := blk_M (F := F) st.f2
    have b3 := blk_M (F := F) st.f3
    have hb0 := (hs.keep st.kp st.old).blocks
    have hbc : s.blocks.length ≤ s.blocksC := by
      obtain ⟨_, ad, cap, hc, e, _⟩ := hb0
      cases e; exact hc
    have hlo : 1 + p.vars.length ≤ s.blocks.length := by omega
    have ew : IntKind.i64.wrap (1 + (p.vars.length : Int)) = ((1 + p.vars.length : Nat) : Int) := by rw [w64 (by omega) (by omega)]; omega
    have e1 : (0 : Int) ≤ ((1 + p.vars.length : Nat) : Int) := by omega
    have e2 : ((1 + p.vars.length : Nat) : Int) ≤ s.blocks.length := by omega
    have hdl : (s.blocks.drop (1 + p.vars.length)).length = s.blocks.length - (1 + p.vars.length) := by simp
    obtain ⟨da, hda⟩ : ∃ da : Option Addr, da = (if (s.blocksC : Int) = ((1 + p.vars.length : Nat) : Int) then s.blocksA else s.blocksA.map (·.add ((1 + p.vars.length) * 2))) := ⟨_, rfl⟩
    have hD : ∀ M', Keep M M' → Old F M' → RdG 2 Bl.cs F M' (.slice da (s.blocks.drop (1 + p.vars.length)).length (s.blocksC - (1 + p.vars.length))) (s.blocks.drop (1 + p.vars.length)) := fun M' k o => by
      have := RdG.cut (hs.keep k o).blocks (lo := 1 + p.vars.length) (n := s.blocks.length - (1 + p.vars.length)) (by omega)
      rw [List.take_of_length_le (by omega), ← hda] at this
      exact this
    simp only [go_sem, reduceIte, Nat.reduceEqDiff, q2, q3, b2, b3, ew, e1, e2, Int.toNat_natCast]
    rw [← hda, ← hdl]
    obtain ⟨G, hG⟩ : ∃ G : Bl → Int, G = fun x => shlv .i64 1 x.st := ⟨_, rfl⟩
    have hGx : ∀ x, shlv .i64 1 x.st = G x := fun x => by rw [hG]
    have hpe : ∀ (a1 a2 : Option Addr) (c1 c2 : Nat), (En.mk false a1 c1 lc a2 c2 ((s.blocks.drop (1 + p.vars.length)).map G)).pe = justV p s.blocks := fun a1 a2 c1 c2 => by
      unfold En.pe justV
      simp only [hlc, hq, Int.toNat_natCast, hG]
    have hst : ∀ x ∈ s.blocks.drop (1 + p.vars.length), ¬ x.st < 0 := fun x hx => by
      obtain ⟨j, hj, e⟩ := List.getElem_of_mem (List.mem_of_mem_drop hx)
      have := (hfm.bytes j hj).2.1
      rw [e] at this; omega
    have hDn : (s.blocks.drop (1 + p.vars.length)).length ≤ 2 := by have := hpre.2.2.1; omega
    have hll : lc.length ≤ 224 := by
      have h1 := justL_len p.big q hfm s.blocks.length
      rw [← hlc, List.length_map] at h1
      have := hpre.2.1
      have := hpre.2.2.1
      omega
    have hlp : ∀ x ∈ lc, x.l.length ≤ 1 := fun x hx => justL_one p.big q s.blocks s.blocks.length x.pc (by rw [← hlc]; exact List.mem_map_of_mem hx)
    clear hda hdl hG
    generalize s.blocks.drop (1 + p.vars.length) = D at *
    refine loop_up D.length (juN p s D G r2 r3 r4 r5 wc lc F M) ⟨rfl, (by simp only [go_sem, *] <;> rfl), _, st⟩ ?_
    clear st b2 b3
    rintro k σ2 F' M2 hk hs2 ⟨rfl, q75, wn, st⟩
    have t4 := hs2 4 rfl
    have t5 := hs2 5 rfl
    have t73 := hs2 73 rfl
    have t74 := hs2 74 rfl
    simp only [go_sem, Nat.reduceEqDiff, q4, q5] at t4 t5 t73 t74
    clear hs2
    have b5 := blk_M (F := F) st.f5
    by_cases hkl : (k : Int) < D.length
    rotate_left
    · rw [List.take_of_length_le (by omega)] at st
      obtain ⟨a1, c1, rfl⟩ := st.own.shape
      obtain ⟨a2, c2, rfl⟩ := st.nums.shape
      have f4 := st.f4
      simp only [setH, go_sem, reduceIte, Nat.reduceEqDiff, Nat.reduceAdd, t4, t5, t74, q75, hkl, b5, f4]
      have fr4 : ∀ r x, M2 r = some x → ¬ x.elem = 38 → (M2.upd r4 ⟨[.bool false, .slice a1 lc.length c1, .slice a2 (D.map G).length c2], 38, 3⟩) r = some x := fun r x hx hne => by
        have : ¬ r = r4 := by rintro rfl; rw [f4] at hx; cases hx; exact hne rfl
        rw [Hp.upd_ne' this]; exact hx
      have o1 := st.own.own.frame fr4 (by decide)
      have o2 := st.nums.own.frame fr4 (by decide)
      have o3 := fun x hx => (st.owns x hx).frame fr4 (by decide)
      exact endK_same ⟨rfl, st.kp.new n4, st.old.upd hF4, ⟨false, a1, c1, lc, a2, c2, D.map G⟩, rfl, hpe a1 a2 c1 c2, ⟨o1, o3, o2, by show lc.length ≤ _; omega, by show (D.map G).length ≤ _; simp; omega, fun x hx => by have := hlp x hx; omega⟩⟩
    have hk0 : (0 : Int) ≤ k := by omega
    have hk1 : k < D.length := by omega
    have ek : IntKind.i64.wrap ((k : Int) + 1) = k + 1 := w64 (by omega) (by omega)
    obtain ⟨b', o', cs', ea', hb', rows⟩ := (hD M2 st.kp st.old).rows (by omega)
    obtain ⟨d1, d2⟩ := rows k hk1
    clear rows
    have hx0 := hst _ (List.getElem_mem hk1)
    have t1 := List.take_succ_eq_append_getElem hk1
    generalize D[k] = x at *
    simp only [go_sem, reduceIte, Nat.reduceEqDiff, Nat.reduceAdd, t73, t74, q75, hkl, hk0, ea', Int.toNat_natCast, hb', d1, d2]
    intro r12 hF12 hM12
    have kp12 : Keep M2 (M2.upd r12 ⟨x.cs, 54, 2⟩) := (Keep.refl M2).new hM12
    have st12 := st.keep kp12 (st.old.upd hF12)
    have f12 : (M2.upd r12 ⟨x.cs, 54, 2⟩) r12 = some ⟨x.cs, 54, 2⟩ := Hp.upd_same _ _ _
    simp only [setH, Hp.upd_upd, go_sem, Nat.reduceEqDiff, Nat.reduceAdd]
    generalize M2.upd r12 ⟨x.cs, 54, 2⟩ = M3 at *
    have b512 := blk_M (F := F) st12.f5
    have b12 := blk_M (F := F) f12
    simp only [go_sem, reduceIte, Nat.reduceEqDiff, t5, b512, b12, hx0, hGx]
    intro rb hFb hMb
    simp only [go_sem, Nat.reduceEqDiff]
    obtain ⟨y, hy⟩ : ∃ y, G x = y := ⟨_, rfl⟩
    rw [hy]
    have kpb : Keep M3 (M3.upd rb ⟨[.int .i64 y], 3, 1⟩) := (Keep.refl M3).new hMb
    have stb := st12.keep kpb (st12.old.upd hFb)
    refine apMG_of (xs := (D.take k).map G) (ys := [y]) intC_len intC_plain (by decide) stb.nums stb.kp ⟨rfl, .inr ⟨⟨rb, 0, none⟩, 1, rfl, .inr ⟨rb, 0, _, rfl, blk_upd_same, by simp [intC, intV]⟩⟩⟩ (by simp) (by simp; omega) ?_
    rintro _ M5 ⟨g', c'', rfl⟩ fr kp5 o5 mine
    have stN := stb.num hF5 n5 h45 h25 h35 fr kp5 (o5 stb.old) mine
    have g5 := fr _ _ stb.f5 (by decide : ¬ (38 : Nat) = 3)
    have et : ((D.take (k + 1)).map G) = ((D.take k).map G) ++ [y] := by rw [t1]; simp [← hy]
    rw [← et] at stN ⊢
    simp only [setH, go_sem, reduceIte, Nat.reduceEqDiff, Nat.reduceAdd, t5, q75, g5, ek]
    exact ⟨hk1, rfl, (by simp only [go_sem, *] <;> rfl), _, stN⟩
end Go.Proofs.Tryz.K
