/- Parts B8: the machine's runs of small codes, contracts of functions, plain facts. -/
import Derived.Test.YtjmgdglhhiccoaaGreatB7
namespace Go.Proofs.Tryz.K
open Go Go.Ax Go.Proofs.Tryz.S
set_option maxRecDepth 100000
set_option linter.unusedSimpArgs false
set_option linter.unusedVariables false
set_option maxHeartbeats 4000000
variable (F : Fz) (M : Hp)
def holI (p : Pg) (e : En) (m : List Bl) (F0 : Fz) (M0 : Hp) (i : Nat) (σ : Env) (F : Fz) (M : Hp) : Prop :=
  F0 = F ∧ Keep M0 M ∧ Old F0 M ∧ Ax.look σ 17 = some (.int .i64 i) ∧ (e.pe.cells.take i).all (saysB p m) = true
def holN (p : Pg) (e : En) (m : List Bl) (F0 : Fz) (M0 : Hp) (i : Nat) (σ : Env) (F : Fz) (M : Hp) : Prop :=
  F0 = F ∧ M0 = M ∧ Ax.look σ 54 = some (.int .i64 i) ∧ (List.range i).all (newB p m e.news) = true
def pinI (p : Pg) (e : En) (m : List Bl) (F0 : Fz) (M0 : Hp) (i : Nat) (σ : Env) (F : Fz) (M : Hp) : Prop :=
  F0 = F ∧ Keep M0 M ∧ Old F0 M ∧ Ax.look σ 7 = some (.int .i64 i) ∧ (e.pe.cells.take i).all (saysB p m) = true
def pinN (p : Pg) (e : En) (m : List Bl) (F0 : Fz) (M0 : Hp) (i : Nat) (σ : Env) (F : Fz) (M : Hp) : Prop :=
  F0 = F ∧ M0 = M ∧ Ax.look σ 8 = some (.int .i64 i) ∧ (List.range i).all (newB p m e.news) = true
theorem newB_at {p : Pg} {m : List Bl} {news : List Int} {i j : Nat} (hi : i < news.length) (hj : j < m.length) (e : j = p.vars.length + 1 + i) : newB p m news i = !decide (band .i64 (shrv .i64 news[i] (m[j]).st) 1 = 0) := by
  unfold newB
  rw [List.getElem?_eq_getElem hi]
  have : ((p.vars.length : Int) + 1 + i) = ((j : Nat) : Int) := by omega
  rw [this, blAt_get hj]
  rfl
theorem all_range {n : Nat} {f : Nat → Bool} : (List.range (n + 1)).all f = ((List.range n).all f && f n) := by
  rw [List.range_succ, List.all_append]; simp
theorem range_no {n i : Nat} {f : Nat → Bool} (h : i < n) (hf : f i = false) : (List.range n).all f = false := by
  rw [List.all_eq_false]; exact ⟨i, List.mem_range.2 h, by simp [hf]⟩
theorem k45 (p : Pg) (e : En) (s : Ste) (hp : p.rd F) (hold : Old F M) (h : e.rd F M) (hs : s.rd F M) (hc : progC p = true) (hfm : FitM p s.blocks) (hfc : e.no = false → (∀ c ∈ e.cells, FitC p s.blocks c.pc) ∧ e.news.length = p.news.length) :
    CallsA Tryz.prog 45 [p.val, e.val, s.val] F M (Same F M (.bool (inEnv p e.pe s.blocks))) := by
  refine callsA_of hm Tryz.func45 e45 (Nat.le_of_ble_eq_true rfl) ?_
  have hl1 := h.cells.1
  have hl2 := h.news.1
  have hl3 := hs.blocks.1
  have hpre := progC_pre hc
  have hlen := hfm.len
  simp only [c45, go_sem, Nat.reduceAdd]
  intro r3 hF3 hM3
  simp only [go_sem, reduceCtorEq, Nat.reduceEqDiff]
  intro r4 hF4 hM4
  simp only [upd_none2] at hM4
  simp only [go_sem, reduceCtorEq, Nat.reduceEqDiff]
  intro r5 hF5 hM5
  simp only [upd_none2] at hM5
  have kp5 : Keep M (((M.upd r3 ⟨p.cs, 28, 7⟩).upd r4 ⟨e.cs, 38, 3⟩).upd r5 ⟨s.cs, 46, 5⟩) := (by repeat' first | exact Keep.refl _ | (refine Keep.new ?_ (by simp only [*])))
  have old5 : Old F (((M.upd r3 ⟨p.cs, 28, 7⟩).upd r4 ⟨e.cs, 38, 3⟩).upd r5 ⟨s.cs, 46, 5⟩) := (by repeat' first | assumption | (refine Old.upd ?_ (by assumption)))
  have f3 : (((M.upd r3 ⟨p.cs, 28, 7⟩).upd r4 ⟨e.cs, 38, 3⟩).upd r5 ⟨s.cs, 46, 5⟩) r3 = some ⟨p.cs, 28, 7⟩ := by rw [Hp.upd_ne' (by simp [hM5]), Hp.upd_ne' (by simp [hM4])]; exact Hp.upd_same _ _ _
  have f4 : (((M.upd r3 ⟨p.cs, 28, 7⟩).upd r4 ⟨e.cs, 38, 3⟩).upd r5 ⟨s.cs, 46, 5⟩) r4 = some ⟨e.cs, 38, 3⟩ := by rw [Hp.upd_ne' (by simp [hM5])]; exact Hp.upd_same _ _ _
  have f5 : (((M.upd r3 ⟨p.cs, 28, 7⟩).upd r4 ⟨e.cs, 38, 3⟩).upd r5 ⟨s.cs, 46, 5⟩) r5 = some ⟨s.cs, 46, 5⟩ := Hp.upd_same _ _ _
  generalize (((M.upd r3 ⟨p.cs, 28, 7⟩).upd r4 ⟨e.cs, 38, 3⟩).upd r5 ⟨s.cs, 46, 5⟩) = M1 at *
  have h1 := h.keep kp5 old5
  have hs1 := hs.keep kp5 old5
  have b3 := blk_M (F := F) f3
  have b4 := blk_M (F := F) f4
  have b5 := blk_M (F := F) f5
  clear hM3 hM4 hM5 hF3 hF4 hF5 h hs
  have fin : ∀ v : Bool, inEnv p e.pe s.blocks = v → ∀ M', Keep M1 M' → endK F M' (Same F M (.bool (inEnv p e.pe s.blocks))) (.bool v) := fun v h M' k => endK_keep (kp5.trans k) ⟨by rw [h], rfl, rfl⟩
  by_cases hno : e.no = true
  · have hR : inEnv p e.pe s.blocks = false := by
      have : e.pe.no = true := hno
      unfold inEnv; rw [this]; rfl
    simp only [go_sem, Nat.reduceEqDiff, b4, hno]
    exact fin _ hR _ (Keep.refl _)
  have hno' : e.no = false := by simpa using hno
  obtain ⟨hfc, hnl⟩ := hfc hno'
  have hR : inEnv p e.pe s.blocks = (e.pe.cells.all (saysB p s.blocks) && (List.range e.news.length).all (newB p s.blocks e.news)) := by
    have : e.pe.no = false := hno'
    unfold inEnv; rw [this]; rfl
  generalize inEnv p e.pe s.blocks = R at *
  simp only [go_sem, Nat.reduceEqDiff, b4, hno']
  have hpl : e.pe.cells.length = e.cells.length := by simp [En.pe]
  refine loop_up e.cells.length (holI p e s.blocks F M1) ⟨rfl, Keep.refl _, old5, (by simp only [go_sem, *] <;> rfl), rfl⟩ ?_
  rintro i σ F' M2 hi hst ⟨rfl, kp, old, q17, he⟩
  have q3 := hst 3 rfl
  have q4 := hst 4 rfl
  have q5 := hst 5 rfl
  have q15 := hst 15 rfl
  have q16 := hst 16 rfl
  simp only [go_sem, Nat.reduceEqDiff] at q3 q4 q5 q15 q16
  clear hst
  have g3 := kp _ _ f3
  have g4 := kp _ _ f4
  have g5 := kp _ _ f5
  have b3' := blk_M (F := F) g3
  have b4' := blk_M (F := F) g4
  have b5' := blk_M (F := F) g5
  have h2 := h1.keep kp old
  have hs2 := hs1.keep kp old
  by_cases hil : (i : Int) < e.cells.length
  · have hi0 : (0 : Int) ≤ i := by omega
    have hi1 : i < e.cells.length := by omega
    have ei : IntKind.i64.wrap ((i : Int) + 1) = i + 1 := w64 (by omega) (by omega)
    have hfi := hfc _ (List.getElem_mem hi1)
    have hci := h2.ptrs _ (List.getElem_mem hi1)
    have t1 : e.pe.cells.take (i + 1) = e.pe.cells.take i ++ [(e.cells[i]).pc] := by
      rw [List.take_succ_eq_append_getElem (by omega)]; simp [En.pe]
    have hno2 : saysB p s.blocks (e.cells[i]).pc = false → R = false := fun h => by
      rw [hR]
      have : e.pe.cells.all (saysB p s.blocks) = false := by
        rw [List.all_eq_false]
        exact ⟨(e.cells[i]).pc, by simp only [En.pe]; exact List.mem_map_of_mem (List.getElem_mem hi1), by simp [h]⟩
      rw [this]; rfl
    obtain ⟨b, o, cs, ea, hb, rows⟩ := h2.cells.rows (by omega)
    obtain ⟨d1, d2⟩ := rows i hi1
    clear rows
    generalize e.cells[i] = c at *
    obtain ⟨k, hk⟩ := Int.eq_ofNat_of_zero_le (by have := hfi.block; omega : 0 ≤ c.pc.b)
    have hkl : k < s.blocks.length := by have := hfi.block; omega
    have hk0 : (0 : Int) ≤ k := by omega
    have hkl' : (k : Int) < s.blocks.length := by omega
    have hk' : c.b = k := hk
    obtain ⟨b', o', cs', ea', hb', rows⟩ := hs2.blocks.rows (by omega)
    obtain ⟨d3, d4⟩ := rows k hkl
    clear rows
    have hsay : saysB p s.blocks c.pc = (!decide ((s.blocks[k]).st = 1) || sayV p.big c.pc (((s.blocks[k]).l.drop c.p.toNat).take (spanK p.ptr c.k).toNat)) := by
      rw [← blAt_get hkl, ← hk]; rfl
    have hin := hfi.inside
    rw [hk, blAt_get hkl] at hin
    have hbr : (s.blocks[k]).rd F M2 := hs2.bytes _ (List.getElem_mem hkl)
    have hby := (hfm.bytes k hkl).1
    generalize s.blocks[k] = x at *
    have next : saysB p s.blocks c.pc = true → ∀ M3 σ', Keep M2 M3 → Old F M3 → Ax.look σ' 17 = some (.int .i64 ((i + 1 : Nat) : Int)) → Nxt (holI p e s.blocks F M1) e.cells.length i σ' F M3 := fun hx M3 σ' kp3 o3 h =>
      ⟨hi1, rfl, kp.trans kp3, o3, h, by rw [t1, List.all_append, he]; simp [hx]⟩
    simp only [go_sem, reduceIte, Nat.reduceEqDiff, Nat.reduceAdd, q15, q16, q17, hil, hi0, ea, Int.toNat_natCast, hb, d1, d2]
    intro r8 hF8 hM8
    have n3 := ne_of_none hM8 g3
    have n5 := ne_of_none hM8 g5
    have nb' := ne_of_blk hb' hF8 hM8
    simp only [setH, Hp.upd_upd, go_sem, reduceIte, Nat.reduceEqDiff, Nat.reduceAdd, q5, n5, b5', hk', hk0, hkl', ea', nb', hb', Int.toNat_natCast, d3, d4]
    intro r9 hF9 hM9
    simp only [upd_none2] at hM9
    have kp9 : Keep M2 ((M2.upd r8 ⟨c.cs, 87, 10⟩).upd r9 ⟨x.cs, 54, 2⟩) := (by repeat' first | exact Keep.refl _ | (refine Keep.new ?_ (by simp only [*])))
    have old9 : Old F ((M2.upd r8 ⟨c.cs, 87, 10⟩).upd r9 ⟨x.cs, 54, 2⟩) := (by repeat' first | assumption | (refine Old.upd ?_ (by assumption)))
    have b8 : blk F ((M2.upd r8 ⟨c.cs, 87, 10⟩).upd r9 ⟨x.cs, 54, 2⟩) r8 = some c.cs := by
      have f8 : ((M2.upd r8 ⟨c.cs, 87, 10⟩).upd r9 ⟨x.cs, 54, 2⟩) r8 = some ⟨c.cs, 87, 10⟩ := by rw [Hp.upd_ne' (by simp [hM9])]; exact Hp.upd_same _ _ _
      exact blk_M (F := F) f8
    have b9 : blk F ((M2.upd r8 ⟨c.cs, 87, 10⟩).upd r9 ⟨x.cs, 54, 2⟩) r9 = some x.cs := blk_M (F := F) (Hp.upd_same _ _ _)
    have b39 := blk_M (F := F) (kp9 _ _ g3)
    have hcr : c.rd F ((M2.upd r8 ⟨c.cs, 87, 10⟩).upd r9 ⟨x.cs, 54, 2⟩) := RdG.keep hci kp9 old9
    have hxr : x.rd F ((M2.upd r8 ⟨c.cs, 87, 10⟩).upd r9 ⟨x.cs, 54, 2⟩) := RdG.keep hbr kp9 old9
    clear hci hbr n3 n5 nb'
    by_cases hst : x.st = 1
    rotate_left
    · simp only [setH, Hp.upd_upd, go_sem, reduceCtorEq, reduceIte, Nat.reduceEqDiff, Nat.reduceAdd, b9, hst, q17, ei]
      refine next (by rw [hsay, decide_eq_false hst]; rfl) _ _ kp9 old9 (by simp only [go_sem, *] <;> rfl)
    simp only [setH, Hp.upd_upd, go_sem, reduceIte, Nat.reduceEqDiff, Nat.reduceAdd, Nat.reduceLeDiff, q3, b8, b9, b39, hst]
    generalize (M2.upd r8 ⟨c.cs, 87, 10⟩).upd r9 ⟨x.cs, 54, 2⟩ = M3 at *
    obtain ⟨n1, n4⟩ := spanK_in hpre.1 hfi.kind
    obtain ⟨n, hn⟩ := Int.eq_ofNat_of_zero_le (by omega : 0 ≤ spanK p.ptr c.pc.k)
    have hn' : spanK p.ptr c.k = n := hn
    obtain ⟨hp0, hpl⟩ := hin hst
    obtain ⟨q, hq⟩ := Int.eq_ofNat_of_zero_le hp0
    have hq' : c.p = q := hq
    rw [hn] at hpl n1 n4
    rw [hq] at hpl
    have hn1 : 0 < n := by omega
    have hq0 : (0 : Int) ≤ q := by omega
    have hxl := hxr.1
    rw [hst, hq', hn', Int.toNat_natCast, Int.toNat_natCast] at hsay
    have hcl := cut_len (l := x.l) (lo := q) (n := n) (by omega)
    have hcut := RdG.cut hxr (lo := q) (n := n) (by omega)
    have ew : IntKind.i64.wrap ((q : Int) + n) = ((q + n : Nat) : Int) := by rw [w64 (by omega) (by omega)]; omega
    have e1 : (0 : Int) ≤ ((q + n : Nat) : Int) := by omega
    have e2 : (q : Int) ≤ ((q + n : Nat) : Int) := by omega
    have e3 : ((q + n : Nat) : Int) ≤ x.l.length := by omega
    have e4 : x.l.length ≤ x.lC := by
      obtain ⟨_, ad, cap, hc, e, _⟩ := hxr
      cases e; exact hc
    have e4' : (x.l.length : Int) ≤ x.lC := by omega
    have e5 : q + n - q = n := by omega
    have hby' : ∀ z ∈ (x.l.drop q).take n, byteB z = true := fun z hz => hby z (List.mem_of_mem_drop (List.mem_of_mem_take hz))
    have hkk : c.k = 0 ∨ c.k = 11 ∨ isS c.k = true := hfi.kind
    have kG := k86 F M3 p.big p.ptr c _ _ ((x.l.drop q).take n) old9 hcr hcut (by rw [hcl]; exact hn1) hby'
    rw [hcl] at kG
    with_reducible refine callK_same (k87 F M3 p.big p.ptr c.k hkk) ?_
    simp only [go_sem, reduceIte, Nat.reduceEqDiff, hn', hq', ew, e2, e3, e4, e5, Int.toNat_natCast, hq0]
    with_reducible refine callK_same kG ?_
    generalize sayV p.big c.pc ((x.l.drop q).take n) = sv at *
    cases sv
    · simp only [go_sem, reduceIte, Nat.reduceEqDiff]
      exact fin _ (hno2 (by rw [hsay]; rfl)) _ (kp.trans kp9)
    · simp only [go_sem, reduceIte, Nat.reduceEqDiff, q17, ei]
      exact next (by rw [hsay]; rfl) _ _ kp9 old9 (by simp only [go_sem, *] <;> rfl)
  have hx : i = e.cells.length := by omega
  have hall : e.pe.cells.all (saysB p s.blocks) = true := by
    rw [List.take_of_length_le (by omega)] at he; exact he
  rw [hall, Bool.true_and] at hR
  simp only [go_sem, reduceIte, Nat.reduceEqDiff, q4, q16, q17, hil, b4']
  clear q17 hil he hx
  refine loop_up e.news.length (holN p e s.blocks F M2) ⟨rfl, rfl, (by simp only [go_sem, *] <;> rfl), rfl⟩ ?_
  rintro k σ3 F' M3 hk hst ⟨rfl, rfl, q54, he3⟩
  have t3 := hst 3 rfl
  have t5 := hst 5 rfl
  have t52 := hst 52 rfl
  have t53 := hst 53 rfl
  simp only [go_sem, Nat.reduceEqDiff, q3, q5] at t3 t5 t52 t53
  clear hst
  by_cases hkl : (k : Int) < e.news.length
  rotate_left
  · have hk' : k = e.news.length := by omega
    rw [hk'] at he3
    simp only [go_sem, reduceIte, t53, q54, hkl]
    exact fin _ (by rw [hR, he3]) _ kp
  have hk0 : (0 : Int) ≤ k := by omega
  have hk1 : k < e.news.length := by omega
  have ek : IntKind.i64.wrap ((k : Int) + 1) = k + 1 := w64 (by omega) (by omega)
  have hj : p.vars.length + 1 + k < s.blocks.length := by omega
  have ew1 : IntKind.i64.wrap (1 + (p.vars.length : Int)) = 1 + p.vars.length := w64 (by omega) (by omega)
  have ew2 : IntKind.i64.wrap (1 + (p.vars.length : Int) + k) = ((p.vars.length + 1 + k : Nat) : Int) := by rw [w64 (by omega) (by omega)]; omega
  have hj0 : (0 : Int) ≤ ((p.vars.length + 1 + k : Nat) : Int) := by omega
  have hjl : ((p.vars.length + 1 + k : Nat) : Int) < s.blocks.length := by omega
  have hnB := newB_at (p := p) (m := s.blocks) hk1 hj rfl
  have hst0 := (hfm.bytes _ hj).2.1
  obtain ⟨b4, o4, cs4, ea4, hb4, e1⟩ := Ax.int_at h2.news hk1
  obtain ⟨b', o', cs', ea', hb', rows⟩ := hs2.blocks.rows (by omega)
  obtain ⟨d3, d4⟩ := rows _ hj
  obtain ⟨d4, _⟩ := Go.Ax.Bl.row d4
  clear rows
  generalize s.blocks[p.vars.length + 1 + k] = x at *
  generalize e.news[k] = y at *
  have hst0' : ¬ x.st < 0 := by omega
  by_cases hz : band .i64 (shrv .i64 y x.st) 1 = 0
  · have hf : newB p s.blocks e.news k = false := by rw [hnB]; simp [hz]
    simp only [go_sem, reduceIte, Nat.reduceEqDiff, t3, t5, t52, t53, q54, hkl, hk0, ea4, Int.toNat_natCast, Nat.add_zero, hb4, e1, b3', b5', ew1, ew2, hj0, hjl, ea', hb', d4, hst0', hz]
    exact fin _ (by rw [hR, range_no hk1 hf]) _ kp
  · have hf : newB p s.blocks e.news k = true := by rw [hnB]; simp [hz]
    simp only [go_sem, reduceIte, Nat.reduceEqDiff, t3, t5, t52, t53, q54, hkl, hk0, ea4, Int.toNat_natCast, Nat.add_zero, hb4, e1, b3', b5', ew1, ew2, hj0, hjl, ea', hb', d4, hst0', hz, ek]
    exact ⟨hk1, rfl, rfl, (by simp only [go_sem, *] <;> rfl), by rw [all_range, he3, hf]; rfl⟩
theorem k17 (p : Pg) (e : En) (s : Ste) (hp : p.rd F) (hold : Old F M) (h : e.rd F M) (hs : s.rd F M) (hc : progC p = true) (hfm : FitM p s.blocks) (hfc : e.no = false → (∀ c ∈ e.cells, FitC p s.blocks c.pc) ∧ e.news.length = p.news.length) :
    CallsA Tryz.prog 17 [p.val, e.val, s.val] F M (Same F M (.bool (inEnv p e.pe s.blocks))) := by
  refine callsA_of hm Tryz.func17 e17 (Nat.le_of_ble_eq_true rfl) ?_
  have hl1 := h.cells.1
  have hl2 := h.news.1
  have hl3 := hs.blocks.1
  have hpre := progC_pre hc
  have hlen := hfm.len
  simp only [c17, go_sem, Nat.reduceAdd]
  intro r3 hF3 hM3
  simp only [go_sem, reduceCtorEq, Nat.reduceEqDiff]
  intro r4 hF4 hM4
  simp only [upd_none2] at hM4
  simp only [go_sem, reduceCtorEq, Nat.reduceEqDiff]
  intro r5 hF5 hM5
  simp only [upd_none2] at hM5
  have kp5 : Keep M (((M.upd r3 ⟨p.cs, 28, 7⟩).upd r4 ⟨e.cs, 38, 3⟩).upd r5 ⟨s.cs, 46, 5⟩) := (by repeat' first | exact Keep.refl _ | (refine Keep.new ?_ (by simp only [*])))
  have old5 : Old F (((M.upd r3 ⟨p.cs, 28, 7⟩).upd r4 ⟨e.cs, 38, 3⟩).upd r5 ⟨s.cs, 46, 5⟩) := (by repeat' first | assumption | (refine Old.upd ?_ (by assumption)))
  have f3 : (((M.upd r3 ⟨p.cs, 28, 7⟩).upd r4 ⟨e.cs, 38, 3⟩).upd r5 ⟨s.cs, 46, 5⟩) r3 = some ⟨p.cs, 28, 7⟩ := by rw [Hp.upd_ne' (by simp [hM5]), Hp.upd_ne' (by simp [hM4])]; exact Hp.upd_same _ _ _
  have f4 : (((M.upd r3 ⟨p.cs, 28, 7⟩).upd r4 ⟨e.cs, 38, 3⟩).upd r5 ⟨s.cs, 46, 5⟩) r4 = some ⟨e.cs, 38, 3⟩ := by rw [Hp.upd_ne' (by simp [hM5])]; exact Hp.upd_same _ _ _
  have f5 : (((M.upd r3 ⟨p.cs, 28, 7⟩).upd r4 ⟨e.cs, 38, 3⟩).upd r5 ⟨s.cs, 46, 5⟩) r5 = some ⟨s.cs, 46, 5⟩ := Hp.upd_same _ _ _
  generalize (((M.upd r3 ⟨p.cs, 28, 7⟩).upd r4 ⟨e.cs, 38, 3⟩).upd r5 ⟨s.cs, 46, 5⟩) = M1 at *
  have h1 := h.keep kp5 old5
  have hs1 := hs.keep kp5 old5
  have b3 := blk_M (F := F) f3
  have b4 := blk_M (F := F) f4
  have b5 := blk_M (F := F) f5
  clear hM3 hM4 hM5 hF3 hF4 hF5 h hs
  have fin : ∀ v : Bool, inEnv p e.pe s.blocks = v → ∀ M', Keep M1 M' → endK F M' (Same F M (.bool (inEnv p e.pe s.blocks))) (.bool v) := fun v h M' k => endK_keep (kp5.trans k) ⟨by rw [h], rfl, rfl⟩
  by_cases hno : e.no = true
  · have hR : inEnv p e.pe s.blocks = false := by
      have : e.pe.no = true := hno
      unfold inEnv; rw [this]; rfl
    simp only [go_sem, Nat.reduceEqDiff, b4, hno]
    exact fin _ hR _ (Keep.refl _)
  have hno' : e.no = false := by simpa using hno
  obtain ⟨hfc, hnl⟩ := hfc hno'
  have hR : inEnv p e.pe s.blocks = (e.pe.cells.all (saysB p s.blocks) && (List.range e.news.length).all (newB p s.blocks e.news)) := by
    have : e.pe.no = false := hno'
    unfold inEnv; rw [this]; rfl
  generalize inEnv p e.pe s.blocks = R at *
  simp only [go_sem, Nat.reduceEqDiff, b4, hno']
  have hpl : e.pe.cells.length = e.cells.length := by simp [En.pe]
  refine loop_up e.cells.length (pinI p e s.blocks F M1) ⟨rfl, Keep.refl _, old5, (by simp only [go_sem, *] <;> rfl), rfl⟩ ?_
  rintro i σ F' M2 hi hst ⟨rfl, kp, old, q7, he⟩
  have q3 := hst 3 rfl
  have q4 := hst 4 rfl
  have q5 := hst 5 rfl
  simp only [go_sem, Nat.reduceEqDiff] at q3 q4 q5
  clear hst
  have g3 := kp _ _ f3
  have g4 := kp _ _ f4
  have g5 := kp _ _ f5
  have b3' := blk_M (F := F) g3
  have b4' := blk_M (F := F) g4
  have b5' := blk_M (F := F) g5
  have h2 := h1.keep kp old
  have hs2 := hs1.keep kp old
  by_cases hil : (i : Int) < e.cells.length
  · have hi0 : (0 : Int) ≤ i := by omega
    have hi1 : i < e.cells.length := by omega
    have ei : IntKind.i64.wrap ((i : Int) + 1) = i + 1 := w64 (by omega) (by omega)
    have hfi := hfc _ (List.getElem_mem hi1)
    have hci := h2.ptrs _ (List.getElem_mem hi1)
    have t1 : e.pe.cells.take (i + 1) = e.pe.cells.take i ++ [(e.cells[i]).pc] := by
      rw [List.take_succ_eq_append_getElem (by omega)]; simp [En.pe]
    have hno2 : saysB p s.blocks (e.cells[i]).pc = false → R = false := fun h => by
      rw [hR]
      have : e.pe.cells.all (saysB p s.blocks) = false := by
        rw [List.all_eq_false]
        exact ⟨(e.cells[i]).pc, by simp only [En.pe]; exact List.mem_map_of_mem (List.getElem_mem hi1), by simp [h]⟩
      rw [this]; rfl
    obtain ⟨b, o, cs, ea, hb, rows⟩ := h2.cells.rows (by omega)
    obtain ⟨d1, d2⟩ := rows i hi1
    clear rows
    generalize e.cells[i] = c at *
    have hblk : 1 ≤ c.b ∧ c.b < s.blocks.length := hfi.block
    have hin : (blAt s.blocks c.b).st = 1 → 0 ≤ c.p ∧ c.p + spanK p.ptr c.k ≤ (blAt s.blocks c.b).l.length := hfi.inside
    have hkk : c.k = 0 ∨ c.k = 11 ∨ isS c.k = true := hfi.kind
    have hby : ∀ x ∈ (blAt s.blocks c.b).l, byteB x = true := by
      obtain ⟨k, hk⟩ := Int.eq_ofNat_of_zero_le (by omega : 0 ≤ c.b)
      have hkl : k < s.blocks.length := by omega
      rw [hk, blAt_get hkl]
      exact (hfm.bytes k hkl).1
    have kS := k46 F M2 p s.blocksA s.blocksC s.blocks c old hpre.1 hci hs2.blocks hs2.bytes (by omega) hin hby hkk
    simp only [go_sem, reduceIte, Nat.reduceEqDiff, q3, q4, q5, q7, b3', b4', b5', hil, hi0, ea, Int.toNat_natCast, hb, d1, d2]
    with_reducible refine callK_same kS ?_
    cases hsv : saysB p s.blocks c.pc
    · simp only [go_sem]
      exact fin _ (hno2 hsv) _ kp
    · simp only [go_sem, reduceIte, Nat.reduceEqDiff, q7, ei]
      exact ⟨hi1, rfl, kp, old, (by simp only [go_sem, *] <;> rfl), by rw [t1, List.all_append, he]; simp [hsv]⟩
  have hx : i = e.cells.length := by omega
  have hall : e.pe.cells.all (saysB p s.blocks) = true := by
    rw [List.take_of_length_le (by omega)] at he; exact he
  rw [hall, Bool.true_and] at hR
  simp only [go_sem, reduceIte, Nat.reduceEqDiff, q4, q7, hil, b4']
  clear q7 hil he hx
  refine loop_up e.news.length (pinN p e s.blocks F M2) ⟨rfl, rfl, (by simp only [go_sem, *] <;> rfl), rfl⟩ ?_
  rintro k σ3 F' M3 hk hst ⟨rfl, rfl, q8, he3⟩
  have t3 := hst 3 rfl
  have t4 := hst 4 rfl
  have t5 := hst 5 rfl
  simp only [go_sem, Nat.reduceEqDiff, q3, q4, q5] at t3 t4 t5
  clear hst
  by_cases hkl : (k : Int) < e.news.length
  rotate_left
  · have hk' : k = e.news.length := by omega
    rw [hk'] at he3
    simp only [go_sem, reduceIte, Nat.reduceEqDiff, t4, b4', q8, hkl]
    exact fin _ (by rw [hR, he3]) _ kp
  have hk0 : (0 : Int) ≤ k := by omega
  have hk1 : k < e.news.length := by omega
  have ek : IntKind.i64.wrap ((k : Int) + 1) = k + 1 := w64 (by omega) (by omega)
  have hj : p.vars.length + 1 + k < s.blocks.length := by omega
  have ew1 : IntKind.i64.wrap ((p.vars.length : Int) + 1) = p.vars.length + 1 := w64 (by omega) (by omega)
  have ew2 : IntKind.i64.wrap ((p.vars.length : Int) + 1 + k) = ((p.vars.length + 1 + k : Nat) : Int) := by rw [w64 (by omega) (by omega)]; omega
  have hj0 : (0 : Int) ≤ ((p.vars.length + 1 + k : Nat) : Int) := by omega
  have hjl : ((p.vars.length + 1 + k : Nat) : Int) < s.blocks.length := by omega
  have hnB := newB_at (p := p) (m := s.blocks) hk1 hj rfl
  have hst0 := (hfm.bytes _ hj).2.1
  obtain ⟨b4, o4, cs4, ea4, hb4, e1⟩ := Ax.int_at h2.news hk1
  obtain ⟨b', o', cs', ea', hb', rows⟩ := hs2.blocks.rows (by omega)
  obtain ⟨d3, d4⟩ := rows _ hj
  obtain ⟨d4, _⟩ := Go.Ax.Bl.row d4
  clear rows
  generalize s.blocks[p.vars.length + 1 + k] = x at *
  generalize e.news[k] = y at *
  have hst0' : ¬ x.st < 0 := by omega
  by_cases hz : band .i64 (shrv .i64 y x.st) 1 = 0
  · have hf : newB p s.blocks e.news k = false := by rw [hnB]; simp [hz]
    simp only [go_sem, reduceIte, Nat.reduceEqDiff, t3, t4, t5, q8, hkl, hk0, ea4, Int.toNat_natCast, Nat.add_zero, hb4, e1, b3', b4', b5', ew1, ew2, hj0, hjl, ea', hb', d4, hst0', hz]
    exact fin _ (by rw [hR, range_no hk1 hf]) _ kp
  · have hf : newB p s.blocks e.news k = true := by rw [hnB]; simp [hz]
    simp only [go_sem, reduceIte, Nat.reduceEqDiff, t3, t4, t5, q8, hkl, hk0, ea4, Int.toNat_natCast, Nat.add_zero, hb4, e1, b3', b4', b5', ew1, ew2, hj0, hjl, ea', hb', d4, hst0', hz, ek]
    exact ⟨hk1, rfl, rfl, (by simp only [go_sem, *] <;> rfl), by rw [all_range, he3, hf]; rfl⟩
theorem k16 (p : Pg) (e : En) (s : Ste) (hp : p.rd F) (hold : Old F M) (h : e.rd F M) (hs : s.rd F M) (hfe : e.cells.length ≤ 100000 ∧ e.news.length ≤ 100000) :
    CallsA Tryz.prog 16 [p.val, e.val, s.val] F M (Same F M (if progC p = true ∧ envB p e.pe = true ∧ stateB p s = true then .tuple #[.bool (inEnv p e.pe s.blocks), .int .i64 0] else .tuple #[.bool false, .int .i64 1])) := by
  refine callsA_of hm Tryz.func16 e16 (Nat.le_of_ble_eq_true rfl) ?_
  simp only [c16, go_sem, Nat.reduceAdd]
  intro r3 hF3 hM3
  simp only [go_sem, reduceCtorEq, Nat.reduceEqDiff]
  intro r4 hF4 hM4
  simp only [upd_none2] at hM4
  simp only [go_sem, reduceCtorEq, Nat.reduceEqDiff]
  intro r5 hF5 hM5
  simp only [upd_none2] at hM5
  have kp5 : Keep M (((M.upd r3 ⟨p.cs, 28, 7⟩).upd r4 ⟨e.cs, 38, 3⟩).upd r5 ⟨s.cs, 46, 5⟩) := (by repeat' first | exact Keep.refl _ | (refine Keep.new ?_ (by simp only [*])))
  have old5 : Old F (((M.upd r3 ⟨p.cs, 28, 7⟩).upd r4 ⟨e.cs, 38, 3⟩).upd r5 ⟨s.cs, 46, 5⟩) := (by repeat' first | assumption | (refine Old.upd ?_ (by assumption)))
  have f3 : (((M.upd r3 ⟨p.cs, 28, 7⟩).upd r4 ⟨e.cs, 38, 3⟩).upd r5 ⟨s.cs, 46, 5⟩) r3 = some ⟨p.cs, 28, 7⟩ := by rw [Hp.upd_ne' (by simp [hM5]), Hp.upd_ne' (by simp [hM4])]; exact Hp.upd_same _ _ _
  have f4 : (((M.upd r3 ⟨p.cs, 28, 7⟩).upd r4 ⟨e.cs, 38, 3⟩).upd r5 ⟨s.cs, 46, 5⟩) r4 = some ⟨e.cs, 38, 3⟩ := by rw [Hp.upd_ne' (by simp [hM5])]; exact Hp.upd_same _ _ _
  have f5 : (((M.upd r3 ⟨p.cs, 28, 7⟩).upd r4 ⟨e.cs, 38, 3⟩).upd r5 ⟨s.cs, 46, 5⟩) r5 = some ⟨s.cs, 46, 5⟩ := Hp.upd_same _ _ _
  generalize (((M.upd r3 ⟨p.cs, 28, 7⟩).upd r4 ⟨e.cs, 38, 3⟩).upd r5 ⟨s.cs, 46, 5⟩) = M1 at *
  have h1 := h.keep kp5 old5
  have hs1 := hs.keep kp5 old5
  have b3 := blk_M (F := F) f3
  have b4 := blk_M (F := F) f4
  have b5 := blk_M (F := F) f5
  clear hM3 hM4 hM5 hF3 hF4 hF5 h hs
  simp only [go_sem, reduceIte, Nat.reduceEqDiff, Nat.reduceAdd, b3, b4]
  intro r10 hF10 hM10
  have f3' := ((Keep.refl M1).new hM10 (e := ⟨e.cs, 38, 3⟩)) _ _ f3
  have f4' := ((Keep.refl M1).new hM10 (e := ⟨e.cs, 38, 3⟩)) _ _ f4
  have f5' := ((Keep.refl M1).new hM10 (e := ⟨e.cs, 38, 3⟩)) _ _ f5
  have b3' := blk_M (F := F) f3'
  have b4' := blk_M (F := F) f4'
  have b5' := blk_M (F := F) f5'
  have kp6 : Keep M1 (M1.upd r10 ⟨e.cs, 38, 3⟩) := (Keep.refl M1).new hM10
  have old6 : Old F (M1.upd r10 ⟨e.cs, 38, 3⟩) := old5.upd hF10
  have f10 : (M1.upd r10 ⟨e.cs, 38, 3⟩) r10 = some ⟨e.cs, 38, 3⟩ := Hp.upd_same _ _ _
  generalize M1.upd r10 ⟨e.cs, 38, 3⟩ = M2 at *
  have b10 := blk_M (F := F) f10
  have h2 := h1.keep kp6 old6
  have hs2 := hs1.keep kp6 old6
  have hlE : RdG 3 En.cs F M2 (.slice (some ⟨r10, 0, none⟩) [e].length 1) [e] := by
    refine ⟨by simp, _, _, Nat.le_refl _, rfl, .inr ⟨r10, 0, e.cs, rfl, b10, ?_⟩⟩
    intro i hi
    have : i = 0 := by simp at hi; omega
    subst this
    exact ⟨by simp [En.cs_len], by simp [En.take_all]⟩
  have kA := k44 F M2 p _ _ [e] hp old6 hlE (fun x hx => by rw [List.mem_singleton.1 hx]; exact h2) (fun x hx => by rw [List.mem_singleton.1 hx]; exact hfe)
  simp only [List.all_cons, List.all_nil, Bool.and_true, List.length_singleton] at kA
  simp only [go_sem, Nat.reduceEqDiff]
  with_reducible refine callK_same kA ?_
  have fin : ∀ v : Value, (if progC p = true ∧ envB p e.pe = true ∧ stateB p s = true then Value.tuple #[.bool (inEnv p e.pe s.blocks), .int .i64 0] else .tuple #[.bool false, .int .i64 1]) = v → ∀ M', Keep M2 M' → endK F M' (Same F M (if progC p = true ∧ envB p e.pe = true ∧ stateB p s = true then .tuple #[.bool (inEnv p e.pe s.blocks), .int .i64 0] else .tuple #[.bool false, .int .i64 1])) v := fun v h M' k => endK_keep (kp5.trans (kp6.trans k)) ⟨h.symm, rfl, rfl⟩
  generalize hRd : (if progC p = true ∧ envB p e.pe = true ∧ stateB p s = true then Value.tuple #[.bool (inEnv p e.pe s.blocks), .int .i64 0] else .tuple #[.bool false, .int .i64 1]) = R at *
  by_cases hpe : progC p = true ∧ envB p e.pe = true
  rotate_left
  · have hf : (progC p && envB p e.pe) = false := by
      cases h1 : progC p
      · rfl
      · cases h2 : envB p e.pe
        · rfl
        · exact absurd ⟨h1, h2⟩ hpe
    rw [if_neg (fun h => hpe ⟨h.1, h.2.1⟩)] at hRd
    simp only [go_sem, reduceIte, Nat.reduceEqDiff, hf]
    exact fin _ hRd.symm _ (Keep.refl _)
  have ht : (progC p && envB p e.pe) = true := by rw [hpe.1, hpe.2]; rfl
  simp only [go_sem, reduceIte, Nat.reduceEqDiff, ht, b3', b5']
  with_reducible refine callK_same (k28 F M2 p s hp old6 hs2) ?_
  cases hsb : stateB p s
  · rw [hsb, if_neg (fun h => by cases h.2.2)] at hRd
    simp only [go_sem, reduceCtorEq, reduceIte, Nat.reduceEqDiff]
    exact fin _ hRd.symm _ (Keep.refl _)
  rw [hsb, if_pos ⟨hpe.1, hpe.2, rfl⟩] at hRd
  have hfm : FitM p s.blocks := FitM.of (by unfold stateB at hsb; simp only [Bool.and_eq_true] at hsb; exact hsb.2)
  have kH := k45 F M2 p e s hp old6 h2 hs2 hpe.1 hfm (fun hn => ⟨fun c hc => FitC.of hfm ((envB_cells hpe.2 hn).1 _ (by simp only [En.pe]; exact List.mem_map_of_mem hc)), (envB_cells hpe.2 hn).2.1⟩)
  simp only [go_sem, reduceCtorEq, reduceIte, Nat.reduceEqDiff, b3', b4', b5']
  with_reducible refine callK_same kH ?_
  simp only [go_sem, Nat.reduceEqDiff]
  exact fin _ hRd.symm _ (Keep.refl _)
end Go.Proofs.Tryz.K
namespace Go.Proofs.Tryz.K
open Go Go.Ax Go.Proofs.Tryz.S
set_option maxRecDepth 100000
set_option linter.unusedSimpArgs false
set_option linter.unusedVariables false
set_option maxHeartbeats 4000000
variable (F : Fz) (M : Hp)
theorem k80 (x y : Cl) (h1 : x.rd F M) (h2 : y.rd F M) :
    CallsA Tryz.prog 80 [x.val, y.val] F M (Same F M (.bool (decide (x.pc = y.pc)))) := by
  refine callsA_of hm Tryz.func80 e80 (Nat.le_of_ble_eq_true rfl) ?_
  have e : ∀ c1 c2 : Pc, decide (c1 = c2) = (decide (c1.b = c2.b) && (decide (c1.p = c2.p) && (decide (c1.k = c2.k) && (decide (c1.v = c2.v) && decide (c1.l = c2.l))))) := fun c1 c2 => by
    rw [Bool.eq_iff_iff]; cases c1; cases c2; simp
  have hR : decide (x.pc = y.pc) = (decide (x.b = y.b) && (decide (x.p = y.p) && (decide (x.k = y.k) && (decide (x.v = y.v) && decide (x.l = y.l))))) := e _ _
  generalize decide (x.pc = y.pc) = R at *
  simp only [c80, go_sem]
  intro r2 hF2 hM2
  simp only [go_sem, reduceCtorEq, Nat.reduceEqDiff]
  intro r3 hF3 hM3
  simp only [upd_none2] at hM3
  have kp3 : Keep M ((M.upd r2 ⟨x.cs, 87, 10⟩).upd r3 ⟨y.cs, 87, 10⟩) := (by repeat' first | exact Keep.refl _ | (refine Keep.new ?_ (by simp only [*])))
  have f2 : ((M.upd r2 ⟨x.cs, 87, 10⟩).upd r3 ⟨y.cs, 87, 10⟩) r2 = some ⟨x.cs, 87, 10⟩ := by rw [Hp.upd_ne' (by simp [hM3])]; exact Hp.upd_same _ _ _
  have f3 : ((M.upd r2 ⟨x.cs, 87, 10⟩).upd r3 ⟨y.cs, 87, 10⟩) r3 = some ⟨y.cs, 87, 10⟩ := Hp.upd_same _ _ _
  have g1 : x.rd F ((M.upd r2 ⟨x.cs, 87, 10⟩).upd r3 ⟨y.cs, 87, 10⟩) := RdG.new (RdG.new h1 hF2 hM2) hF3 (by simp only [upd_none2, not_false_eq_true, and_self, *])
  have g2 : y.rd F ((M.upd r2 ⟨x.cs, 87, 10⟩).upd r3 ⟨y.cs, 87, 10⟩) := RdG.new (RdG.new h2 hF2 hM2) hF3 (by simp only [upd_none2, not_false_eq_true, and_self, *])
  have kE := k72 F ((M.upd r2 ⟨x.cs, 87, 10⟩).upd r3 ⟨y.cs, 87, 10⟩) x.v y.v (.slice x.lA x.l.length x.lC) (.slice y.lA y.l.length y.lC) x.l y.l g1 g2
  have b2 := blk_M (F := F) f2
  have b3 := blk_M (F := F) f3
  generalize ((M.upd r2 ⟨x.cs, 87, 10⟩).upd r3 ⟨y.cs, 87, 10⟩) = M1 at *
  by_cases c1 : x.b = y.b
  rotate_left
  · simp only [go_sem, reduceCtorEq, reduceIte, Nat.reduceEqDiff, b2, b3, c1]
    exact endK_keep kp3 ⟨by rw [hR]; simp [c1], rfl, rfl⟩
  by_cases c2 : x.p = y.p
  rotate_left
  · simp only [go_sem, reduceCtorEq, reduceIte, Nat.reduceEqDiff, b2, b3, c1, c2]
    exact endK_keep kp3 ⟨by rw [hR]; simp [c2], rfl, rfl⟩
  by_cases c3 : x.k = y.k
  rotate_left
  · simp only [go_sem, reduceCtorEq, reduceIte, Nat.reduceEqDiff, b2, b3, c1, c2, c3]
    exact endK_keep kp3 ⟨by rw [hR]; simp [c3], rfl, rfl⟩
  simp only [go_sem, reduceIte, Nat.reduceEqDiff, Nat.reduceAdd, b2, b3, c1, c2, c3]
  with_reducible refine callK_same kE ?_
  simp only [go_sem, reduceIte, Nat.reduceEqDiff]
  exact endK_keep kp3 ⟨by rw [hR]; simp [c1, c2, c3], rfl, rfl⟩
theorem k38 (a1 a2 : Option Addr) (c1 c2 : Nat) (l1 l2 : List Cl) (h1 : RdG 10 Cl.cs F M (.slice a1 l1.length c1) l1) (h2 : RdG 10 Cl.cs F M (.slice a2 l2.length c2) l2) (r1 : ∀ x ∈ l1, x.rd F M) (r2 : ∀ x ∈ l2, x.rd F M) :
    CallsA Tryz.prog 38 [.slice a1 l1.length c1, .slice a2 l2.length c2] F M (Same F M (.bool (decide (l1.map Cl.pc = l2.map Cl.pc)))) := by
  refine callsA_of hm Tryz.func38 e38 (Nat.le_of_ble_eq_true rfl) ?_
  have hm1 := h1.1
  by_cases hlen : (l1.length : Int) = l2.length
  rotate_left
  · simp only [c38, go_sem, reduceCtorEq, reduceIte, Nat.reduceEqDiff, hlen]
    exact endK_same ⟨by rw [decide_eq_false (fun h => hlen (by have := congrArg List.length h; simp at this; omega))], rfl, rfl⟩
  simp only [c38, go_sem, reduceCtorEq, reduceIte, Nat.reduceEqDiff, hlen]
  refine loop_up l1.length (fun i σ F' M' => F = F' ∧ M = M' ∧ Ax.look σ 5 = some (.int .i64 i) ∧ (l1.map Cl.pc).take i = (l2.map Cl.pc).take i) ⟨rfl, rfl, (by simp only [go_sem, *] <;> rfl), by simp⟩ ?_
  rintro i σ F' M' hi hs ⟨rfl, rfl, h5, he⟩
  have s0 := hs 0 rfl
  have s1 := hs 1 rfl
  simp only [go_sem, reduceCtorEq, Nat.reduceEqDiff] at s0 s1
  clear hs
  by_cases hil : (i : Int) < l2.length
  rotate_left
  · have : l1.map Cl.pc = l2.map Cl.pc := by
      rw [List.take_of_length_le (by simp; omega), List.take_of_length_le (by simp; omega)] at he
      exact he
    simp only [go_sem, reduceCtorEq, reduceIte, Nat.reduceEqDiff, s0, h5, hil, hlen]
    exact endK_same ⟨by simp [this], rfl, rfl⟩
  have hi0 : (0 : Int) ≤ i := by omega
  have hi1 : i < l1.length := by omega
  have hi2 : i < l2.length := by omega
  have ei : IntKind.i64.wrap ((i : Int) + 1) = i + 1 := w64 (by omega) (by omega)
  obtain ⟨b, o, cs, rfl, hb, d1, d2⟩ := RdG.at h1 hi1
  obtain ⟨b', o', cs', rfl, hb', d3, d4⟩ := RdG.at h2 hi2
  have t1 : (l1.map Cl.pc).take (i + 1) = (l1.map Cl.pc).take i ++ [(l1[i]).pc] := by rw [List.take_succ_eq_append_getElem (by simpa using hi1)]; simp
  have t2 : (l2.map Cl.pc).take (i + 1) = (l2.map Cl.pc).take i ++ [(l2[i]).pc] := by rw [List.take_succ_eq_append_getElem (by simpa using hi2)]; simp
  have hne : ¬ (l1[i]).pc = (l2[i]).pc → ¬ l1.map Cl.pc = l2.map Cl.pc := fun h e => by
    have := congrArg (fun l => l[i]?) e
    simp only [List.getElem?_map, List.getElem?_eq_getElem hi1, List.getElem?_eq_getElem hi2, Option.map_some, Option.some.injEq] at this
    exact h this
  have x1 := r1 _ (List.getElem_mem hi1)
  have x2 := r2 _ (List.getElem_mem hi2)
  generalize l1[i] = x at *
  generalize l2[i] = y at *
  simp only [go_sem, reduceCtorEq, reduceIte, Nat.reduceEqDiff, s0, s1, h5, hlen, hil, hi0, Int.toNat_natCast, hb, hb', d1, d2, d3, d4]
  with_reducible refine callK_same (k80 F M x y x1 x2) ?_
  by_cases hxy : x.pc = y.pc
  · simp only [go_sem, reduceIte, Nat.reduceEqDiff, hxy, h5, ei]
    exact ⟨hi1, rfl, rfl, (by simp only [go_sem, *] <;> rfl), by rw [t1, t2, he, hxy]⟩
  · simp only [go_sem, hxy]
    exact endK_same ⟨by rw [decide_eq_false (hne hxy)], rfl, rfl⟩
theorem k12 (x y : En) (h1 : x.rd F M) (h2 : y.rd F M) :
    CallsA Tryz.prog 12 [x.val, y.val] F M (Same F M (.bool (decide (x.pe = y.pe)))) := by
  refine callsA_of hm Tryz.func12 e12 (Nat.le_of_ble_eq_true rfl) ?_
  have e : ∀ c1 c2 : Pe, decide (c1 = c2) = (decide (c1.no = c2.no) && (decide (c1.cells = c2.cells) && decide (c1.news = c2.news))) := fun c1 c2 => by
    rw [Bool.eq_iff_iff]; cases c1; cases c2; simp
  have hR : decide (x.pe = y.pe) = (decide (x.no = y.no) && (decide (x.cells.map Cl.pc = y.cells.map Cl.pc) && decide (x.news = y.news))) := e _ _
  generalize decide (x.pe = y.pe) = R at *
  simp only [c12, go_sem]
  intro r2 hF2 hM2
  simp only [go_sem, reduceCtorEq, Nat.reduceEqDiff]
  intro r3 hF3 hM3
  simp only [upd_none2] at hM3
  have kp3 : Keep M ((M.upd r2 ⟨x.cs, 38, 3⟩).upd r3 ⟨y.cs, 38, 3⟩) := (by repeat' first | exact Keep.refl _ | (refine Keep.new ?_ (by simp only [*])))
  have f2 : ((M.upd r2 ⟨x.cs, 38, 3⟩).upd r3 ⟨y.cs, 38, 3⟩) r2 = some ⟨x.cs, 38, 3⟩ := by rw [Hp.upd_ne' (by simp [hM3])]; exact Hp.upd_same _ _ _
  have f3 : ((M.upd r2 ⟨x.cs, 38, 3⟩).upd r3 ⟨y.cs, 38, 3⟩) r3 = some ⟨y.cs, 38, 3⟩ := Hp.upd_same _ _ _
  have g1 : x.rd F ((M.upd r2 ⟨x.cs, 38, 3⟩).upd r3 ⟨y.cs, 38, 3⟩) := (h1.new hF2 hM2).new hF3 (by simp only [upd_none2, not_false_eq_true, and_self, *])
  have g2 : y.rd F ((M.upd r2 ⟨x.cs, 38, 3⟩).upd r3 ⟨y.cs, 38, 3⟩) := (h2.new hF2 hM2).new hF3 (by simp only [upd_none2, not_false_eq_true, and_self, *])
  have b2 := blk_M (F := F) f2
  have b3 := blk_M (F := F) f3
  generalize ((M.upd r2 ⟨x.cs, 38, 3⟩).upd r3 ⟨y.cs, 38, 3⟩) = M1 at *
  have kC := k38 F M1 _ _ _ _ x.cells y.cells g1.cells g2.cells g1.ptrs g2.ptrs
  have kN := k39 F M1 _ _ _ _ x.news y.news g1.news g2.news
  by_cases c1 : x.no = y.no
  rotate_left
  · have c1' : (x.no == y.no) = false := by simpa using c1
    simp only [go_sem, reduceCtorEq, reduceIte, Nat.reduceEqDiff, b2, b3, c1']
    exact endK_keep kp3 ⟨by rw [hR]; simp [c1], rfl, rfl⟩
  have c1' : (x.no == y.no) = true := by simpa using c1
  simp only [go_sem, Nat.reduceEqDiff, b2, b3, c1']
  with_reducible refine callK_same kC ?_
  by_cases c2 : x.cells.map Cl.pc = y.cells.map Cl.pc
  rotate_left
  · simp only [go_sem, reduceCtorEq, reduceIte, Nat.reduceEqDiff, c2]
    exact endK_keep kp3 ⟨by rw [hR]; simp [c2], rfl, rfl⟩
  simp only [go_sem, reduceIte, Nat.reduceEqDiff, b2, b3, c2]
  with_reducible refine callK_same kN ?_
  simp only [go_sem, reduceIte, Nat.reduceEqDiff]
  exact endK_keep kp3 ⟨by rw [hR]; simp [c1, c2], rfl, rfl⟩
def cnI (l : List Int) (F0 : Fz) (M0 : Hp) (i : Nat) (σ : Env) (F : Fz) (M : Hp) : Prop :=
  F0 = F ∧ Keep M0 M ∧ Old F0 M ∧ Ax.look σ 4 = some (.int .i64 i) ∧ ∃ w, Ax.look σ 3 = some w ∧ MineG 1 intC 3 F0 M0 M w (l.take i)
theorem k43 (a : Option Addr) (c : Nat) (l : List Int) (h : intR F M a c l) (hold : Old F M) (hl : l.length ≤ 100000) :
    CallsA Tryz.prog 43 [.slice a l.length c] F M (rowR 1 intC 3 l F M) := by
  refine callsA_of hm Tryz.func43 e43 (Nat.le_of_ble_eq_true rfl) ?_
  simp only [c43, go_sem]
  refine loop_up l.length (cnI l F M) ⟨rfl, Keep.refl _, hold, (by simp only [go_sem, *] <;> rfl), _, (by simp only [go_sem, Nat.reduceEqDiff, *] <;> rfl), by rw [List.take_zero]; exact MineG.nil⟩ ?_
  rintro i σ F' M' hi hst ⟨rfl, kp, old, q4, w, q3, mine⟩
  have q0 := hst 0 rfl
  simp only [go_sem, reduceCtorEq] at q0
  clear hst
  by_cases hil : (i : Int) < l.length
  rotate_left
  · rw [List.take_of_length_le (by omega)] at mine
    simp only [go_sem, reduceCtorEq, reduceIte, Nat.reduceEqDiff, q0, q3, q4, hil]
    exact mine.done kp
  have hi0 : (0 : Int) ≤ i := by omega
  have hi1 : i < l.length := by omega
  have ei : IntKind.i64.wrap ((i : Int) + 1) = i + 1 := w64 (by omega) (by omega)
  obtain ⟨b, o, cs, rfl, hb, d1⟩ := Ax.int_at (h.keep kp old) hi1
  have t1 := List.take_succ_eq_append_getElem hi1
  generalize l[i] = x at *
  simp only [go_sem, reduceCtorEq, reduceIte, Nat.reduceEqDiff, q0, q3, q4, hil, hi0, Int.toNat_natCast, hb, d1]
  intro rb hFb hMb
  simp only [go_sem, Nat.reduceEqDiff]
  refine apMG_of (xs := l.take i) (ys := [x]) intC_len intC_plain (by decide) (mine.fresh hMb) (kp.new (kp.free hMb)) ⟨rfl, .inr ⟨⟨rb, 0, none⟩, 1, rfl, .inr ⟨rb, 0, _, rfl, blk_upd_same, by simp [intC, intV]⟩⟩⟩ (by simp) (by simp; omega) ?_
  rintro v' M2 _ _ kp2 ho2 mine2
  rw [← t1] at mine2
  simp only [go_sem, reduceIte, Nat.reduceEqDiff, q4, ei]
  exact ⟨hi1, rfl, kp2, ho2 (old.upd hFb), (by simp only [go_sem, *] <;> rfl), v', (by simp only [go_sem, Nat.reduceEqDiff, *] <;> rfl), mine2⟩
def cellNew (c : Pc) (F : Fz) (M : Hp) (u : Value) (F' : Fz) (M' : Hp) : Prop := F' = F ∧ Keep M M' ∧ Old F M' ∧ ∃ c' : Cl, u = c'.val ∧ c'.pc = c ∧ OwnG 7 Ba.cs 157 F M' (.slice c'.lA c'.l.length c'.lC) c'.l
theorem cl_set3 {c : Cl} {a : Option Addr} {n : Nat} : c.cs.take 3 ++ abCs c.v (.slice a c.l.length n) = Cl.cs ⟨c.b, c.p, c.k, c.v, a, n, c.l⟩ := rfl
theorem k82 (c : Cl) (h : c.rd F M) (hold : Old F M) (hl : c.l.length ≤ 100000) : CallsA Tryz.prog 82 [c.val] F M (cellNew c.pc F M) := by
  refine callsA_of hm Tryz.func82 e82 (Nat.le_of_ble_eq_true rfl) ?_
  simp only [c82, go_sem]
  intro r1 hF1 hM1
  simp only [go_sem, Nat.reduceAdd]
  intro r2 hF2 hM2
  simp only [upd_none2] at hM2
  simp only [go_sem, reduceIte, Nat.reduceEqDiff, Nat.reduceAdd, hM2]
  intro r3 hF3 hM3
  simp only [upd_none2] at hM3
  simp only [setH, Hp.upd_upd, go_sem, reduceIte, Nat.reduceEqDiff, Nat.reduceAdd, hM2, hM3]
  have kp3 : Keep M (((M.upd r1 ⟨c.cs, 87, 10⟩).upd r2 ⟨[.int .i64 0, .int .i64 0, .int .i64 0, .int .i64 0, .bool false, .int .i64 0, .int .i64 0, .int .i64 0, .int .i64 0, .slice none 0 0], 87, 10⟩).upd r3 ⟨c.cs, 87, 10⟩) := (by repeat' first | exact Keep.refl _ | (refine Keep.new ?_ (by simp only [*])))
  have old3 : Old F (((M.upd r1 ⟨c.cs, 87, 10⟩).upd r2 ⟨[.int .i64 0, .int .i64 0, .int .i64 0, .int .i64 0, .bool false, .int .i64 0, .int .i64 0, .int .i64 0, .int .i64 0, .slice none 0 0], 87, 10⟩).upd r3 ⟨c.cs, 87, 10⟩) := (by repeat' first | assumption | (refine Old.upd ?_ (by assumption)))
  have f3 : (((M.upd r1 ⟨c.cs, 87, 10⟩).upd r2 ⟨[.int .i64 0, .int .i64 0, .int .i64 0, .int .i64 0, .bool false, .int .i64 0, .int .i64 0, .int .i64 0, .int .i64 0, .slice none 0 0], 87, 10⟩).upd r3 ⟨c.cs, 87, 10⟩) r3 = some ⟨c.cs, 87, 10⟩ := Hp.upd_same _ _ _
  have f2 : (((M.upd r1 ⟨c.cs, 87, 10⟩).upd r2 ⟨[.int .i64 0, .int .i64 0, .int .i64 0, .int .i64 0, .bool false, .int .i64 0, .int .i64 0, .int .i64 0, .int .i64 0, .slice none 0 0], 87, 10⟩).upd r3 ⟨c.cs, 87, 10⟩) r2 = some ⟨[.int .i64 0, .int .i64 0, .int .i64 0, .int .i64 0, .bool false, .int .i64 0, .int .i64 0, .int .i64 0, .int .i64 0, .slice none 0 0], 87, 10⟩ := by
    rw [Hp.upd_ne' (by simp [hM3])]; exact Hp.upd_same _ _ _
  have n2 : M r2 = none := hM2.2
  have n3 : M r3 = none := hM3.2.2
  have ne23 : ¬ r2 = r3 := hM3.1.2
  have ne32 : ¬ r3 = r2 := hM3.1.1
  generalize (((M.upd r1 ⟨c.cs, 87, 10⟩).upd r2 ⟨[.int .i64 0, .int .i64 0, .int .i64 0, .int .i64 0, .bool false, .int .i64 0, .int .i64 0, .int .i64 0, .int .i64 0, .slice none 0 0], 87, 10⟩).upd r3 ⟨c.cs, 87, 10⟩) = M3 at *
  have h3 : c.rd F M3 := RdG.keep h kp3 old3
  refine callK_of (k117 F M3 c.v (.slice c.lA c.l.length c.lC) c.l h3 old3 hl) ?_
  rintro u F' M4 ⟨w, rfl, hr⟩
  have hown := hr.own
  obtain ⟨hG, le, kq, oq, a, n, rfl, rdq⟩ := hr.le (f := Ba.cs) (fun x => rfl) (by omega)
  subst hG
  refine ⟨(fun h => by cases h), ?_⟩
  have f3' := kq _ _ f3
  have f2' := kq _ _ f2
  simp only [setH, go_sem, reduceIte, Nat.reduceEqDiff, Nat.reduceAdd, f2', f3', ne23, cl_set3]
  have own5 : OwnG 7 Ba.cs 157 F' ((M4.upd r3 ⟨Cl.cs ⟨c.b, c.p, c.k, c.v, a, n, c.l⟩, 87, 10⟩).upd r2 ⟨Cl.cs ⟨c.b, c.p, c.k, c.v, a, n, c.l⟩, 87, 10⟩) (.slice a c.l.length n) c.l := by
    refine hown.frame (e' := 87) (fun r x hx hne => ?_) (by decide)
    have e3 : ¬ r = r3 := by rintro rfl; rw [f3'] at hx; cases hx; exact hne rfl
    have e2 : ¬ r = r2 := by rintro rfl; rw [f2'] at hx; cases hx; exact hne rfl
    rw [Hp.upd_ne' e2, Hp.upd_ne' e3]; exact hx
  refine endK_same ⟨rfl, ((kp3.trans kq).new n3).new ?_, ((oq old3).upd hF3).upd hF2, ⟨c.b, c.p, c.k, c.v, a, n, c.l⟩, rfl, rfl, own5⟩
  exact n2
theorem own_zero {α : Type} {sz : Nat} {f : α → List Value} {e : TypeId} {F : Fz} {M : Hp} {a : Option Addr} {n c : Nat} {l : List α} (h : OwnG sz f e F M (.slice a n c) l) : a = none → c = 0 := by
  rintro rfl
  rcases h with ⟨h, _⟩ | ⟨g, cap, h, _⟩
  · cases h; rfl
  · cases h
def cellsNew (l : List Pc) (F : Fz) (M : Hp) (u : Value) (F' : Fz) (M' : Hp) : Prop := F' = F ∧ Keep M M' ∧ Old F M' ∧ ∃ a c, ∃ l' : List Cl, u = .slice a l'.length c ∧ l'.map Cl.pc = l ∧ OwnG 10 Cl.cs 87 F M' (.slice a l'.length c) l' ∧ ∀ x ∈ l', OwnG 7 Ba.cs 157 F M' (.slice x.lA x.l.length x.lC) x.l
theorem same_len {l l' : List Cl} (h : l'.map Cl.pc = l.map Cl.pc) (hp : ∀ x ∈ l, x.l.length ≤ 100000) : l'.length = l.length ∧ ∀ x ∈ l', x.l.length ≤ 100000 := by
  refine ⟨by have := congrArg List.length h; simpa using this, fun x hx => ?_⟩
  have : x.pc ∈ l.map Cl.pc := by rw [← h]; exact List.mem_map_of_mem hx
  obtain ⟨y, hy, e⟩ := List.mem_map.1 this
  have e2 : y.l = x.l := congrArg Pc.l e
  rw [← e2]; exact hp y hy
def ccI (l : List Cl) (F0 : Fz) (M0 : Hp) (i : Nat) (σ : Env) (F : Fz) (M : Hp) : Prop :=
  F0 = F ∧ Keep M0 M ∧ Old F0 M ∧ Ax.look σ 4 = some (.int .i64 i) ∧ ∃ w, ∃ l' : List Cl, Ax.look σ 3 = some w ∧ MineG 10 Cl.cs 87 F0 M0 M w l' ∧ l'.map Cl.pc = (l.take i).map Cl.pc ∧ ∀ x ∈ l', OwnG 7 Ba.cs 157 F0 M (.slice x.lA x.l.length x.lC) x.l
theorem k42 (a : Option Addr) (c : Nat) (l : List Cl) (h : RdG 10 Cl.cs F M (.slice a l.length c) l) (hr : ∀ x ∈ l, x.rd F M) (hold : Old F M) (hl : l.length ≤ 100000) (hp : ∀ x ∈ l, x.l.length ≤ 100000) :
    CallsA Tryz.prog 42 [.slice a l.length c] F M (cellsNew (l.map Cl.pc) F M) := by
  refine callsA_of hm Tryz.func42 e42 (Nat.le_of_ble_eq_true rfl) ?_
  simp only [c42, go_sem]
  refine loop_up l.length (ccI l F M) ⟨rfl, Keep.refl _, hold, (by simp only [go_sem, *] <;> rfl), _, [], (by simp only [go_sem, Nat.reduceEqDiff, *] <;> rfl), MineG.nil, rfl, fun x hx => by cases hx⟩ ?_
  rintro i σ F' M' hi hst ⟨rfl, kp, old, q4, w, l', q3, mine, hpc, hown⟩
  have q0 := hst 0 rfl
  simp only [go_sem, reduceCtorEq] at q0
  clear hst
  have hll : l'.length = i := by have := congrArg List.length hpc; simp at this; omega
  by_cases hil : (i : Int) < l.length
  rotate_left
  · rw [List.take_of_length_le (by omega)] at hpc
    obtain ⟨a', c', rfl⟩ := mine.shape
    simp only [go_sem, reduceCtorEq, reduceIte, Nat.reduceEqDiff, q0, q3, q4, hil]
    exact endK_same ⟨rfl, kp, old, a', c', l', rfl, hpc, mine.own, hown⟩
  have hi0 : (0 : Int) ≤ i := by omega
  have hi1 : i < l.length := by omega
  have ei : IntKind.i64.wrap ((i : Int) + 1) = i + 1 := w64 (by omega) (by omega)
  obtain ⟨b, o, cs, rfl, hb, rows⟩ := (h.keep kp old).rows (by omega)
  obtain ⟨d1, d2⟩ := rows i hi1
  clear rows
  have t1 := List.take_succ_eq_append_getElem hi1
  have hx := hr _ (List.getElem_mem hi1)
  have hxl := hp _ (List.getElem_mem hi1)
  generalize l[i] = x at *
  simp only [go_sem, reduceCtorEq, reduceIte, Nat.reduceEqDiff, q0, q3, q4, hil, hi0, Int.toNat_natCast, hb, d1, d2]
  have hx' : x.rd F M' := RdG.keep hx kp old
  with_reducible refine callK_of (k82 F M' x hx' old hxl) ?_
  rintro u F' M1 ⟨rfl, kp1, old1, c', rfl, hc', own'⟩
  refine ⟨(fun h => by cases h), ?_⟩
  simp only [go_sem, reduceIte, Nat.reduceAdd]
  intro rb hFb hMb
  simp only [go_sem, Nat.reduceEqDiff]
  have kp2 : Keep M' (M1.upd rb ⟨c'.cs, 87, 10⟩) := kp1.new (kp1.free hMb)
  have hown2 : ∀ y ∈ l' ++ [c'], OwnG 7 Ba.cs 157 F' (M1.upd rb ⟨c'.cs, 87, 10⟩) (.slice y.lA y.l.length y.lC) y.l := fun y hy => by
    rcases List.mem_append.1 hy with hy | hy
    · exact (hown y hy).keep kp2
    · rw [List.mem_singleton.1 hy]; exact own'.new hMb
  refine apMG_of (xs := l') (ys := [c']) Cl.len Cl.plain (by decide) ((mine.keep kp1).fresh hMb) (kp.trans kp2) ⟨rfl, .inr ⟨⟨rb, 0, none⟩, 1, rfl, .inr ⟨rb, 0, _, rfl, blk_upd_same, by simp [Cl.take_all]⟩⟩⟩ (by simp) (by simp; omega) ?_
  rintro v' M2 _ hfr kp3 ho3 mine3
  simp only [go_sem, reduceIte, Nat.reduceEqDiff, q4, ei]
  exact ⟨hi1, rfl, kp3, ho3 (old1.upd hFb), (by simp only [go_sem, *] <;> rfl), v', l' ++ [c'], (by simp only [go_sem, Nat.reduceEqDiff, *] <;> rfl), mine3, by rw [t1, List.map_append, List.map_append, hpc]; simp [hc'], fun y hy => (hown2 y hy).frame hfr (by decide)⟩
def envNew (e : Pe) (F : Fz) (M : Hp) (u : Value) (F' : Fz) (M' : Hp) : Prop := F' = F ∧ Keep M M' ∧ Old F M' ∧ ∃ e' : En, u = e'.val ∧ e'.pe = e ∧ e'.rd F M'
theorem k14 (e : En) (h : e.rd F M) (hold : Old F M) (hl : e.cells.length ≤ 100000 ∧ e.news.length ≤ 100000) (hp : ∀ x ∈ e.cells, x.l.length ≤ 100000) :
    CallsA Tryz.prog 14 [e.val] F M (envNew e.pe F M) := by
  refine callsA_of hm Tryz.func14 e14 (Nat.le_of_ble_eq_true rfl) ?_
  simp only [c14, go_sem]
  intro r1 hF1 hM1
  simp only [go_sem, Nat.reduceAdd]
  intro r2 hF2 hM2
  simp only [upd_none2] at hM2
  simp only [go_sem, reduceIte, Nat.reduceEqDiff, Nat.reduceAdd, hM2]
  intro r3 hF3 hM3
  simp only [upd_none2] at hM3
  simp only [setH, Hp.upd_upd, go_sem, Nat.reduceEqDiff, Nat.reduceAdd, hM2, hM3]
  have kp3 : Keep M (((M.upd r1 ⟨e.cs, 38, 3⟩).upd r2 ⟨[.bool false, .slice none 0 0, .slice none 0 0], 38, 3⟩).upd r3 ⟨e.cs, 38, 3⟩) := (by repeat' first | exact Keep.refl _ | (refine Keep.new ?_ (by simp only [*])))
  have old3 : Old F (((M.upd r1 ⟨e.cs, 38, 3⟩).upd r2 ⟨[.bool false, .slice none 0 0, .slice none 0 0], 38, 3⟩).upd r3 ⟨e.cs, 38, 3⟩) := (by repeat' first | assumption | (refine Old.upd ?_ (by assumption)))
  have f3 : (((M.upd r1 ⟨e.cs, 38, 3⟩).upd r2 ⟨[.bool false, .slice none 0 0, .slice none 0 0], 38, 3⟩).upd r3 ⟨e.cs, 38, 3⟩) r3 = some ⟨e.cs, 38, 3⟩ := Hp.upd_same _ _ _
  have f2 : (((M.upd r1 ⟨e.cs, 38, 3⟩).upd r2 ⟨[.bool false, .slice none 0 0, .slice none 0 0], 38, 3⟩).upd r3 ⟨e.cs, 38, 3⟩) r2 = some ⟨[.bool false, .slice none 0 0, .slice none 0 0], 38, 3⟩ := by
    rw [Hp.upd_ne' (by simp [hM3])]; exact Hp.upd_same _ _ _
  have f1 : (((M.upd r1 ⟨e.cs, 38, 3⟩).upd r2 ⟨[.bool false, .slice none 0 0, .slice none 0 0], 38, 3⟩).upd r3 ⟨e.cs, 38, 3⟩) r1 = some ⟨e.cs, 38, 3⟩ := by
    rw [Hp.upd_ne' (by simp [hM3]), Hp.upd_ne' (by simp [hM2])]; exact Hp.upd_same _ _ _
  have n2 : M r2 = none := hM2.2
  have n3 : M r3 = none := hM3.2.2
  have ne23 : ¬ r2 = r3 := hM3.1.2
  have ne32 : ¬ r3 = r2 := hM3.1.1
  have ne13 : ¬ r1 = r3 := hM3.2.1.2
  have ne31 : ¬ r3 = r1 := hM3.2.1.1
  generalize (((M.upd r1 ⟨e.cs, 38, 3⟩).upd r2 ⟨[.bool false, .slice none 0 0, .slice none 0 0], 38, 3⟩).upd r3 ⟨e.cs, 38, 3⟩) = M3 at *
  have h3 := h.keep kp3 old3
  with_reducible refine callK_of (k42 F M3 _ _ e.cells h3.cells h3.ptrs old3 hl.1 hp) ?_
  rintro u F' M4 ⟨rfl, kp4, old4, a, c, l', rfl, hpc, own, owns⟩
  refine ⟨(fun h => by cases h), ?_⟩
  obtain ⟨hll, hlp⟩ := same_len hpc hp
  have g1 := kp4 _ _ f1
  have g2 := kp4 _ _ f2
  have g3 := kp4 _ _ f3
  have b1 := blk_M (F := F') g1
  clear h3 hM2 hM3 f1 f2 f3
  simp only [setH, go_sem, Nat.reduceEqDiff, Nat.reduceAdd, Nat.reduceLeDiff, g3, b1, ne13]
  have eX : List.take 1 e.cs ++ [Value.slice a l'.length c] ++ List.drop 2 e.cs = [.bool e.no, .slice a l'.length c, .slice e.newsA e.news.length e.newsC] := rfl
  rw [eX]
  have kp5 : Keep M (M4.upd r3 ⟨[.bool e.no, .slice a l'.length c, .slice e.newsA e.news.length e.newsC], 38, 3⟩) := (kp3.trans kp4).new n3
  have old5 : Old F' (M4.upd r3 ⟨[.bool e.no, .slice a l'.length c, .slice e.newsA e.news.length e.newsC], 38, 3⟩) := old4.upd hF3
  have f3 : (M4.upd r3 ⟨[.bool e.no, .slice a l'.length c, .slice e.newsA e.news.length e.newsC], 38, 3⟩) r3 = some ⟨[.bool e.no, .slice a l'.length c, .slice e.newsA e.news.length e.newsC], 38, 3⟩ := Hp.upd_same _ _ _
  have f2 : (M4.upd r3 ⟨[.bool e.no, .slice a l'.length c, .slice e.newsA e.news.length e.newsC], 38, 3⟩) r2 = some ⟨[.bool false, .slice none 0 0, .slice none 0 0], 38, 3⟩ := by rw [Hp.upd_ne' ne23]; exact g2
  have fr5 : ∀ r x, M4 r = some x → ¬ x.elem = 38 → (M4.upd r3 ⟨[.bool e.no, .slice a l'.length c, .slice e.newsA e.news.length e.newsC], 38, 3⟩) r = some x := fun r x hx hne => by
    have : ¬ r = r3 := by rintro rfl; rw [g3] at hx; cases hx; exact hne rfl
    rw [Hp.upd_ne' this]; exact hx
  have own5 := own.frame fr5 (by decide)
  have owns5 := fun x hx => (owns x hx).frame fr5 (by decide)
  generalize M4.upd r3 ⟨[.bool e.no, .slice a l'.length c, .slice e.newsA e.news.length e.newsC], 38, 3⟩ = M5 at *
  have h5 := h.keep kp5 old5
  with_reducible refine callK_of (k43 F' M5 _ _ e.news h5.news old5 hl.2) ?_
  rintro u F' M6 hr
  have ownN := hr.own
  obtain ⟨hG, le, kq, oq, a2, n2', rfl, rdq⟩ := hr.le (f := intC) intC_len (by omega)
  subst hG
  refine ⟨(fun h => by cases h), ?_⟩
  have f3' := kq _ _ f3
  have f2' := kq _ _ f2
  have own6 := own5.keep kq
  have owns6 := fun x hx => (owns5 x hx).keep kq
  simp only [setH, go_sem, reduceIte, Nat.reduceEqDiff, Nat.reduceAdd, f2', f3', ne23]
  have fr7 : ∀ r x, M6 r = some x → ¬ x.elem = 38 → ((M6.upd r3 ⟨[.bool e.no, .slice a l'.length c, .slice a2 e.news.length n2'], 38, 3⟩).upd r2 ⟨[.bool e.no, .slice a l'.length c, .slice a2 e.news.length n2'], 38, 3⟩) r = some x := fun r x hx hne => by
    have e3 : ¬ r = r3 := by rintro rfl; rw [f3'] at hx; cases hx; exact hne rfl
    have e2 : ¬ r = r2 := by rintro rfl; rw [f2'] at hx; cases hx; exact hne rfl
    rw [Hp.upd_ne' e2, Hp.upd_ne' e3]; exact hx
  have own7 := own6.frame fr7 (by decide)
  have owns7 := fun x hx => (owns6 x hx).frame fr7 (by decide)
  have ownN7 := ownN.frame fr7 (by decide)
  refine endK_same ⟨rfl, ((kp5.trans kq).new n3).new ?_, ((oq old5).upd hF3).upd hF2, ⟨e.no, a, c, l', a2, n2', e.news⟩, rfl, ?_, ⟨own7.rd Cl.len (by show l'.length ≤ _; omega), fun x hx => (owns7 x hx).rd (fun x => rfl) (by have := hlp x hx; omega), ownN7.rd intC_len (by show e.news.length ≤ _; omega), own_zero own7, own_zero ownN7, fun x hx => own_zero (owns7 x hx)⟩⟩
  · exact n2
  · simp only [En.pe, hpc]
end Go.Proofs.Tryz.K
namespace Go.Ax
open Go
set_option linter.unusedVariables false
set_option linter.unusedSimpArgs false
def Ask16.val (q : Ask16) : Value := .agg q.cs.toArray
@[go_sem] theorem Ask16.fold2 {q : Ask16} : Value.agg q.cs.toArray = q.val := rfl
@[go_sem] theorem Ask16.cells_m {q : Ask16} : Value.cells.match_1 (fun _ => Array Value) q.val (fun cs => cs) (fun u => #[u]) = q.cs.toArray := rfl
@[go_sem] theorem Ask16.cells_val {q : Ask16} : q.val.cells = q.cs.toArray := rfl
@[go_sem] theorem Ask16.cs_size {q : Ask16} : q.cs.toArray.size = 10 := rfl
@[go_sem] theorem Ask16.cs_len {q : Ask16} : q.cs.length = 10 := rfl
@[go_sem] theorem Ask16.cs_plain {q : Ask16} : plainCells q.cs = True := by
  apply eq_true
  intro u hu
  simp only [Ask16.cs, Pg.cs, List.mem_append, List.mem_cons, List.not_mem_nil, or_false] at hu
  rcases hu with (rfl | rfl | rfl | rfl | rfl | rfl | rfl) | rfl | rfl | rfl <;> rfl
@[go_sem] theorem Ask16.take_all {q : Ask16} : q.cs.take 10 = q.cs := rfl
@[go_sem] theorem Ask16.take0 {q : Ask16} : q.cs.take 0 = [] := rfl
@[go_sem] theorem Ask16.drop_all {q : Ask16} : q.cs.drop 10 = [] := rfl
@[go_sem] theorem Ask16.ld {q : Ask16} : rd true 10 q.cs 0 = some q.val := rfl
@[go_sem] theorem Ask16.ldp {q : Ask16} : rd true 7 q.cs 0 = some q.p.val := rfl
@[go_sem] theorem Ask16.get2 {q : Ask16} : q.cs[2]? = some (.slice q.p.vA q.p.vars.length q.p.vC) := rfl
@[go_sem] theorem Ask16.get7 {q : Ask16} : q.cs[7]? = some (.slice q.sA q.s.length q.sC) := rfl
@[go_sem] theorem Ask16.ld7 {q : Ask16} : rd false 1 q.cs 7 = some (.slice q.sA q.s.length q.sC) := rfl
@[go_sem] theorem Ask16.get8 {q : Ask16} : q.cs[8]? = some (.slice q.eA q.e.length q.eC) := rfl
@[go_sem] theorem Ask16.ld8 {q : Ask16} : rd false 1 q.cs 8 = some (.slice q.eA q.e.length q.eC) := rfl
@[go_sem] theorem Ask16.get9 {q : Ask16} : q.cs[9]? = some (.slice q.xA q.x.length q.xC) := rfl
@[go_sem] theorem Ask16.ld9 {q : Ask16} : rd false 1 q.cs 9 = some (.slice q.xA q.x.length q.xC) := rfl
@[go_sem] theorem Ask16.ld2 {q : Ask16} : rd false 1 q.cs 2 = some (.slice q.p.vA q.p.vars.length q.p.vC) := rfl
def Pg.few (p : Pg) : Prop := p.vars.length ≤ 2500 ∧ p.news.length ≤ 2500 ∧ p.exprs.length ≤ 2500 ∧ p.stmts.length ≤ 2500 ∧ p.main.length ≤ 2500 ∧ ∀ s ∈ p.stmts, s.body.length ≤ 2500 ∧ s.els.length ≤ 2500
def Ste.few (s : Ste) : Prop := s.blocks.length ≤ 2500 ∧ s.next.length ≤ 2500 ∧ ∀ b ∈ s.blocks, b.l.length ≤ 2500
def En.few (e : En) : Prop := e.cells.length ≤ 2500 ∧ e.news.length ≤ 2500 ∧ ∀ c ∈ e.cells, c.l.length ≤ 2500
def Ask16.few (q : Ask16) : Prop := q.p.few ∧ (∀ s ∈ q.s, s.few) ∧ (∀ e ∈ q.e, e.few) ∧ ∀ x ∈ q.x, x.n ≤ 2500
def wtR (P : Prop) (F : Fz) (M : Hp) (v : Value) (F' : Fz) (M' : Hp) : Prop := F' = F ∧ M' = M ∧ ∃ n : Int, v = .int .i64 n ∧ 0 ≤ n ∧ n ≤ 1125899906842624 ∧ (n ≤ 2500 → P)
theorem inBlock_st {P : Program} {c : SC} {Q : Post} {σ : Env} {F : Fz} {M : Hp} {i : Nat} (I : Env → Fz → Hp → Prop) (h : W P c (Post.inBlock i (cutQ (At I) Q)) σ F M) (hn : ∀ σ' F' M', Stay c.defs σ σ' → I σ' F' M' → Q .n σ' F' M') : W P c (Post.inBlock i Q) σ F M := block_st (i := i) I h hn
end Go.Ax
namespace Go.Proofs.Tryz.K
open Go Go.Ax Go.Proofs.Tryz.S
set_option maxRecDepth 100000
set_option linter.unusedSimpArgs false
set_option linter.unusedVariables false
set_option maxHeartbeats 4000000
variable (F : Fz) (M : Hp)
theorem k9 (n : Int) : CallsA Tryz.prog 9 [.int .i64 n] F M (Same F M (.int .i64 n)) := by
  refine callsA_of hm Tryz.func9 e9 (Nat.le_of_ble_eq_true rfl) ?_
  simp only [c9, go_sem, reduceCtorEq]
  exact endK_same ⟨rfl, rfl, rfl⟩
def wtI (v w : Nat) (P : Nat → Prop) (F0 : Fz) (M0 : Hp) (i : Nat) (σ : Env) (F : Fz) (M : Hp) : Prop :=
  F0 = F ∧ M0 = M ∧ Ax.look σ v = some (.int .i64 i) ∧ ∃ n : Int, Ax.look σ w = some (.int .i64 n) ∧ 0 ≤ n ∧ n ≤ 1125899906842624 ∧ (n ≤ 2500 → P i)
theorem k47 (a : Option Addr) (c : Nat) (l : List Bl) (h : RdG 2 Bl.cs F M (.slice a l.length c) l) (hl : l.length ≤ 140737488351232) (hb : ∀ b ∈ l, b.l.length ≤ 140737488351232) :
    CallsA Tryz.prog 47 [.slice a l.length c] F M (fun v F' M' => F' = F ∧ M' = M ∧ ∃ n : Int, v = .int .i64 n ∧ 0 ≤ n ∧ n ≤ 562949953421312 ∧ (n ≤ 2500 → l.length ≤ 2500 ∧ ∀ b ∈ l, b.l.length ≤ 2500)) := by
  refine callsA_of hm Tryz.func47 e47 (Nat.le_of_ble_eq_true rfl) ?_
  simp only [c47, go_sem, reduceCtorEq]
  refine loop_up l.length (fun i σ F' M' => F = F' ∧ M = M' ∧ Ax.look σ 4 = some (.int .i64 i) ∧ ∃ n : Int, Ax.look σ 3 = some (.int .i64 n) ∧ 0 ≤ n ∧ n ≤ 562949953421312 ∧ (n ≤ 2500 → l.length ≤ 2500 ∧ ∀ b ∈ l.take i, b.l.length ≤ 2500)) ⟨rfl, rfl, (by simp only [go_sem, *] <;> rfl), l.length, (by simp only [go_sem, Nat.reduceEqDiff, *] <;> rfl), by omega, by omega, fun h => ⟨by omega, fun b hb => by simp at hb⟩⟩ ?_
  rintro i σ F' M' hi hst ⟨rfl, rfl, q4, n, q3, n0, n1, hP⟩
  have q0 := hst 0 rfl
  simp only [go_sem, reduceCtorEq] at q0
  clear hst
  by_cases hil : (i : Int) < l.length
  rotate_left
  · rw [List.take_of_length_le (by omega)] at hP
    simp only [go_sem, reduceCtorEq, reduceIte, Nat.reduceEqDiff, q0, q3, q4, hil]
    exact endK_same ⟨rfl, rfl, n, rfl, n0, n1, hP⟩
  by_cases hn : n < 1048576
  rotate_left
  · simp only [go_sem, reduceCtorEq, reduceIte, Nat.reduceEqDiff, q0, q3, q4, hil, hn]
    exact endK_same ⟨rfl, rfl, n, rfl, n0, n1, fun h => by omega⟩
  have hi0 : (0 : Int) ≤ i := by omega
  have hi1 : i < l.length := by omega
  have ei : IntKind.i64.wrap ((i : Int) + 1) = i + 1 := w64 (by omega) (by omega)
  obtain ⟨b, o, cs, rfl, hbk, rows⟩ := h.rows (by omega)
  obtain ⟨d1, d2⟩ := rows i hi1
  obtain ⟨_, d2⟩ := Go.Ax.Bl.row d2
  clear rows
  have hx := hb _ (List.getElem_mem hi1)
  have t1 := List.take_succ_eq_append_getElem hi1
  rw [show (i + 1) = (i + 1) from rfl] at t1
  generalize l[i] = x at *
  have en : IntKind.i64.wrap (n + (x.l.length : Int)) = n + x.l.length := w64 (by omega) (by omega)
  simp only [go_sem, reduceCtorEq, reduceIte, Nat.reduceEqDiff, q0, q3, q4, hil, hn, hi0, Int.toNat_natCast, hbk, d2, ei, en]
  refine ⟨hi1, rfl, rfl, (by simp only [go_sem, *] <;> rfl), n + x.l.length, (by simp only [go_sem, Nat.reduceEqDiff, *] <;> rfl), by omega, by omega, fun h => ⟨(hP (by omega)).1, fun y hy => ?_⟩⟩
  rw [t1] at hy
  rcases List.mem_append.1 hy with hy | hy
  · exact (hP (by omega)).2 y hy
  · rw [List.mem_singleton.1 hy]; omega
theorem k19 (s : Ste) (h : s.rd F M) (hl : s.blocks.length ≤ 140737488351232 ∧ s.next.length ≤ 140737488351232) (hb : ∀ b ∈ s.blocks, b.l.length ≤ 140737488351232) :
    CallsA Tryz.prog 19 [s.val] F M (wtR s.few F M) := by
  refine callsA_of hm Tryz.func19 e19 (Nat.le_of_ble_eq_true rfl) ?_
  simp only [c19, go_sem]
  intro r1 hF1 hM1
  simp only [go_sem, Nat.reduceEqDiff]
  refine callK_of (k47 F _ _ _ s.blocks (h.new hF1 hM1).blocks hl.1 hb) ?_
  rintro u F' M' ⟨rfl, rfl, n, rfl, n0, n1, hP⟩
  refine ⟨fun _ => Le.refl _ _, ?_⟩
  have en : IntKind.i64.wrap (n + (s.next.length : Int)) = n + s.next.length := w64 (by omega) (by omega)
  simp only [go_sem, reduceIte, Nat.reduceEqDiff, en]
  exact endK_drop hM1 (endK_same ⟨rfl, rfl, _, rfl, by omega, by omega, fun h => ⟨(hP (by omega)).1, by omega, (hP (by omega)).2⟩⟩)
theorem k20 (e : En) (h : e.rd F M) (hl : e.cells.length ≤ 140737488351232 ∧ e.news.length ≤ 140737488351232) (hb : ∀ c ∈ e.cells, c.l.length ≤ 140737488351232) :
    CallsA Tryz.prog 20 [e.val] F M (wtR e.few F M) := by
  refine callsA_of hm Tryz.func20 e20 (Nat.le_of_ble_eq_true rfl) ?_
  have e0 : IntKind.i64.wrap ((e.cells.length : Int) + e.news.length) = e.cells.length + e.news.length := w64 (by omega) (by omega)
  simp only [c20, go_sem]
  intro r1 hF1 hM1
  have h1 : e.rd F (M.upd r1 ⟨e.cs, 38, 3⟩) := h.new hF1 hM1
  have f1 : (M.upd r1 ⟨e.cs, 38, 3⟩) r1 = some ⟨e.cs, 38, 3⟩ := Hp.upd_same _ _ _
  have kp1 : Keep M (M.upd r1 ⟨e.cs, 38, 3⟩) := (by repeat' first | exact Keep.refl _ | (refine Keep.new ?_ (by simp only [*])))
  generalize M.upd r1 ⟨e.cs, 38, 3⟩ = M1 at *
  have b1 := blk_M (F := F) f1
  simp only [go_sem, reduceIte, Nat.reduceEqDiff, b1, e0]
  refine loop_up e.cells.length (wtI 4 3 (fun i => e.cells.length ≤ 2500 ∧ e.news.length ≤ 2500 ∧ ∀ c ∈ e.cells.take i, c.l.length ≤ 2500) F M1) ⟨rfl, rfl, (by simp only [go_sem, *] <;> rfl), _, (by simp only [go_sem, Nat.reduceEqDiff, *] <;> rfl), by omega, by omega, fun h => ⟨by omega, by omega, fun b hb => by simp at hb⟩⟩ ?_
  rintro i σ F' M' hi hst ⟨rfl, rfl, q4, n, q3, n0, n1, hP⟩
  have q1 := hst 1 rfl
  simp only [go_sem, Nat.reduceEqDiff] at q1
  clear hst
  have hP : n ≤ 2500 → e.cells.length ≤ 2500 ∧ e.news.length ≤ 2500 ∧ ∀ c ∈ e.cells.take i, c.l.length ≤ 2500 := hP
  by_cases hil : (i : Int) < e.cells.length
  rotate_left
  · rw [List.take_of_length_le (by omega)] at hP
    simp only [go_sem, reduceCtorEq, reduceIte, Nat.reduceEqDiff, q1, q3, q4, b1, hil]
    exact endK_keep kp1 ⟨rfl, rfl, n, rfl, n0, n1, hP⟩
  by_cases hn : n < 1048576
  rotate_left
  · simp only [go_sem, reduceIte, Nat.reduceEqDiff, q1, q3, q4, b1, hil, hn]
    exact endK_keep kp1 ⟨rfl, rfl, n, rfl, n0, n1, fun h => by omega⟩
  have hi0 : (0 : Int) ≤ i := by omega
  have hi1 : i < e.cells.length := by omega
  have ei : IntKind.i64.wrap ((i : Int) + 1) = i + 1 := w64 (by omega) (by omega)
  obtain ⟨b, o, cs, ea, hbk, rows⟩ := h1.cells.rows (by omega)
  obtain ⟨d1, d2⟩ := rows i hi1
  obtain ⟨_, _, _, _, _, _, _, _, _, d2⟩ := Go.Ax.Cl.row d2
  have d2' : cs[o + i * 10 + 3 + 6]? = some (.slice (e.cells[i]).lA (e.cells[i]).l.length (e.cells[i]).lC) := d2
  clear rows
  have hx := hb _ (List.getElem_mem hi1)
  have t1 := List.take_succ_eq_append_getElem hi1
  generalize e.cells[i] = x at *
  have en : IntKind.i64.wrap (n + (x.l.length : Int)) = n + x.l.length := w64 (by omega) (by omega)
  simp only [go_sem, reduceIte, Nat.reduceEqDiff, q1, q3, q4, b1, hil, hn, hi0, ea, Int.toNat_natCast, hbk, d2', ei, en]
  refine ⟨hi1, rfl, rfl, (by simp only [go_sem, *] <;> rfl), n + x.l.length, (by simp only [go_sem, Nat.reduceEqDiff, *] <;> rfl), by omega, by omega, fun h => ⟨(hP (by omega)).1, (hP (by omega)).2.1, fun y hy => ?_⟩⟩
  rw [t1] at hy
  rcases List.mem_append.1 hy with hy | hy
  · exact (hP (by omega)).2.2 y hy
  · rw [List.mem_singleton.1 hy]; omega
theorem k18 (p : Pg) (h : p.inB F) (hold : Old F M) :
    CallsA Tryz.prog 18 [p.val] F M (wtR p.few F M) := by
  refine callsA_of hm Tryz.func18 e18 (Nat.le_of_ble_eq_true rfl) ?_
  obtain ⟨m1, m2, m3, m4, m5, m6⟩ := h.many
  have e1 : IntKind.i64.wrap ((p.vars.length : Int) + p.news.length) = p.vars.length + p.news.length := w64 (by omega) (by omega)
  have e2 : IntKind.i64.wrap ((p.vars.length : Int) + p.news.length + p.exprs.length) = p.vars.length + p.news.length + p.exprs.length := w64 (by omega) (by omega)
  have e3 : IntKind.i64.wrap ((p.vars.length : Int) + p.news.length + p.exprs.length + p.stmts.length) = p.vars.length + p.news.length + p.exprs.length + p.stmts.length := w64 (by omega) (by omega)
  have e4 : IntKind.i64.wrap ((p.vars.length : Int) + p.news.length + p.exprs.length + p.stmts.length + p.main.length) = p.vars.length + p.news.length + p.exprs.length + p.stmts.length + p.main.length := w64 (by omega) (by omega)
  simp only [c18, go_sem]
  intro r1 hF1 hM1
  have f1 : (M.upd r1 ⟨p.cs, 28, 7⟩) r1 = some ⟨p.cs, 28, 7⟩ := Hp.upd_same _ _ _
  have kp1 : Keep M (M.upd r1 ⟨p.cs, 28, 7⟩) := (by repeat' first | exact Keep.refl _ | (refine Keep.new ?_ (by simp only [*])))
  have old1 : Old F (M.upd r1 ⟨p.cs, 28, 7⟩) := (by repeat' first | assumption | (refine Old.upd ?_ (by assumption)))
  generalize M.upd r1 ⟨p.cs, 28, 7⟩ = M1 at *
  have b1 := blk_M (F := F) f1
  simp only [go_sem, reduceIte, Nat.reduceEqDiff, b1, e1, e2, e3, e4]
  refine loop_up p.stmts.length (wtI 4 3 (fun i => p.vars.length ≤ 2500 ∧ p.news.length ≤ 2500 ∧ p.exprs.length ≤ 2500 ∧ p.stmts.length ≤ 2500 ∧ p.main.length ≤ 2500 ∧ ∀ s ∈ p.stmts.take i, s.body.length ≤ 2500 ∧ s.els.length ≤ 2500) F M1) ⟨rfl, rfl, (by simp only [go_sem, *] <;> rfl), _, (by simp only [go_sem, Nat.reduceEqDiff, *] <;> rfl), by omega, by omega, fun h => ⟨by omega, by omega, by omega, by omega, by omega, fun b hb => by simp at hb⟩⟩ ?_
  rintro i σ F' M' hi hst ⟨rfl, rfl, q4, n, q3, n0, n1, hP⟩
  have q1 := hst 1 rfl
  simp only [go_sem, Nat.reduceEqDiff] at q1
  clear hst e1 e2 e3 e4
  have hP : n ≤ 2500 → p.vars.length ≤ 2500 ∧ p.news.length ≤ 2500 ∧ p.exprs.length ≤ 2500 ∧ p.stmts.length ≤ 2500 ∧ p.main.length ≤ 2500 ∧ ∀ s ∈ p.stmts.take i, s.body.length ≤ 2500 ∧ s.els.length ≤ 2500 := hP
  by_cases hil : (i : Int) < p.stmts.length
  rotate_left
  · rw [List.take_of_length_le (by omega)] at hP
    simp only [go_sem, reduceCtorEq, reduceIte, Nat.reduceEqDiff, q1, q3, q4, b1, hil]
    exact endK_keep kp1 ⟨rfl, rfl, n, rfl, n0, n1, hP⟩
  by_cases hn : n < 1048576
  rotate_left
  · simp only [go_sem, reduceIte, Nat.reduceEqDiff, q1, q3, q4, b1, hil, hn]
    exact endK_keep kp1 ⟨rfl, rfl, n, rfl, n0, n1, fun h => by omega⟩
  have hi0 : (0 : Int) ≤ i := by omega
  have hi1 : i < p.stmts.length := by omega
  have ei : IntKind.i64.wrap ((i : Int) + 1) = i + 1 := w64 (by omega) (by omega)
  obtain ⟨b, o, cs, ea, hbk, rows⟩ := (h.stmts F M1 (Ext.old old1)).rows (by omega)
  obtain ⟨d1, d2⟩ := rows i hi1
  obtain ⟨_, _, _, _, _, d2, d3⟩ := Go.Ax.Sm.row d2
  clear rows
  have hx := m6 _ (List.getElem_mem hi1)
  have t1 := List.take_succ_eq_append_getElem hi1
  generalize p.stmts[i] = x at *
  have en : IntKind.i64.wrap (n + (x.body.length : Int)) = n + x.body.length := w64 (by omega) (by omega)
  have en2 : IntKind.i64.wrap (n + (x.body.length : Int) + x.els.length) = n + x.body.length + x.els.length := w64 (by omega) (by omega)
  simp only [go_sem, reduceIte, Nat.reduceEqDiff, q1, q3, q4, b1, hil, hn, hi0, ea, Int.toNat_natCast, hbk, d2, d3, ei, en, en2]
  refine ⟨hi1, rfl, rfl, (by simp only [go_sem, *] <;> rfl), n + x.body.length + x.els.length, (by simp only [go_sem, Nat.reduceEqDiff, *] <;> rfl), by omega, by omega, fun h => ?_⟩
  obtain ⟨p1, p2, p3, p4, p5, p6⟩ := hP (by omega)
  refine ⟨p1, p2, p3, p4, p5, fun y hy => ?_⟩
  rw [t1] at hy
  rcases List.mem_append.1 hy with hy | hy
  · exact p6 y hy
  · rw [List.mem_singleton.1 hy]; omega
def hvI (v : Nat) (r : Nat) (P : Nat → Prop) (F0 : Fz) (M0 : Hp) (i : Nat) (σ : Env) (F : Fz) (M : Hp) : Prop :=
  F0 = F ∧ M0 = M ∧ Ax.look σ 1 = some (.pointer (some ⟨r, 0, none⟩)) ∧ Ax.look σ v = some (.int .i64 i) ∧ ∃ n : Int, Ax.look σ 3 = some (.int .i64 n) ∧ 0 ≤ n ∧ n ≤ 2251799813685248 ∧ (n ≤ 2500 → P i)
def hvE (r : Nat) (P : Prop) (F0 : Fz) (M0 : Hp) (σ : Env) (F : Fz) (M : Hp) : Prop :=
  F0 = F ∧ M0 = M ∧ Ax.look σ 1 = some (.pointer (some ⟨r, 0, none⟩)) ∧ ∃ n : Int, Ax.look σ 3 = some (.int .i64 n) ∧ 0 ≤ n ∧ n ≤ 2251799813685248 ∧ (n ≤ 2500 → P)
def heavy16R (q : Ask16) (F : Fz) (M : Hp) (u : Value) (F' : Fz) (M' : Hp) : Prop :=
  F' = F ∧ M' = M ∧ ∃ b : Bool, u = .bool b ∧ (b = false → q.few)
theorem k5 (q : Ask16) (h : q.inB F) (hold : Old F M) :
    CallsA Tryz.prog 5 [q.val] F M (heavy16R q F M) := by
  refine callsA_of hm Tryz.func5 e5 (Nat.le_of_ble_eq_true rfl) ?_
  obtain ⟨m1, m2, m3⟩ := h.many
  simp only [c5, go_sem]
  intro r1 hF1 hM1
  have f1 : (M.upd r1 ⟨q.cs, 33, 10⟩) r1 = some ⟨q.cs, 33, 10⟩ := Hp.upd_same _ _ _
  have kp1 : Keep M (M.upd r1 ⟨q.cs, 33, 10⟩) := (by repeat' first | exact Keep.refl _ | (refine Keep.new ?_ (by simp only [*])))
  have old1 : Old F (M.upd r1 ⟨q.cs, 33, 10⟩) := (by repeat' first | assumption | (refine Old.upd ?_ (by assumption)))
  generalize M.upd r1 ⟨q.cs, 33, 10⟩ = M1 at *
  have b1 := blk_M (F := F) f1
  simp only [go_sem, reduceIte, Nat.reduceEqDiff, Nat.reduceLeDiff, b1]
  refine callK_of (k18 F M1 q.p h.p old1) ?_
  rintro u F' M' ⟨rfl, rfl, n, rfl, n0, n1, hP⟩
  refine ⟨(fun h => by cases h), ?_⟩
  simp only [go_sem]
  refine inBlock_st (hvE r1 ((q.p.few) ∧ ∀ s ∈ q.s, s.few) F' M') ?_ ?_
  · refine loop_up q.s.length (hvI 4 r1 (fun i => (q.p.few) ∧ ∀ s ∈ q.s.take i, s.few) F' M') ⟨rfl, rfl, (by simp only [go_sem, Nat.reduceEqDiff, *] <;> rfl), (by simp only [go_sem, *] <;> rfl), n, (by simp only [go_sem, Nat.reduceEqDiff, *] <;> rfl), n0, by omega, fun h => ⟨hP h, fun s hs => by simp at hs⟩⟩ ?_
    clear hP
    rintro i σ F M hi hst ⟨rfl, rfl, q1, q4, n, q3, n0, n1, hP⟩
    clear hst
    have hP : n ≤ 2500 → (q.p.few) ∧ ∀ s ∈ q.s.take i, s.few := hP
    by_cases hil : (i : Int) < q.s.length
    rotate_left
    · rw [List.take_of_length_le (by omega)] at hP
      simp only [go_sem, reduceCtorEq, reduceIte, Nat.reduceEqDiff, q1, q4, b1, hil]
      exact At.mk ⟨rfl, rfl, q1, n, q3, n0, n1, hP⟩
    by_cases hn : n < 1048576
    rotate_left
    · simp only [go_sem, reduceIte, Nat.reduceEqDiff, q1, q3, q4, b1, hil, hn]
      exact At.mk ⟨rfl, rfl, q1, n, q3, n0, n1, fun h => by omega⟩
    have hi0 : (0 : Int) ≤ i := by omega
    have hi1 : i < q.s.length := by omega
    have ei : IntKind.i64.wrap ((i : Int) + 1) = i + 1 := w64 (by omega) (by omega)
    obtain ⟨b, o, cs, ea, hbk, rows⟩ := (h.s F' M' (Ext.old old1)).rows (by omega)
    obtain ⟨d1, d2⟩ := rows i hi1
    clear rows
    have hx := h.ss _ (List.getElem_mem hi1)
    have t1 := List.take_succ_eq_append_getElem hi1
    generalize q.s[i] = x at *
    simp only [go_sem, reduceIte, Nat.reduceEqDiff, q1, q3, q4, b1, hil, hn, hi0, ea, Int.toNat_natCast, hbk, d1, d2]
    refine callK_of (k19 F' M' x (hx.rd F' M' (Ext.old old1)) hx.many hx.bytes) ?_
    rintro u F M ⟨rfl, rfl, w, rfl, w0, w1, hw⟩
    refine ⟨(fun h => by cases h), ?_⟩
    have en : IntKind.i64.wrap (n + w) = n + w := w64 (by omega) (by omega)
    simp only [go_sem, reduceIte, Nat.reduceEqDiff, q4, ei, en]
    refine ⟨hi1, rfl, rfl, q1, (by simp only [go_sem, *] <;> rfl), n + w, (by simp only [go_sem, Nat.reduceEqDiff, *] <;> rfl), by omega, by omega, fun h => ⟨(hP (by omega)).1, fun y hy => ?_⟩⟩
    rw [t1] at hy
    rcases List.mem_append.1 hy with hy | hy
    · exact (hP (by omega)).2 y hy
    · rw [List.mem_singleton.1 hy]; exact hw (by omega)
  clear hP n0 n1
  rintro σ1 F M _ ⟨rfl, rfl, q1, n, q3, n0, n1, hP⟩
  simp only [go_sem]
  refine inBlock_st (hvE r1 (((q.p.few) ∧ ∀ s ∈ q.s, s.few) ∧ ∀ s ∈ q.e, s.few) F' M') ?_ ?_
  · refine loop_up q.e.length (hvI 5 r1 (fun i => ((q.p.few) ∧ ∀ s ∈ q.s, s.few) ∧ ∀ s ∈ q.e.take i, s.few) F' M') ⟨rfl, rfl, (by simp only [go_sem, Nat.reduceEqDiff, *] <;> rfl), (by simp only [go_sem, *] <;> rfl), n, (by simp only [go_sem, Nat.reduceEqDiff, *] <;> rfl), n0, by omega, fun h => ⟨hP h, fun s hs => by simp at hs⟩⟩ ?_
    clear hP
    rintro i σ F M hi hst ⟨rfl, rfl, q1, q4, n, q3, n0, n1, hP⟩
    clear hst
    have hP : n ≤ 2500 → ((q.p.few) ∧ ∀ s ∈ q.s, s.few) ∧ ∀ s ∈ q.e.take i, s.few := hP
    by_cases hil : (i : Int) < q.e.length
    rotate_left
    · rw [List.take_of_length_le (by omega)] at hP
      simp only [go_sem, reduceCtorEq, reduceIte, Nat.reduceEqDiff, q1, q4, b1, hil]
      exact At.mk ⟨rfl, rfl, q1, n, q3, n0, n1, hP⟩
    by_cases hn : n < 1048576
    rotate_left
    · simp only [go_sem, reduceIte, Nat.reduceEqDiff, q1, q3, q4, b1, hil, hn]
      exact At.mk ⟨rfl, rfl, q1, n, q3, n0, n1, fun h => by omega⟩
    have hi0 : (0 : Int) ≤ i := by omega
    have hi1 : i < q.e.length := by omega
    have ei : IntKind.i64.wrap ((i : Int) + 1) = i + 1 := w64 (by omega) (by omega)
    obtain ⟨b, o, cs, ea, hbk, rows⟩ := (h.e F' M' (Ext.old old1)).rows (by omega)
    obtain ⟨d1, d2⟩ := rows i hi1
    clear rows
    have hx := h.es _ (List.getElem_mem hi1)
    have t1 := List.take_succ_eq_append_getElem hi1
    generalize q.e[i] = x at *
    simp only [go_sem, reduceIte, Nat.reduceEqDiff, q1, q3, q4, b1, hil, hn, hi0, ea, Int.toNat_natCast, hbk, d1, d2]
    refine callK_of (k20 F' M' x (hx.rd F' M' (Ext.old old1)) hx.many hx.ptrs) ?_
    rintro u F M ⟨rfl, rfl, w, rfl, w0, w1, hw⟩
    refine ⟨(fun h => by cases h), ?_⟩
    have en : IntKind.i64.wrap (n + w) = n + w := w64 (by omega) (by omega)
    simp only [go_sem, reduceIte, Nat.reduceEqDiff, q4, ei, en]
    refine ⟨hi1, rfl, rfl, q1, (by simp only [go_sem, *] <;> rfl), n + w, (by simp only [go_sem, Nat.reduceEqDiff, *] <;> rfl), by omega, by omega, fun h => ⟨(hP (by omega)).1, fun y hy => ?_⟩⟩
    rw [t1] at hy
    rcases List.mem_append.1 hy with hy | hy
    · exact (hP (by omega)).2 y hy
    · rw [List.mem_singleton.1 hy]; exact hw (by omega)
  clear hP n0 n1
  rintro σ2 F M _ ⟨rfl, rfl, q1, n, q3, n0, n1, hP⟩
  simp only [go_sem]
  refine inBlock_st (hvE r1 ((((q.p.few) ∧ ∀ s ∈ q.s, s.few) ∧ ∀ s ∈ q.e, s.few) ∧ ∀ s ∈ q.x, s.n ≤ 2500) F' M') ?_ ?_
  · refine loop_up q.x.length (hvI 6 r1 (fun i => (((q.p.few) ∧ ∀ s ∈ q.s, s.few) ∧ ∀ s ∈ q.e, s.few) ∧ ∀ s ∈ q.x.take i, s.n ≤ 2500) F' M') ⟨rfl, rfl, (by simp only [go_sem, Nat.reduceEqDiff, *] <;> rfl), (by simp only [go_sem, *] <;> rfl), n, (by simp only [go_sem, Nat.reduceEqDiff, *] <;> rfl), n0, by omega, fun h => ⟨hP h, fun s hs => by simp at hs⟩⟩ ?_
    clear hP
    rintro i σ F M hi hst ⟨rfl, rfl, q1, q4, n, q3, n0, n1, hP⟩
    clear hst
    have hP : n ≤ 2500 → (((q.p.few) ∧ ∀ s ∈ q.s, s.few) ∧ ∀ s ∈ q.e, s.few) ∧ ∀ s ∈ q.x.take i, s.n ≤ 2500 := hP
    by_cases hil : (i : Int) < q.x.length
    rotate_left
    · rw [List.take_of_length_le (by omega)] at hP
      simp only [go_sem, reduceCtorEq, reduceIte, Nat.reduceEqDiff, q1, q4, b1, hil]
      exact At.mk ⟨rfl, rfl, q1, n, q3, n0, n1, hP⟩
    by_cases hn : n < 1048576
    rotate_left
    · simp only [go_sem, reduceIte, Nat.reduceEqDiff, q1, q3, q4, b1, hil, hn]
      exact At.mk ⟨rfl, rfl, q1, n, q3, n0, n1, fun h => by omega⟩
    have hi0 : (0 : Int) ≤ i := by omega
    have hi1 : i < q.x.length := by omega
    have ei : IntKind.i64.wrap ((i : Int) + 1) = i + 1 := w64 (by omega) (by omega)
    obtain ⟨b, o, cs, ea, hbk, rows⟩ := (h.x F' M' (Ext.old old1)).rows (by omega)
    obtain ⟨d1, d2⟩ := rows i hi1
    clear rows
    have hx := h.xs _ (List.getElem_mem hi1)
    have t1 := List.take_succ_eq_append_getElem hi1
    generalize q.x[i] = x at *
    have hxn : x.n ≤ 140737488351232 := by obtain ⟨l, h1, h2, _⟩ := hx; omega
    have d2 : (cs.drop (o + i * 7)).take 7 = abCs x.v (.slice x.a x.n x.c) := d2
    simp only [go_sem, reduceIte, Nat.reduceEqDiff, q1, q3, q4, b1, hil, hn, hi0, ea, Int.toNat_natCast, hbk, d1, d2]
    refine callK_same (k21 F' M' x.v x.a x.n x.c hxn) ?_
    obtain ⟨w, hwe, w0, w1, hw⟩ : ∃ w : Int, 1 + (x.n : Int) = w ∧ 0 ≤ w ∧ w ≤ 1125899906842624 ∧ (w ≤ 2500 → x.n ≤ 2500) := ⟨_, rfl, by omega, by omega, by omega⟩
    rw [hwe]
    have en : IntKind.i64.wrap (n + w) = n + w := w64 (by omega) (by omega)
    simp only [go_sem, reduceIte, Nat.reduceEqDiff, q4, ei, en]
    refine ⟨hi1, rfl, rfl, q1, (by simp only [go_sem, *] <;> rfl), n + w, (by simp only [go_sem, Nat.reduceEqDiff, *] <;> rfl), by omega, by omega, fun h => ⟨(hP (by omega)).1, fun y hy => ?_⟩⟩
    rw [t1] at hy
    rcases List.mem_append.1 hy with hy | hy
    · exact (hP (by omega)).2 y hy
    · rw [List.mem_singleton.1 hy]; exact hw (by omega)
  clear hP n0 n1
  rintro σ3 F M _ ⟨rfl, rfl, q1, n, q3, n0, n1, hP⟩
  simp only [go_sem, reduceIte, q3]
  refine endK_keep kp1 ⟨rfl, rfl, _, rfl, fun h => ?_⟩
  obtain ⟨⟨⟨h1, h2⟩, h3⟩, h4⟩ := hP (by simpa using h)
  exact ⟨h1, h2, h3, h4⟩
end Go.Proofs.Tryz.K
namespace Go.Ax
open Go
set_option linter.unusedVariables false
set_option linter.unusedSimpArgs false
theorem Keep.le {F : Fz} {M M' : Hp} (kp : Keep M M') (o : Old F M') : Le F M F M' := ⟨fun _ _ h => h, fun b e h => ⟨e, kp b e h, List.prefix_refl _⟩, fun b h _ => o b h⟩
def singleV (b p : Int) (x : By) : Pc := if x.st = 1 then ⟨b, p, 1, V.just 8 x.n, []⟩ else if x.st = 2 then ⟨b, p, 11, V.just 8 x.i, [⟨x.b, V.just 8 x.o⟩]⟩ else ⟨b, p, 0, V.zero, []⟩
def ptrC (b p : Int) (s : Sc) : Pc := ⟨b, p, 7, V.zero, [⟨s.b, V.just 8 s.o⟩]⟩
def wholeV (big : Bool) (ptr : Nat) (l : List By) (at_ : Nat) : Sc × Bool :=
  if at_ % ptr = 0 ∧ at_ + ptr ≤ l.length then ((readV big 7 ((l.drop at_).take ptr)).1, decide ((readV big 7 ((l.drop at_).take ptr)).2 = 0) && decide (0 < (readV big 7 ((l.drop at_).take ptr)).1.b)) else (⟨false, 0, 0, 0⟩, false)
def stepV (big : Bool) (ptr : Nat) (b : Int) (l : List By) (at_ : Nat) : Pc × Nat :=
  if (wholeV big ptr l at_).2 = true then (ptrC b at_ (wholeV big ptr l at_).1, at_ + ptr) else (singleV b at_ (byAt l at_), at_ + 1)
def cellsAt (big : Bool) (ptr : Nat) (b : Int) (l : List By) : Nat → Nat → List Pc
  | 0, _ => []
  | k + 1, at_ => if at_ < l.length then (stepV big ptr b l at_).1 :: cellsAt big ptr b l k (stepV big ptr b l at_).2 else []
def justL (big : Bool) (ptr : Nat) (m : List Bl) : Nat → List Pc
  | 0 => []
  | i + 1 => justL big ptr m i ++ cellsAt big ptr i (blAt m i).l ((blAt m i).l.length) 0
def justV (p : Pg) (m : List Bl) : Pe := ⟨false, justL p.big p.ptr.toNat m m.length, (m.drop (1 + p.vars.length)).map fun x => shlv .i64 1 x.st⟩
theorem cellsAt_more (big : Bool) (ptr : Nat) (b : Int) (l : List By) (hp : 0 < ptr) : ∀ (k at_ : Nat), l.length ≤ at_ + k → cellsAt big ptr b l k at_ = cellsAt big ptr b l (k + 1) at_
  | 0, at_, h => by
    have : ¬ at_ < l.length := by omega
    simp [cellsAt, this]
  | k + 1, at_, h => by
    have hs : at_ + 1 ≤ (stepV big ptr b l at_).2 := by unfold stepV; split <;> omega
    rw [cellsAt]
    conv => rhs; rw [cellsAt]
    split
    · rw [cellsAt_more big ptr b l hp k _ (by omega)]
    · rfl
theorem cellsAt_fuel {big : Bool} {ptr : Nat} {b : Int} {l : List By} (hp : 0 < ptr) {k at_ : Nat} (h : l.length ≤ at_ + k) (n : Nat) : cellsAt big ptr b l (k + n) at_ = cellsAt big ptr b l k at_ := by
  induction n with
  | zero => rfl
  | succ n ih => rw [← Nat.add_assoc, ← cellsAt_more big ptr b l hp (k + n) at_ (by omega), ih]
theorem cellsAt_step {big : Bool} {ptr : Nat} {b : Int} {l : List By} (hp : 0 < ptr) {at_ : Nat} (h : at_ < l.length) :
    cellsAt big ptr b l (l.length - at_) at_ = (stepV big ptr b l at_).1 :: cellsAt big ptr b l (l.length - (stepV big ptr b l at_).2) (stepV big ptr b l at_).2 := by
  have hs : at_ + 1 ≤ (stepV big ptr b l at_).2 := by unfold stepV; split <;> omega
  obtain ⟨k, hk⟩ : ∃ k, l.length - at_ = k + 1 := ⟨l.length - at_ - 1, by omega⟩
  rw [hk, cellsAt, if_pos h]
  congr 1
  have : k = (l.length - (stepV big ptr b l at_).2) + (k - (l.length - (stepV big ptr b l at_).2)) := by omega
  rw [this]
  exact cellsAt_fuel hp (by omega) _
end Go.Ax
namespace Go.Proofs.Tryz.K
open Go Go.Ax Go.Proofs.Tryz.S
set_option maxRecDepth 100000
set_option linter.unusedSimpArgs false
set_option linter.unusedVariables false
set_option maxHeartbeats 4000000
variable (F : Fz) (M : Hp)
theorem k68 (big : Bool) (ptr : Nat) (a : Option Addr) (c : Nat) (l : List By) (at_ : Nat) (hp : ptr = 2 ∨ ptr = 4) (hold : Old F M) (h : RdG 5 By.cs F M (.slice a l.length c) l) (hl : l.length ≤ 100000) (hat : at_ ≤ 100000) :
    CallsA Tryz.prog 68 [.agg #[.bool big, .int .i64 ptr], .slice a l.length c, .int .i64 at_] F M (Same F M (.tuple #[(wholeV big ptr l at_).1.val, .bool (wholeV big ptr l at_).2])) := by
  refine callsA_of hm Tryz.func68 e68 (Nat.le_of_ble_eq_true rfl) ?_
  simp only [c68, go_sem, Nat.reduceAdd]
  intro r3 hF3 hM3
  simp only [go_sem, Nat.reduceAdd]
  intro r6 hF6 hM6
  simp only [upd_none2] at hM6
  have kp6 : Keep M ((M.upd r3 ⟨[.bool big, .int .i64 ptr], 23, 2⟩).upd r6 ⟨[.bool false, .int .i64 0, .int .i64 0, .int .i64 0], 119, 4⟩) := (by repeat' first | exact Keep.refl _ | (refine Keep.new ?_ (by simp only [*])))
  have old6 : Old F ((M.upd r3 ⟨[.bool big, .int .i64 ptr], 23, 2⟩).upd r6 ⟨[.bool false, .int .i64 0, .int .i64 0, .int .i64 0], 119, 4⟩) := (by repeat' first | assumption | (refine Old.upd ?_ (by assumption)))
  have f3 : ((M.upd r3 ⟨[.bool big, .int .i64 ptr], 23, 2⟩).upd r6 ⟨[.bool false, .int .i64 0, .int .i64 0, .int .i64 0], 119, 4⟩) r3 = some ⟨[.bool big, .int .i64 ptr], 23, 2⟩ := by rw [Hp.upd_ne' hM6.1.2]; exact Hp.upd_same _ _ _
  have f6 : ((M.upd r3 ⟨[.bool big, .int .i64 ptr], 23, 2⟩).upd r6 ⟨[.bool false, .int .i64 0, .int .i64 0, .int .i64 0], 119, 4⟩) r6 = some ⟨[.bool false, .int .i64 0, .int .i64 0, .int .i64 0], 119, 4⟩ := Hp.upd_same _ _ _
  have n6 : M r6 = none := hM6.2
  generalize (M.upd r3 ⟨[.bool big, .int .i64 ptr], 23, 2⟩).upd r6 ⟨[.bool false, .int .i64 0, .int .i64 0, .int .i64 0], 119, 4⟩ = M1 at *
  have h1 := h.keep kp6 old6
  have b3 := blk_M (F := F) f3
  have b6 := blk_M (F := F) f6
  clear hF3 hM3 hF6 hM6 h
  have fin : ∀ s v, wholeV big ptr l at_ = (s, v) → ∀ M3, Keep M1 M3 → ∀ x, endK F (M3.upd r6 x) (Same F M (.tuple #[(wholeV big ptr l at_).1.val, .bool (wholeV big ptr l at_).2])) (.tuple #[s.val, .bool v]) := fun s v e M3 kp x => endK_keep ((kp6.trans kp).new n6) ⟨by rw [e], rfl, rfl⟩
  have hp0 : ¬ (ptr : Int) = 0 := by omega
  have em : (at_ : Int).tmod ptr = ((at_ % ptr : Nat) : Int) := by rw [Int.tmod_eq_emod_of_nonneg (by omega)]; rfl
  have ew : IntKind.i64.wrap ((at_ : Int) + ptr) = ((at_ + ptr : Nat) : Int) := by rw [w64 (by omega) (by omega)]; omega
  by_cases hm0 : at_ % ptr = 0
  rotate_left
  · have hm0' : ¬ ((at_ % ptr : Nat) : Int) = 0 := by omega
    have hv : wholeV big ptr l at_ = (⟨false, 0, 0, 0⟩, false) := by unfold wholeV; rw [if_neg (fun h => hm0 h.1)]
    simp only [setH, go_sem, reduceCtorEq, reduceIte, Nat.reduceEqDiff, Nat.reduceAdd, b3, hp0, em, hm0', f6]
    exact fin _ _ hv M1 (Keep.refl _) _
  have hm0' : ((at_ % ptr : Nat) : Int) = 0 := by omega
  by_cases hle : at_ + ptr ≤ l.length
  rotate_left
  · have hle' : (l.length : Int) < ((at_ + ptr : Nat) : Int) := by omega
    have hv : wholeV big ptr l at_ = (⟨false, 0, 0, 0⟩, false) := by unfold wholeV; rw [if_neg (fun h => hle h.2)]
    simp only [setH, go_sem, reduceCtorEq, reduceIte, Nat.reduceEqDiff, Nat.reduceAdd, b3, hp0, em, hm0', ew, hle', f6]
    exact fin _ _ hv M1 (Keep.refl _) _
  have hle' : ¬ (l.length : Int) < ((at_ + ptr : Nat) : Int) := by omega
  have hv : wholeV big ptr l at_ = ((readV big 7 ((l.drop at_).take ptr)).1, decide ((readV big 7 ((l.drop at_).take ptr)).2 = 0) && decide (0 < (readV big 7 ((l.drop at_).take ptr)).1.b)) := by unfold wholeV; rw [if_pos ⟨hm0, hle⟩]
  have hcl := cut_len (l := l) (lo := at_) (n := ptr) hle
  have hcut := RdG.cut h1 (lo := at_) (n := ptr) hle
  have e1 : (0 : Int) ≤ ((at_ + ptr : Nat) : Int) := by omega
  have e0 : (0 : Int) ≤ (at_ : Int) := by omega
  have e2 : (at_ : Int) ≤ ((at_ + ptr : Nat) : Int) := by omega
  have e3 : ((at_ + ptr : Nat) : Int) ≤ l.length := by omega
  have e4 : l.length ≤ c := by
    obtain ⟨_, ad, cap, hc, e, _⟩ := h1
    cases e; exact hc
  have e4' : (l.length : Int) ≤ c := by omega
  have e5 : at_ + ptr - at_ = ptr := by omega
  have kR := k108 F M1 big ptr 7 _ _ ((l.drop at_).take ptr) old6 hcut (by rw [hcl]; omega)
  rw [hcl] at kR
  simp only [go_sem, reduceCtorEq, reduceIte, Nat.reduceEqDiff, Nat.reduceAdd, b3, hp0, em, hm0', ew, hle', e0, e2, e3, e4, e5, Int.toNat_natCast]
  with_reducible refine callK_same kR ?_
  generalize readV big 7 ((l.drop at_).take ptr) = rv at *
  obtain ⟨s, bad⟩ := rv
  simp only [go_sem, Nat.reduceEqDiff, Nat.reduceAdd]
  intro r8 hF8 hM8
  have m6 := ne_of_none hM8 f6
  have kp8 : ∀ e, Keep M1 (M1.upd r8 e) := fun e => (Keep.refl M1).new hM8
  by_cases hbad : bad = 0
  rotate_left
  · simp only [setH, Hp.upd_upd, go_sem, reduceCtorEq, reduceIte, Nat.reduceEqDiff, Nat.reduceAdd, hbad, m6, f6]
    exact fin s false (hv.trans (by simp [hbad])) _ (kp8 _) _
  by_cases hb : 0 < s.b
  · simp only [setH, Hp.upd_upd, go_sem, reduceIte, Nat.reduceEqDiff, Nat.reduceAdd, hbad, hb, m6, f6]
    exact fin s true (hv.trans (by simp [hbad, hb])) _ (kp8 _) _
  · simp only [setH, Hp.upd_upd, go_sem, reduceIte, Nat.reduceEqDiff, Nat.reduceAdd, hbad, hb, m6, f6]
    exact fin s false (hv.trans (by simp [hbad, hb])) _ (kp8 _) _
theorem ab_set_num {v w : V} {u : Value} : v.cs ++ List.drop 6 (abCs w u) = abCs v u := rfl
theorem k70 (b p : Int) (x : By) (hold : Old F M) : CallsA Tryz.prog 70 [.int .i64 b, .int .i64 p, x.val] F M (cellNew (singleV b p x) F M) := by
  refine callsA_of hm Tryz.func70 e70 (Nat.le_of_ble_eq_true rfl) ?_
  simp only [c70, go_sem, reduceCtorEq, Nat.reduceEqDiff, Nat.reduceAdd]
  intro r5 hF5 hM5
  simp only [go_sem, Nat.reduceAdd]
  intro r6 hF6 hM6
  simp only [upd_none2] at hM6
  simp only [go_sem, reduceCtorEq, reduceIte, Nat.reduceEqDiff, Nat.reduceAdd, Nat.reduceLeDiff]
  intro r7 hF7 hM7
  simp only [upd_none2] at hM7
  simp only [setH, Hp.upd_upd, go_sem, reduceIte, Nat.reduceEqDiff, Nat.reduceAdd, hM6, hM7]
  have kp7 : Keep M (((M.upd r5 ⟨x.cs, 83, 5⟩).upd r6 ⟨[.int .i64 0, .int .i64 0, .int .i64 0, .int .i64 0, .bool false, .int .i64 0, .int .i64 0, .int .i64 0, .int .i64 0, .slice none 0 0], 87, 10⟩).upd r7 ⟨[.int .i64 b, .int .i64 p, .int .i64 0, .int .i64 0, .bool false, .int .i64 0, .int .i64 0, .int .i64 0, .int .i64 0, .slice none 0 0], 87, 10⟩) := (by repeat' first | exact Keep.refl _ | (refine Keep.new ?_ (by simp only [*])))
  have old7 : Old F (((M.upd r5 ⟨x.cs, 83, 5⟩).upd r6 ⟨[.int .i64 0, .int .i64 0, .int .i64 0, .int .i64 0, .bool false, .int .i64 0, .int .i64 0, .int .i64 0, .int .i64 0, .slice none 0 0], 87, 10⟩).upd r7 ⟨[.int .i64 b, .int .i64 p, .int .i64 0, .int .i64 0, .bool false, .int .i64 0, .int .i64 0, .int .i64 0, .int .i64 0, .slice none 0 0], 87, 10⟩) := (by repeat' first | assumption | (refine Old.upd ?_ (by assumption)))
  have f5 : (((M.upd r5 ⟨x.cs, 83, 5⟩).upd r6 ⟨[.int .i64 0, .int .i64 0, .int .i64 0, .int .i64 0, .bool false, .int .i64 0, .int .i64 0, .int .i64 0, .int .i64 0, .slice none 0 0], 87, 10⟩).upd r7 ⟨[.int .i64 b, .int .i64 p, .int .i64 0, .int .i64 0, .bool false, .int .i64 0, .int .i64 0, .int .i64 0, .int .i64 0, .slice none 0 0], 87, 10⟩) r5 = some ⟨x.cs, 83, 5⟩ := by rw [Hp.upd_ne' (by simp [hM7]), Hp.upd_ne' (by simp [hM6])]; exact Hp.upd_same _ _ _
  have f6 : (((M.upd r5 ⟨x.cs, 83, 5⟩).upd r6 ⟨[.int .i64 0, .int .i64 0, .int .i64 0, .int .i64 0, .bool false, .int .i64 0, .int .i64 0, .int .i64 0, .int .i64 0, .slice none 0 0], 87, 10⟩).upd r7 ⟨[.int .i64 b, .int .i64 p, .int .i64 0, .int .i64 0, .bool false, .int .i64 0, .int .i64 0, .int .i64 0, .int .i64 0, .slice none 0 0], 87, 10⟩) r6 = some ⟨[.int .i64 0, .int .i64 0, .int .i64 0, .int .i64 0, .bool false, .int .i64 0, .int .i64 0, .int .i64 0, .int .i64 0, .slice none 0 0], 87, 10⟩ := by rw [Hp.upd_ne' (by simp [hM7])]; exact Hp.upd_same _ _ _
  have f7 : (((M.upd r5 ⟨x.cs, 83, 5⟩).upd r6 ⟨[.int .i64 0, .int .i64 0, .int .i64 0, .int .i64 0, .bool false, .int .i64 0, .int .i64 0, .int .i64 0, .int .i64 0, .slice none 0 0], 87, 10⟩).upd r7 ⟨[.int .i64 b, .int .i64 p, .int .i64 0, .int .i64 0, .bool false, .int .i64 0, .int .i64 0, .int .i64 0, .int .i64 0, .slice none 0 0], 87, 10⟩) r7 = some ⟨[.int .i64 b, .int .i64 p, .int .i64 0, .int .i64 0, .bool false, .int .i64 0, .int .i64 0, .int .i64 0, .int .i64 0, .slice none 0 0], 87, 10⟩ := Hp.upd_same _ _ _
  have n6 : M r6 = none := hM6.2
  have n7 : M r7 = none := hM7.2.2
  have ne67 : ¬ r6 = r7 := hM7.1.2
  have ne76 : ¬ r7 = r6 := hM7.1.1
  generalize (((M.upd r5 ⟨x.cs, 83, 5⟩).upd r6 ⟨[.int .i64 0, .int .i64 0, .int .i64 0, .int .i64 0, .bool false, .int .i64 0, .int .i64 0, .int .i64 0, .int .i64 0, .slice none 0 0], 87, 10⟩).upd r7 ⟨[.int .i64 b, .int .i64 p, .int .i64 0, .int .i64 0, .bool false, .int .i64 0, .int .i64 0, .int .i64 0, .int .i64 0, .slice none 0 0], 87, 10⟩) = M1 at *
  have b5 := blk_M (F := F) f5
  have b6 := blk_M (F := F) f6
  have b7 := blk_M (F := F) f7
  have fin : ∀ c : Cl, c.pc = singleV b p x → ∀ M3, Keep M1 M3 → Old F M3 → (∃ X, M3 r7 = some ⟨X, 87, 10⟩) → (∃ X, M3 r6 = some ⟨X, 87, 10⟩) → OwnG 7 Ba.cs 157 F M3 (.slice c.lA c.l.length c.lC) c.l → ∀ X Y, endK F ((M3.upd r7 ⟨X, 87, 10⟩).upd r6 ⟨Y, 87, 10⟩) (cellNew (singleV b p x) F M) c.val := by
    rintro c hc M3 kp3 o3 ⟨X7, g7⟩ ⟨X6, g6⟩ own X Y
    refine endK_same ⟨rfl, ((kp7.trans kp3).new n7).new n6, (o3.upd hF7).upd hF6, c, rfl, hc, own.frame (e' := 87) (fun r y hy hne => ?_) (by decide)⟩
    have e7 : ¬ r = r7 := by rintro rfl; rw [g7] at hy; cases hy; exact hne rfl
    have e6 : ¬ r = r6 := by rintro rfl; rw [g6] at hy; cases hy; exact hne rfl
    rw [Hp.upd_ne' e6, Hp.upd_ne' e7]; exact hy
  by_cases h1 : x.st = 1
  · have hv : singleV b p x = ⟨b, p, 1, V.just 8 x.n, []⟩ := by unfold singleV; rw [if_pos h1]
    simp only [go_sem, Nat.reduceEqDiff, b5, h1]
    with_reducible refine callK_same (k111 F M1 8 x.n) ?_
    simp only [go_sem]
    with_reducible refine callK_same (k110 F M1 _) ?_
    simp only [setH, Hp.upd_upd, go_sem, reduceIte, Nat.reduceEqDiff, Nat.reduceAdd, Nat.reduceLeDiff, f6, f7, ne67]
    exact fin ⟨b, p, 1, V.just 8 x.n, none, 0, []⟩ hv.symm M1 (Keep.refl _) old7 ⟨_, f7⟩ ⟨_, f6⟩ (.inl ⟨rfl, rfl⟩) _ _
  by_cases h2 : x.st = 2
  · have hv : singleV b p x = ⟨b, p, 11, V.just 8 x.i, [⟨x.b, V.just 8 x.o⟩]⟩ := by unfold singleV; rw [if_neg h1, if_pos h2]
    simp only [go_sem, reduceIte, Nat.reduceEqDiff, Int.reduceEq, b5, h2]
    with_reducible refine callK_of (k109 F M1 x.b x.o) ?_
    rintro u F' M2 hu
    obtain ⟨hG, hu⟩ := hu
    subst hG
    obtain ⟨hh, _⟩ | ⟨g, cap, gF, gM, rfl, hcap, rfl⟩ := hu
    · cases hh
    have kp2 : Keep M1 (M1.upd g ⟨[(⟨x.b, V.just 8 x.o⟩ : Ba)].flatMap Ba.cs, 157, cap * 7⟩) := (Keep.refl M1).new gM
    have o2 : Old F' (M1.upd g ⟨[(⟨x.b, V.just 8 x.o⟩ : Ba)].flatMap Ba.cs, 157, cap * 7⟩) := old7.upd gF
    refine ⟨(fun h => by cases h), ?_⟩
    have g5 := kp2 _ _ f5
    have g6 := kp2 _ _ f6
    have g7 := kp2 _ _ f7
    have own : OwnG 7 Ba.cs 157 F' (M1.upd g ⟨[(⟨x.b, V.just 8 x.o⟩ : Ba)].flatMap Ba.cs, 157, cap * 7⟩) (.slice (some ⟨g, 0, none⟩) [(⟨x.b, V.just 8 x.o⟩ : Ba)].length cap) [⟨x.b, V.just 8 x.o⟩] := .inr ⟨g, cap, rfl, gF, Hp.upd_same _ _ _, hcap⟩
    generalize M1.upd g ⟨[(⟨x.b, V.just 8 x.o⟩ : Ba)].flatMap Ba.cs, 157, cap * 7⟩ = M2 at *
    have b5' := blk_M (F := F') g5
    have b7' := blk_M (F := F') g7
    have ne57 : ¬ r5 = r7 := hM7.2.1.2
    simp only [setH, Hp.upd_upd, go_sem, Nat.reduceEqDiff, Nat.reduceAdd, Nat.reduceLeDiff, g7, b5', ne57]
    with_reducible refine callK_same (k111 F' _ 8 x.i) ?_
    simp only [setH, Hp.upd_upd, go_sem, reduceIte, Nat.reduceEqDiff, Nat.reduceAdd, Nat.reduceLeDiff, g6, ne67, ab_set_num]
    exact fin ⟨b, p, 11, V.just 8 x.i, some ⟨g, 0, none⟩, cap, [⟨x.b, V.just 8 x.o⟩]⟩ hv.symm M2 kp2 o2 ⟨_, g7⟩ ⟨_, g6⟩ own _ _
  have hv : singleV b p x = ⟨b, p, 0, V.zero, []⟩ := by unfold singleV; rw [if_neg h1, if_neg h2]
  simp only [setH, go_sem, reduceIte, Nat.reduceEqDiff, Nat.reduceAdd, b7, f6, h1, h2]
  refine endK_same ⟨rfl, kp7.new n6, old7.upd hF6, ⟨b, p, 0, V.zero, none, 0, []⟩, rfl, hv.symm, .inl ⟨rfl, rfl⟩⟩
end Go.Proofs.Tryz.K
