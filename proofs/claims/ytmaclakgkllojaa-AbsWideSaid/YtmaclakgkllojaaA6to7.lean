/- Parts A6to7: the machine's runs of small codes, contracts of functions, plain facts. -/
import Derived.Laws.AppendOwnNone
import Derived.Laws.MakeOwn
import Derived.Test.YtmaclakgkllojaaA4to5
/- The machine does what the small steps say. -/
namespace Go.Ax
open Go
set_option linter.unusedSimpArgs false

/-- What is known behind a piece of a run that began in (F0, M0, w0). -/
def St (n : Nat) (Φ : Env → Fz → Hp → Prop) (F0 : Fz) (M0 : Hp) (w0 : World) (a : Act) (w : World) : Prop :=
  ∃ σ F M, Agree n σ a ∧ Rel F M w ∧ Fr F0 M0 w0 F M w ∧ Φ σ F M

theorem flatten_replicate_mod (z : List Value) : ∀ (m : Nat), (List.range (m * z.length)).map (fun i => z.toArray[i % z.toArray.size]!) = (List.replicate m z).flatten := by
  intro m
  induction m with
  | zero => simp
  | succ m ih =>
    rw [List.replicate_succ', List.flatten_append, ← ih, Nat.succ_mul, List.range_add, List.map_append]
    congr 1
    simp only [List.map_map, List.flatten_cons, List.flatten_nil, List.append_nil]
    apply List.ext_getElem?
    intro i
    by_cases hi : i < z.length
    · simp [hi, Nat.add_mod, Nat.mod_eq_of_lt hi, Nat.mul_mod_left]
    · simp [hi, List.getElem?_eq_none (Nat.le_of_not_lt hi)]

theorem src_cells {F : Fz} {M : Hp} {w : World} (hr : Rel F M w) {a : Addr} {m es : Nat} {ys : List Value} (hyl : ys.length = m * es)
    (h : m = 0 ∨ ∃ b o cs, a = ⟨b, o, none⟩ ∧ blk F M b = some cs ∧ (cs.drop o).take (m * es) = ys) :
    ∀ (j : Nat) (u : Value), ys[j]? = some u → w.cell? (a.add j) = some u := by
  intro j u hj
  rcases h with rfl | ⟨b, o, cs, rfl, hb, hy⟩
  · have : ys = [] := by simpa using hyl
    simp [this] at hj
  subst hy
  rw [Addr.add_lit]
  refine hr.cell hb ?_
  rw [List.getElem?_take] at hj
  split at hj
  · rw [List.getElem?_drop] at hj; exact hj
  · simp at hj

theorem own_row {F : Fz} {M : Hp} {w : World} (hr : Rel F M w) {e es n : Nat} {v : Value} {xs : List Value} (h : Own M e es v n xs) : w.ownsRow 0 e es v n xs := by
  obtain ⟨hl, h⟩ := h
  refine ⟨hl, ?_⟩
  rcases h with h | ⟨g, cap, rfl, hm, hn, hc⟩
  · exact .inl h
  · obtain ⟨cur, h1, h2, h3⟩ := hr.mu g _ hm
    refine .inr ⟨g, cap, cur, rfl, Nat.zero_le _, h1, hn, hc, h3, ?_⟩
    obtain ⟨t, ht⟩ := h2
    simp only at ht
    rw [← ht, ← hl, List.take_left]

/-- A row of the call's own turned as a whole. -/
theorem Rel.setRow {F : Fz} {M : Hp} {w w' : World} (h : Rel F M w) {g : Nat} {old new : Ent} (hm : M g = some old) (hblk : ∀ k, k ≠ g → w'.heap[k]? = w.heap[k]?)
    {cur : Array Value} (hg : w'.heap[g]? = some (.cells cur new.elem (0, 0))) (hp : new.cells <+: cur.toList) (hs : cur.size = new.size) : Rel F (M.upd g new) w' := by
  refine ⟨fun b c hb => ?_, fun b n hb => ?_, fun b hb => ?_⟩
  · have hbg : b ≠ g := by rintro rfl; have := h.ap b (by simp [hm]); simp [this] at hb
    obtain ⟨c0, e, fr, h1, h2⟩ := h.fz b c hb
    exact ⟨c0, e, fr, by rw [hblk b hbg]; exact h1, h2⟩
  · by_cases hbg : b = g
    · subst hbg
      simp only [Hp.upd_same, Option.some.injEq] at hb
      subst hb
      exact ⟨cur, hg, hp, hs⟩
    · rw [Hp.upd_ne hbg] at hb
      obtain ⟨c0, h1, h2⟩ := h.mu b n hb
      exact ⟨c0, by rw [hblk b hbg]; exact h1, h2⟩
  · by_cases hbg : b = g
    · subst hbg; exact h.ap b (by simp [hm])
    · rw [Hp.upd_ne hbg] at hb; exact h.ap b hb

theorem Fr.setRow {F : Fz} {M : Hp} {w w' : World} {g : Nat} {old new : Ent} (hm : M g = some old) (hblk : ∀ k, k ≠ g → w'.heap[k]? = w.heap[k]?)
    (hos : w'.os = w.os) (ht : w'.tape = w.tape) (ho : w'.output = w.output) (hsz : w.heap.size ≤ w'.heap.size) : Fr F M w F (M.upd g new) w' :=
  ⟨hos, ht, ho, hsz, fun b _ hb => by
    have hbg : b ≠ g := by rintro rfl; simp [hm] at hb
    exact ⟨hblk b hbg, by rw [Hp.upd_ne hbg]; exact hb, id⟩⟩

section
variable {P : Program} {s : Bool} {n : Nat} {σ : Env} {a : Act} {F : Fz} {M : Hp} {w : World} {Q : Exit → Act → World → Prop} {K : Env → Fz → Hp → Prop} {o : Oper}

/-- A new block. -/
theorem sound_new {v : Value} {c : List Value} {e : Nat} (hd : ∀ t, o.dst = some t → t < n) (ha : Agree n σ a) (hr : Rel F M w)
    (hrun : (execOp a.eval o).run P w = .ok (.value v) (w.alloc (.cells c.toArray e))) (hK : K (put σ o.dst v) F (M.upd w.heap.size ⟨c, e, c.length⟩)) :
    o.wp P a w (St n K F M w) Q := by
  unfold Oper.wp
  rw [hrun]
  exact ⟨_, _, _, ha.put hd, hr.alloc c e, Fr.alloc _ _, hK⟩

theorem sound_p {q : PK} (hd : ∀ t, o.dst = some t → t < n) (ha : Agree n σ a) (hr : Rel F M w) (hq : slimP P o.op = some q) (h : stepK P s o.dst (.p q) K σ F M) :
    o.wp P a w (St n K F M w) Q := by
  obtain ⟨v, hv, hK⟩ := h
  unfold Oper.wp
  rw [val_sound ha hr hq hv]
  exact ⟨_, _, _, ha.put hd, hr, Fr.refl _ _ _, hK⟩

theorem sound_st {t : TypeId} {m : Nat} {x y : Operand} (hd : ∀ t, o.dst = some t → t < n) (ha : Agree n σ a) (hr : Rel F M w) (ho : o.op = .store t x y) (hn : sizeT P t = some m)
    {fl : List Nat} (h : stepK P s o.dst (.st fl m x y) K σ F M) : o.wp P a w (St n K F M w) Q := by
  obtain ⟨b, of, hx, v, hy, e, hm, hv, hp, hl, _, hK⟩ := h
  obtain ⟨cur, h1, h2, h3⟩ := hr.mu b e hm
  have hlen : e.cells.length ≤ cur.size := by
    obtain ⟨t, ht⟩ := h2
    have := congrArg List.length ht
    simp at this; omega
  have hst := run_storeCells_at P b of e.elem v.cells.toList 0 cur w h1 (by simp [hv]; omega) hp
  have hrun : (execOp a.eval o).run P w = .ok .skip (w.setRow b (cur.toList.take (of + 0) ++ v.cells.toList ++ cur.toList.drop (of + 0 + v.cells.toList.length)).toArray) := by
    unfold execOp
    simp only [ho, Sem.run_bind, ha.ev hx, ha.ev hy, Instr.storeAt, Instr.sureAddr, storeVar, Sem.run_pure, Result.andThen_ok, run_sizeOf hn, hv, ne_eq, not_true, if_false]
    rw [hst]
    simp
  unfold Oper.wp
  rw [hrun]
  obtain ⟨tl, htl⟩ := h2
  refine ⟨_, _, _, ha.put hd, hr.setRow (new := ⟨e.cells.take of ++ v.cells.toList ++ e.cells.drop (of + m), e.elem, e.size⟩) hm (fun k hk => setRow_other w b k _ hk) (setRow_heap w b cur _ e.elem _ h1) ?_ ?_,
    Fr.setRow hm (fun k hk => setRow_other w b k _ hk) rfl rfl rfl (by simp [World.setRow]), hK⟩
  · simp only [Nat.add_zero, Array.length_toList, hv]
    refine ⟨tl, ?_⟩
    rw [← htl, List.take_append_of_le_length (by omega), List.drop_append_of_le_length (by omega)]
    simp
  · simp [hv]; omega

theorem sound_ap {t e : TypeId} {i : TypeInfo} {z : Value} {x y : Operand} (hd : ∀ t, o.dst = some t → t < n) (ha : Agree n σ a) (hr : Rel F M w)
    (ho : o.op = .call { callee := .builtin .append, args := #[x, y], argTypes := #[t, t] }) (he : elemT P t = some e) (hi : P.info? e = some i) (hz : i.zero = some z)
    (hzs : z.cells.size = i.size) (hp : 0 < i.size) (h : stepK P s o.dst (.ap e i.size i.bytes x y) K σ F M) : o.wp P a w (St n K F M w) Q := by
  obtain ⟨v, hx, u, hy, k, xs, hown, m, ys, hsrc, hpl, hlen, hby, hK⟩ := h
  have hrow := own_row hr hown
  obtain ⟨hyl, hsrc⟩ := hsrc
  have run : ∀ v' w', (Builtin.append_ #[t, t] o.type #[v, u]).run P w = .ok v' w' → (execOp a.eval o).run P w = .ok (.value v') w' := by
    intro v' w' hh
    unfold execOp
    simp [ho, resolve, invoke, builtin, ha.ev hx, ha.ev hy, hh]
  rcases hsrc with ⟨rfl, rfl⟩ | ⟨ad, cap, rfl, hys⟩
  · -- nothing is appended
    have hh := run_append_owned_none (P := P) (w := w) 0 t o.type e i i.size (elemT_spec he) hi v k xs hrow
    unfold Oper.wp
    rw [run _ _ hh]
    have hy0 : ys = [] := by simpa using hyl
    subst hy0
    refine ⟨_, F, M, ha.put hd, hr, Fr.refl _ _ _, hK v M ?_⟩
    obtain ⟨hxl, hown⟩ := hown
    rcases hown with ⟨rfl, rfl⟩ | ⟨g, c, rfl, hm, hn, hc⟩
    · exact .inl ⟨rfl, rfl, rfl, rfl⟩
    · refine .inr ⟨g, c, .inl ⟨c, rfl⟩, by simp, by simpa using hn, hc, ?_⟩
      funext q
      by_cases hq : q = g
      · subst hq; simp [hm]
      · rw [Hp.upd_ne hq]
  · have hnews := src_cells hr hyl hys
    have hown' := hown
    obtain ⟨hxl, hown⟩ := hown
    have hsmall : k + m ≤ 9223372036854775807 := by simp only [maxLen] at hlen; omega
    rcases hown with ⟨rfl, rfl⟩ | ⟨g, c, rfl, hm, hn, hc⟩
    · -- onto nil
      have hx0 : xs = [] := by simpa using hxl
      subst hx0
      obtain ⟨v', w', hh, hrow', hgr, hiff⟩ := run_append_own (P := P) w w.heap.size t o.type e i z i.size i.bytes (elemT_spec he) hi hz rfl rfl hzs hp _ 0 [] (World.ownsRow_nil w _ e i.size) ad m cap ys hyl
        hnews hpl hlen hby (Nat.le_refl _)
      unfold Oper.wp
      rw [run _ _ hh]
      obtain ⟨hl', hrow'⟩ := hrow'
      have hblock : ∀ q, q < w.heap.size → w'.heap[q]? = w.heap[q]? := fun q hq => hgr.block q hq (by simp [Value.ownBlock])
      have hr' : Rel F M w' := ⟨fun b c hb => by
          obtain ⟨c0, e0, fr, h1, h2⟩ := hr.fz b c hb
          exact ⟨c0, e0, fr, by rw [hblock b (Array.getElem?_eq_some_iff.1 h1).1]; exact h1, h2⟩, fun b c hb => by
          obtain ⟨c0, h1, h2⟩ := hr.mu b c hb
          exact ⟨c0, by rw [hblock b (Array.getElem?_eq_some_iff.1 h1).1]; exact h1, h2⟩, hr.ap⟩
      rcases hrow' with ⟨rfl, h0⟩ | ⟨g, cap', cur, rfl, hge, hg, hn, hc, hcs, htk⟩
      · obtain ⟨_, hm0⟩ := hiff.1 rfl
        subst hm0
        exact ⟨_, F, M, ha.put hd, hr', ⟨hgr.os, hgr.tape, hgr.output, hgr.size, fun b hb h => ⟨hblock b hb, h, id⟩⟩, hK _ M (.inl ⟨rfl, rfl, rfl, rfl⟩)⟩
      · have hf := hr.fresh hge
        have hpre : ([] ++ ys) <+: cur.toList := ⟨cur.toList.drop ((0 + m) * i.size), by rw [← htk, List.take_append_drop]⟩
        refine ⟨_, F, M.upd g ⟨[] ++ ys, e, cap' * i.size⟩, ha.put hd, ⟨hr'.fz, fun b c hb => ?_, fun b hb => ?_⟩,
          ⟨hgr.os, hgr.tape, hgr.output, hgr.size, fun b hb h => ⟨hblock b hb, by rw [Hp.upd_ne (by omega)]; exact h, id⟩⟩, hK _ _ (.inr ⟨g, cap', .inr hf, rfl, hn, hc, rfl⟩)⟩
        · by_cases hbg : b = g
          · subst hbg
            simp only [Hp.upd_same, Option.some.injEq] at hb
            subst hb
            exact ⟨cur, hg, hpre, hcs⟩
          · rw [Hp.upd_ne hbg] at hb; exact hr'.mu b c hb
        · by_cases hbg : b = g
          · subst hbg; exact hf.1
          · rw [Hp.upd_ne hbg] at hb; exact hr.ap b hb
    · obtain ⟨cur, h1, ⟨tl, h2⟩, h3⟩ := hr.mu g _ hm
      simp only at h2 h3
      have hcl : cur.toList.take (k * i.size) = xs := by rw [← h2, ← hxl, List.take_left]
      by_cases hroom : k + m ≤ c
      · have hfit : k * i.size + ys.length ≤ cur.size := by rw [hyl, h3, ← Nat.add_mul]; exact Nat.mul_le_mul_right _ hroom
        have hh := run_append_room (P := P) w t o.type e i (elemT_spec he) hi g k c cur h1 ad m cap ys hyl hnews hpl hroom hfit
        unfold Oper.wp
        rw [run _ _ hh]
        refine ⟨_, _, _, ha.put hd, hr.setRow (new := ⟨xs ++ ys, e, c * i.size⟩) hm (fun q hq => setRow_other w g q _ hq) (setRow_heap w g cur _ e _ h1) ?_ ?_,
          Fr.setRow hm (fun q hq => setRow_other w g q _ hq) rfl rfl rfl (by simp [World.setRow]), hK _ _ (.inr ⟨g, c, .inl ⟨c, rfl⟩, rfl, hroom, hc, rfl⟩)⟩
        · exact ⟨cur.toList.drop (k * i.size + ys.length), by simp [hcl]⟩
        · simp; omega
      · have holds : ∀ j u, xs[j]? = some u → w.cell? ((⟨g, 0, none⟩ : Addr).add j) = some u := (own_row hr hown').cells (g := g) rfl
        have hh := run_append_grow (P := P) w t o.type e i z (elemT_spec he) hi hz ⟨g, 0, none⟩ k c xs hxl holds ad m cap ys hyl hnews (by omega) (by omega) (growslice_fits (by omega) hby)
        have hge := grownCap_ge w (k + m) c e
        have hcm := grownCap_le_maxLen w (k + m) c e hlen
        unfold Oper.wp
        rw [run _ _ hh]
        have hdr : Rel F M w.drew := hr.like ⟨rfl, rfl, rfl, rfl⟩
        have hall := hdr.alloc ((xs ++ ys) ++ (Builtin.zeroCells z.cells (grownCap w (k + m) c e - (k + m))).toList) e
        have hf := hr.fresh (Nat.le_refl _)
        refine ⟨_, F, M.upd w.heap.size ⟨xs ++ ys, e, grownCap w (k + m) c e * i.size⟩, ha.put hd, ⟨fun b c hb => ?_, fun b c hb => ?_, fun b hb => ?_⟩,
          ⟨rfl, rfl, rfl, by simp, fun b hb h => ⟨heap_alloc_old w.drew _ b hb, by rw [Hp.upd_ne (by omega)]; exact h, id⟩⟩, hK _ _ (.inr ⟨w.heap.size, _, .inr hf, rfl, hge, hcm, rfl⟩)⟩
        · obtain ⟨c0, e0, fr, g1, g2⟩ := hr.fz b c hb
          exact ⟨c0, e0, fr, by rw [heap_alloc_old w.drew _ b (Array.getElem?_eq_some_iff.1 g1).1]; exact g1, g2⟩
        · by_cases hbg : b = w.heap.size
          · subst hbg
            simp only [Hp.upd_same, Option.some.injEq] at hb
            subst hb
            refine ⟨_, heap_alloc_new w.drew _, ?_, ?_⟩
            · exact ⟨(Builtin.zeroCells z.cells (grownCap w (k + m) c e - (k + m))).toList, by simp⟩
            · simp only [Array.size_append, List.size_toArray, size_zeroCells, hzs, hxl, hyl, ← Nat.add_mul]
              congr 1
              omega
          · rw [Hp.upd_ne hbg] at hb
            obtain ⟨c0, g1, g2⟩ := hr.mu b c hb
            exact ⟨c0, by rw [heap_alloc_old w.drew _ b (Array.getElem?_eq_some_iff.1 g1).1]; exact g1, g2⟩
        · by_cases hbg : b = w.heap.size
          · subst hbg; exact hf.1
          · rw [Hp.upd_ne hbg] at hb; exact hr.ap b hb

theorem sound_ca {c : Call} {f : Operand} (hd : ∀ t, o.dst = some t → t < n) (ha : Agree n σ a) (hr : Rel F M w) (ho : o.op = .call c) (hc : c.callee = .value f)
    (h : stepK P s o.dst (.ca f c.args.toList) K σ F M) : o.wp P a w (St n K F M w) Q := by
  obtain ⟨g, fi, ca, hf, vs, hvs, ⟨⟨fn, hfn, hname, hbody⟩, hcall⟩⟩ := h
  have hargs := map_of_evs ha hvs
  have e1 : (fi ++ vs.toArray ++ ca) = (fi.toList ++ vs ++ ca.toList).toArray := by
    apply Array.ext'
    simp
  unfold Oper.wp execOp
  simp only [ho, resolve, hc, hargs, ha.ev hf, Deferred.ofValue, Sem.run_bind, Sem.run_pure, Result.andThen_ok, invoke, callFunc, run_program, hfn, hname, hbody, Bool.false_eq_true, if_false, e1]
  rw [Oper.upon_enter]
  refine (hcall w hr).mono ?_
  rintro e w' ⟨v, F', M', rfl, h1, h2, _, h3⟩
  exact ⟨_, _, _, ha.put hd, h1, h2, h3⟩

theorem sound_cp {t t' e e' : TypeId} {es : Nat} {x y : Operand} (hd : ∀ t, o.dst = some t → t < n) (ha : Agree n σ a) (hr : Rel F M w)
    (ho : o.op = .call { callee := .builtin .copy, args := #[x, y], argTypes := #[t, t'] }) (he : elemT P t = some e) (_he' : elemT P t' = some e') (hes : sizeT P e = some es)
    (h : stepK P s o.dst (.cp es x y) K σ F M) : o.wp P a w (St n K F M w) Q := by
  obtain ⟨b, of, k, cp, hx, u, hy, m, ys, ⟨hyl, hsrc⟩, hpl, en, hm, hlen, hK⟩ := h
  obtain ⟨cur, h1, ⟨tl, h2⟩, h3⟩ := hr.mu b en hm
  have hmin : Nat.min m k = min m k := rfl
  have hle : min m k * es ≤ k * es := Nat.mul_le_mul_right _ (Nat.min_le_right _ _)
  have hle' : min m k * es ≤ m * es := Nat.mul_le_mul_right _ (Nat.min_le_left _ _)
  have hnl : (ys.take (min m k * es)).length = min m k * es := by rw [List.length_take, hyl]; omega
  have hcur : en.cells.length ≤ cur.size := by have := congrArg List.length h2; simp at this; omega
  have hst := run_storeCells_at P b of en.elem (ys.take (min m k * es)) 0 cur w h1 (by rw [hnl]; omega) (fun v hv => hpl v (List.mem_of_mem_take hv))
  have hfirst : (Builtin.firstCells es (min m k) u).run P w = .ok (ys.take (min m k * es)).toArray w ∧ (Builtin.lenOf u).run P w = .ok m w := by
    rcases hsrc with ⟨rfl, rfl⟩ | ⟨ad, cap, rfl, hys⟩
    · simp [Builtin.firstCells, Builtin.lenOf]
    · have hc := src_cells hr hyl hys
      have := run_loadCells_list (P := P) w ad (ys.take (min m k * es)) (fun j v hj => hc j v (by
        rw [List.getElem?_take] at hj
        split at hj
        · exact hj
        · simp at hj))
      rw [hnl] at this
      simp [Builtin.firstCells, Builtin.lenOf, this]
  have hrun : (execOp a.eval o).run P w = .ok (.value (.int .i64 (min m k : Nat))) (w.setRow b (cur.toList.take (of + 0) ++ ys.take (min m k * es) ++ cur.toList.drop (of + 0 + (ys.take (min m k * es)).length)).toArray) := by
    unfold execOp
    simp only [ho, resolve, invoke, builtin, List.map_toArray, List.map_cons, List.map_nil, ha.ev hx, ha.ev hy, Sem.run_bind, Sem.run_pure, Result.andThen_ok]
    simp [Builtin.copy_, run_underlying (elemT_spec he), hfirst.1, hfirst.2, run_sizeOf hes, hmin]
    simp at hst
    simp [hst, goInt]
  unfold Oper.wp
  rw [hrun]
  refine ⟨_, _, _, ha.put hd, hr.setRow (new := ⟨en.cells.take of ++ ys.take (min m k * es) ++ en.cells.drop (of + min m k * es), en.elem, en.size⟩) hm (fun q hq => setRow_other w b q _ hq) (setRow_heap w b cur _ en.elem _ h1) ?_ ?_,
    Fr.setRow hm (fun q hq => setRow_other w b q _ hq) rfl rfl rfl (by simp [World.setRow]), hK⟩
  · rw [hnl]
    refine ⟨tl, ?_⟩
    simp only [Nat.add_zero]
    rw [← h2, List.take_append_of_le_length (by omega), List.drop_append_of_le_length (by omega)]
    simp
  · rw [hnl]; simp [hnl]; omega

theorem step_sound {k : SK} (hd : ∀ t, o.dst = some t → t < n) (ha : Agree n σ a) (hr : Rel F M w) (hk : slimK P o = some k) (h : stepK P s o.dst k K σ F M) :
    o.wp P a w (St n K F M w) Q := by
  unfold slimK at hk
  split at hk
  · rename_i q hq
    simp at hk; subst hk
    exact sound_p (s := s) hd ha hr hq h
  · split at hk
    · rename_i e ho
      cases hz : zeroT P e with
      | none => simp [hz] at hk
      | some z =>
        simp [hz] at hk; subst hk
        obtain ⟨zv, h1, h2⟩ := run_zeroValue hz w
        refine sound_new (c := z) (e := e) hd ha hr ?_ (h _ (hr.fresh (Nat.le_refl _)).1 (hr.fresh (Nat.le_refl _)).2)
        unfold execOp
        have h3 : zv.cells = z.toArray := by rw [← h2]
        simp [ho, Instr.alloc, h1, newVar, newRow, h3]
    · rename_i e x ho
      simp at hk; subst hk
      obtain ⟨v, hx, hK⟩ := h
      refine sound_new (c := v.cells.toList) (e := e) hd ha hr ?_ (hK _ (hr.fresh (Nat.le_refl _)).1 (hr.fresh (Nat.le_refl _)).2)
      unfold execOp
      simp [ho, Instr.box, ha.ev hx, newVar, newRow]
    · rename_i t len parts ho
      cases he : elemT P t with
      | none => simp [he] at hk
      | some e =>
        cases hs : sizeT P e with
        | none => simp [he, hs] at hk
        | some es =>
          cases hz : zeroT P e with
          | none => simp [he, hs, hz] at hk
          | some z =>
            simp [he, hs, hz] at hk
            obtain ⟨⟨h24, hzl⟩, rfl⟩ := hk
            obtain ⟨ps, hp, cs, hf, hK⟩ := h
            obtain ⟨zv, h1, h2⟩ := run_zeroValue hz w
            obtain ⟨h3, h4⟩ := evParts_get ha hp
            refine sound_new (c := cs) (e := e) hd ha hr ?_ (hK _ (hr.fresh (Nat.le_refl _)).1 (hr.fresh (Nat.le_refl _)).2)
            have hzc : zv.cells = z.toArray := by rw [← h2]
            have hcells : ((Array.range (len * es)).map fun i => z.toArray[i % z.toArray.size]!).toList = (List.replicate len z).flatten := by
              rw [Array.toList_map, Array.toList_range, ← hzl]
              exact flatten_replicate_mod z len
            have hfill := fillV_sound (fun i => some (i * es, es)) (parts.toList.map fun (i, x) => (i, a.eval x)) ps
              ((Array.range (len * es)).map fun i => z.toArray[i % z.toArray.size]!) cs (by simp [h3])
              (fun j i u hj => by
                rw [List.getElem?_map] at hj
                cases hj' : parts.toList[j]? with
                | none => rw [hj'] at hj; simp at hj
                | some y =>
                  obtain ⟨i', x⟩ := y
                  rw [hj'] at hj
                  simp at hj
                  obtain ⟨rfl, rfl⟩ := hj
                  exact ⟨_, _, rfl, h4 j (i' * es) es x (by rw [List.getElem?_map, hj']; rfl)⟩) (by rw [hcells]; exact hf)
            have h24' : ¬ (len * es > 2 ^ 24) := by omega
            unfold execOp
            by_cases h0 : len * es = 0
            · have hfill0 : Instr.fill (fun i => some (i * es, es)) #[] (parts.toList.map fun (i, x) => (i, a.eval x)) = some cs.toArray := by
                rw [h0] at hfill
                simpa [Array.range_zero'] using hfill
              simp [ho, Instr.buildSlice, run_underlying (elemT_spec he), run_sizeOf hs, h0, Array.range_zero', hfill0, newRow]
            · simp only [ho, Instr.buildSlice, Sem.run_bind, run_underlying (elemT_spec he), Result.andThen_ok, run_sizeOf hs, h24', if_false, Sem.run_pure, h0, h1, hzc, Array.toList_map]
              rw [hfill]
              simp [newRow]
    · rename_i t x y ho
      cases hn : sizeT P t with
      | none => simp [hn] at hk
      | some m =>
        simp [hn] at hk; subst hk
        exact sound_st (s := s) hd ha hr ho hn h
    · rename_i t l c ho
      cases he : elemT P t with
      | none => simp [he] at hk
      | some e =>
        cases hs : sizeT P e with
        | none => simp [he, hs] at hk
        | some es =>
          cases hz : zeroT P e with
          | none => simp [he, hs, hz] at hk
          | some z =>
            cases hi : P.info? e with
            | none => simp [he, hs, hz, hi] at hk
            | some i =>
              simp [he, hs, hz, hi] at hk
              obtain ⟨hzl, rfl⟩ := hk
              obtain ⟨k, p, hl, k', m, hc, hpm, hmm, hby, hK⟩ := h
              have hsz : i.size = es := by simpa [sizeT, hi] using hs
              cases hzi : i.zero with
              | none => simp [zeroT, hi, hzi] at hz
              | some zv =>
                have hzc : zv.cells = z.toArray := by
                  have : zv.cells.toList = z := by simpa [zeroT, hi, hzi] using hz
                  rw [← this]
                have hm9 : (m : Int) ≤ 9223372036854775807 := by simp only [maxLen] at hmm; omega
                have hb' : (i.bytes : Int) * (m : Int) ≤ 281474976710656 := by
                  have h : ((i.bytes * m : Nat) : Int) ≤ 281474976710656 := by rw [Nat.mul_comm] at hby; omega
                  rwa [Int.natCast_mul] at h
                have hrun := run_make (P := P) w t e i zv (elemT_spec he) hi hzi k k' p m (by omega) (by omega) hb' hm9
                have hcells : (madeCells zv.cells ((m : Int).toNat * i.size)).toList = (List.replicate m z).flatten := by
                  rw [hzc, madeCells, Array.toList_map, Array.toList_range, hsz, ← hzl]
                  simpa using flatten_replicate_mod z m
                have hcells' : madeCells zv.cells ((m : Int).toNat * i.size) = ((List.replicate m z).flatten).toArray := by rw [← hcells]
                have hlen : ((List.replicate m z).flatten).length = m * es := by simp [hzl]
                refine sound_new (c := (List.replicate m z).flatten) (e := e) (v := .slice (some ⟨w.heap.size, 0, none⟩) p m) hd ha hr ?_ ?_
                · unfold execOp
                  simp only [ho, ha.ev hl, ha.ev hc, Sem.run_bind, hrun, Result.andThen_ok, Sem.run_pure, hcells']
                  simp only [Int.toNat_natCast]
                · rw [hlen]
                  exact hK _ (hr.fresh (Nat.le_refl _)).1 (hr.fresh (Nat.le_refl _)).2
    · rename_i c ho
      split at hk
      · rename_i x y t t' h1 h2 h3
        split at hk
        · rename_i htt
          subst htt
          cases he : elemT P t with
          | none => simp [he] at hk
          | some e =>
            cases hi : P.info? e with
            | none => simp [he, hi] at hk
            | some i =>
              cases hz : i.zero with
              | none => simp [he, hi, hz] at hk
              | some z =>
                simp [he, hi, hz] at hk
                obtain ⟨⟨hzs, hp⟩, rfl⟩ := hk
                obtain ⟨callee, args, argTypes⟩ := c
                simp only at h1 h2 h3
                obtain rfl : args = #[x, y] := by rw [← Array.toArray_toList (xs := args), h2]
                obtain rfl : argTypes = #[t, t] := by rw [← Array.toArray_toList (xs := argTypes), h3]
                subst h1
                exact sound_ap (s := s) hd ha hr ho he hi hz hzs hp h
        · simp at hk
      · rename_i x y t t' h1 h2 h3
        cases he : elemT P t with
        | none => simp [he] at hk
        | some e =>
          cases he' : elemT P t' with
          | none => simp [he, he'] at hk
          | some e' =>
            cases hs : sizeT P e with
            | none => simp [he, he', hs] at hk
            | some es =>
              simp [he, he', hs] at hk; subst hk
              obtain ⟨callee, args, argTypes⟩ := c
              simp only at h1 h2 h3
              obtain rfl : args = #[x, y] := by rw [← Array.toArray_toList (xs := args), h2]
              obtain rfl : argTypes = #[t, t'] := by rw [← Array.toArray_toList (xs := argTypes), h3]
              subst h1
              exact sound_cp (s := s) hd ha hr ho he he' hs h
      · rename_i f h1
        simp at hk; subst hk
        exact sound_ca (s := s) hd ha hr ho h1 h
      · simp at hk
    · simp at hk

theorem slimK_st {fl : List Nat} {m : Nat} {x y : Operand} (h : slimK P o = some (.st fl m x y)) : fl = [] := by
  unfold slimK at h
  split at h
  · simp at h
  · split at h
    · simp at h
    · simp at h
    · simp [Option.bind_eq_some_iff] at h
    · simp at h; obtain ⟨_, _, h, _⟩ := h; exact h
    · simp [Option.bind_eq_some_iff] at h
    · split at h
      · split at h
        · simp [Option.bind_eq_some_iff] at h
        · simp at h
      · simp [Option.bind_eq_some_iff] at h
      · simp at h
      · simp at h
    · simp at h

/-- A store that says, too, which loads may come behind it. -/
def _root_.Go.Ax.SK.withFl : SK → List Nat → SK
  | .st _ n a x, fl => .st fl n a x
  | .ca f a, _ :: _ => .cq f a
  | k, _ => k
theorem step_sound_fl {k : SK} {fl : List Nat} (hd : ∀ t, o.dst = some t → t < n) (ha : Agree n σ a) (hr : Rel F M w) (hk : slimK P o = some k) (h : stepK P s o.dst (k.withFl fl) K σ F M) :
    o.wp P a w (St n K F M w) Q := by
  by_cases hst : ∃ fl' m x y, k = .st fl' m x y
  · obtain ⟨fl', m, x, y, rfl⟩ := hst
    refine step_sound (s := s) hd ha hr hk ?_
    simp only [SK.withFl, stepK] at h
    obtain ⟨b, of, h1, v, h2, e, h3, h4, h5, h6, h7, h8⟩ := h
    have hfl : fl' = [] := slimK_st hk
    subst hfl
    exact ⟨b, of, h1, v, h2, e, h3, h4, h5, h6, by simp, h8⟩
  · by_cases hca : ∃ f args b l, k = .ca f args ∧ fl = b :: l
    · obtain ⟨f, args, b, l, rfl, rfl⟩ := hca
      refine step_sound (s := false) hd ha hr hk ?_
      obtain ⟨g, fi, c, h1, vs, h2, h3⟩ := h
      exact ⟨g, fi, c, h1, vs, h2, h3.mono fun v F' M' q => ⟨(fun e => by cases e), q⟩⟩
    · have : k.withFl fl = k := by
        cases k <;> first | rfl | (exfalso; exact hst ⟨_, _, _, _, rfl⟩) | (cases fl <;> first | rfl | (exfalso; exact hca ⟨_, _, _, _, rfl, rfl⟩))
      rw [this] at h
      exact step_sound (s := s) hd ha hr hk h
end

end Go.Ax

/- Regions: in the text's order, and in whatever order is drawn. -/
namespace Go.Ax
open Go
set_option linter.unusedSimpArgs false

theorem wanted_iff {P : Program} {n m : Nat} {σ : Env} {a : Act} {ops : Array Oper} {o : Oper} {so : SO} (ha : Agree n σ a) (hs : slimO P m ops o = some so) :
    (so.g = none → Region.wanted o (yielded ops a.tmps) = true) ∧
    (∀ t want v, so.g = some (t, want) → look σ t = some v → (Region.wanted o (yielded ops a.tmps) = true ↔ v = .bool want)) ∧ so.d = o.dst ∧ (∀ t, o.dst = some t → t < m) ∧ slimK P o = some so.k := by
  unfold slimO at hs
  cases hk : slimK P o with
  | none => simp [hk] at hs
  | some k =>
    simp only [hk] at hs
    split at hs
    · rename_i hd
      have hd' : ∀ t, o.dst = some t → t < m := fun t ht => by simpa [ht] using hd
      split at hs
      · rename_i hg
        simp at hs; subst hs
        exact ⟨fun _ => by simp [Region.wanted, hg], fun t want v h => by simp at h, rfl, hd', rfl⟩
      · rename_i j want hg
        cases hj : (ops[j]?).bind (·.dst) with
        | none => simp [hj] at hs
        | some t =>
          simp [hj] at hs; subst hs
          refine ⟨fun h => by simp at h, fun t' want' v h hv => ?_, rfl, hd', rfl⟩
          simp at h
          obtain ⟨rfl, rfl⟩ := h
          have := ha.get t v hv
          simp only [Region.wanted, hg, yielded, hj, Option.bind_some, this]
          cases v <;> simp
    · simp at hs

section
variable {P : Program} {n : Nat} {ops : Array Oper} {Q : Exit → Act → World → Prop}

theorem ops_sound {s : Bool} {K : Env → Fz → Hp → Prop} {F0 : Fz} {M0 : Hp} {w0 : World} (hQ : ∀ a w, St n K F0 M0 w0 a w → Q .normal a w) :
    ∀ {os : List Oper} {sos : List SO} {σ : Env} {F : Fz} {M : Hp} {a : Act} {w : World}, os.mapM (slimO P n ops) = some sos → Agree n σ a → Rel F M w → Fr F0 M0 w0 F M w →
      opsW P s sos K σ F M → wpList P ops Q os a w := by
  intro os
  induction os with
  | nil =>
    intro sos σ F M a w hs ha hr hf h
    simp at hs; subst hs
    exact hQ a w ⟨σ, F, M, ha, hr, hf, h⟩
  | cons o os ih =>
    intro sos σ F M a w hs ha hr hf h
    simp only [List.mapM_cons, Option.bind_eq_bind, Option.pure_def] at hs
    cases ho : slimO P n ops o with
    | none => simp [ho] at hs
    | some so =>
      cases hos : os.mapM (slimO P n ops) with
      | none => simp [ho, hos] at hs
      | some rest =>
        simp [ho, hos] at hs; subst hs
        obtain ⟨h1, h2, h3, h4, h5⟩ := wanted_iff ha ho
        simp only [opsW, stepG] at h
        have next : ∀ a' w', St n (opsW P s rest K) F M w a' w' → wpList P ops Q os a' w' := fun a' w' ⟨σ', F', M', ha', hr', hf', h'⟩ => ih hos ha' hr' (hf.trans hf') h'
        have run : stepK P s so.d so.k (opsW P s rest K) σ F M → o.wp P a w (wpList P ops Q os) Q := fun hk => by
          rw [h3] at hk
          exact Oper.wp_mono next (step_sound (s := s) h4 ha hr h5 hk)
        unfold wpList
        cases hg : so.g with
        | none => rw [hg] at h; rw [if_pos (h1 hg)]; exact .inl (run h)
        | some g =>
          obtain ⟨t, want⟩ := g
          rw [hg] at h
          obtain ⟨v, hv, hy, hn⟩ := h
          have hiff := h2 t want v hg hv
          by_cases hb : v = .bool want
          · rw [if_pos (hiff.2 hb)]; exact .inl (run (hy hb))
          · rw [if_neg (fun e => hb (hiff.1 e))]
            have := hn hb
            rw [h3] at this
            exact ih hos (ha.put h4) hr hf this
end

/-- Operands. -/
def PK.ops : PK → List Operand
  | .mv x | .un _ x | .cv _ x | .fa _ x | .fd _ _ _ x | .ld _ _ x | .ex x _ | .ln x | .ls x | .nc x | .sn _ x => [x]
  | .pick c a b => [c, a, b]
  | .bin _ x y | .eqb _ x y | .eqs _ _ x y | .ia _ x y | .iaa _ _ x y | .ix _ _ _ x y | .si x y => [x, y]
  | .bd _ ps => ps.map (·.2.2)
  | .mf _ f c => f ++ c
  | .sl _ x lo hi => x :: (lo.toList ++ hi.toList)
  | .mx xs | .mn xs => xs
def SK.ops : SK → List Operand
  | .p q => q.ops
  | .al _ _ => []
  | .bx _ x => [x]
  | .bs _ _ _ ps => ps.map (·.2.2)
  | .ap _ _ _ x y | .ms _ _ _ _ x y | .cp _ x y => [x, y]
  | .st _ _ x y => [x, y]
  | .ca f args => f :: args
  | .cq f args => f :: args
/-- Addresses' variables of loads that may come behind a store. -/
def SK.fls : SK → List Nat
  | .st fl _ _ _ => fl
  | _ => []
/-- Does it leave all that is known? -/
def SK.mono (s : Bool) : SK → Bool
  | .st .. | .cp .. => false
  | .ca .. => s
  | .cq .. => false
  | _ => true
def PK.still : PK → Bool
  | .ld .. => false
  | _ => true

theorem evs_congr {σ σ' : Env} : ∀ {l : List Operand} {vs : List Value}, (∀ x ∈ l, ∀ v, ev σ x = some v → ev σ' x = some v) → evs σ l = some vs → evs σ' l = some vs := by
  intro l
  induction l with
  | nil => intro vs _ h; exact h
  | cons x l ih =>
    intro vs h hv
    simp only [evs] at hv ⊢
    cases hx : ev σ x with
    | none => simp [hx] at hv
    | some u =>
      cases hl : evs σ l with
      | none => simp [hx, hl] at hv
      | some us =>
        rw [h x (by simp) u hx, ih (fun y hy => h y (by simp [hy])) hl]
        simpa [hx, hl] using hv
theorem evParts_congr {σ σ' : Env} : ∀ {l : List (Nat × Nat × Operand)} {vs : List (Nat × Nat × Value)}, (∀ x ∈ l.map (·.2.2), ∀ v, ev σ x = some v → ev σ' x = some v) → evParts σ l = some vs → evParts σ' l = some vs := by
  intro l
  induction l with
  | nil => intro vs _ h; exact h
  | cons x l ih =>
    intro vs h hv
    obtain ⟨o, m, x⟩ := x
    simp only [evParts] at hv ⊢
    cases hx : ev σ x with
    | none => simp [hx] at hv
    | some u =>
      cases hl : evParts σ l with
      | none => simp [hx, hl] at hv
      | some us =>
        rw [h x (by simp) u hx, ih (fun y hy => h y (by simp only [List.map_cons, List.mem_cons]; exact .inr hy)) hl]
        simpa [hx, hl] using hv

theorem val_congr {σ σ' : Env} {F F' : Fz} {M M' : Hp} {q : PK} {v : Value} (h : ∀ x ∈ q.ops, ∀ v, ev σ x = some v → ev σ' x = some v) (hm : q.still = true ∨ Le F M F' M')
    (hv : q.val σ F M = some v) : q.val σ' F' M' = some v := by
  have one : ∀ {x : Operand}, x ∈ q.ops → ∀ {u : Value}, ev σ x = some u → ev σ' x = some u := fun {x} hx {u} hu => h x hx u hu
  cases q <;> simp only [PK.ops] at h one <;> simp only [PK.val] at hv ⊢
  case mv x => exact one (by simp) hv
  case pick c a b =>
    split at hv
    · rename_i t ht
      rw [one (by simp) ht]
      cases t
      · simp at hv ⊢; exact one (by simp) hv
      · simp at hv ⊢; exact one (by simp) hv
    · simp at hv
  case bin o x y =>
    cases hx : ev σ x with
    | none => simp [hx] at hv
    | some u => cases hy : ev σ y with
      | none => simp [hx, hy] at hv
      | some z => rw [one (by simp) hx, one (by simp) hy]; simpa [hx, hy] using hv
  case eqb neg x y =>
    split at hv
    · rename_i hx hy; rw [one (by simp) hx, one (by simp) hy]; exact hv
    · simp at hv
  case eqs e neg x y =>
    split at hv
    · rename_i hx hy; rw [one (by simp) hx, one (by simp) hy]; exact hv
    · simp at hv
  case un o x =>
    cases hx : ev σ x with
    | none => simp [hx] at hv
    | some u => rw [one (by simp) hx]; simpa [hx] using hv
  case cv k x => split at hv <;> first | (rename_i hx; rw [one (by simp) hx]; exact hv) | simp at hv
  case fa off x => split at hv <;> first | (rename_i hx; rw [one (by simp) hx]; exact hv) | simp at hv
  case ia es x i => split at hv <;> first | (rename_i hx hi; rw [one (by simp) hx, one (by simp) hi]; exact hv) | simp at hv
  case iaa len es x i => split at hv <;> first | (rename_i hx hi; rw [one (by simp) hx, one (by simp) hi]; exact hv) | simp at hv
  case sn neg x => split at hv <;> first | (rename_i hx; rw [one (by simp) hx]; exact hv) | simp at hv
  case si x i => split at hv <;> first | (rename_i hx hi; rw [one (by simp) hx, one (by simp) hi]; exact hv) | simp at hv
  case fd agg off n x => split at hv <;> first | (rename_i hx; rw [one (by simp) hx]; exact hv) | simp at hv
  case ix agg len es x i => split at hv <;> first | (rename_i hx hi; rw [one (by simp) hx, one (by simp) hi]; exact hv) | simp at hv
  case ld agg n x =>
    split at hv
    · rename_i b o hx
      rw [one (by simp) hx]
      rcases hm with hm | hm
      · simp [PK.still] at hm
      · cases hb : blk F M b with
        | none => simp [hb] at hv
        | some c =>
          obtain ⟨c', hc', hp⟩ := blk_le hm hb
          simp only [hb, Option.bind_some] at hv
          simp only [hc', Option.bind_some]
          exact rd_prefix hv hp
    · simp at hv
  case bd z ps =>
    cases hp : evParts σ ps with
    | none => simp [hp] at hv
    | some vs => rw [evParts_congr h hp]; simpa [hp] using hv
  case ex x i => split at hv <;> first | (rename_i hx; rw [one (by simp) hx]; exact hv) | simp at hv
  case mf fn f c =>
    cases hf : evs σ f with
    | none => simp [hf, fnV] at hv
    | some fv => cases hc : evs σ c with
      | none => simp [hf, hc, fnV] at hv
      | some cv =>
        rw [evs_congr (fun x hx => h x (by simp [hx])) hf, evs_congr (fun x hx => h x (by simp [hx])) hc]
        simpa [hf, hc] using hv
  case sl es x lo hi =>
    cases hx : ev σ x with
    | none => simp [hx] at hv
    | some u =>
      rw [one (by simp) hx]
      rw [hx] at hv
      cases lo with
      | none => cases hi with
        | none => exact hv
        | some k => cases hk : ev σ k with
          | none => cases u <;> simp [hk] at hv
          | some kv => simp only [Option.map_some, Option.map_none, one (x := k) (by simp) hk]; simpa only [Option.map_some, Option.map_none, hk] using hv
      | some l => cases hl : ev σ l with
        | none => cases u <;> cases hi <;> simp [hl] at hv
        | some lv => cases hi with
          | none => simp only [Option.map_some, Option.map_none, one (x := l) (by simp) hl]; simpa only [Option.map_some, Option.map_none, hl] using hv
          | some k => cases hk : ev σ k with
            | none => cases u <;> cases lv <;> simp [hl, hk] at hv
            | some kv => simp only [Option.map_some, one (x := l) (by simp) hl, one (x := k) (by simp) hk]; simpa only [Option.map_some, hl, hk] using hv
  case ls x => split at hv <;> first | (rename_i hx; rw [one (by simp) hx]; exact hv) | simp at hv
  case ln x => split at hv <;> first | (rename_i hx; rw [one (by simp) hx]; exact hv) | simp at hv
  case mx xs =>
    cases hp : evs σ xs with
    | none => simp [hp] at hv
    | some vs => rw [evs_congr h hp]; simpa [hp] using hv
  case mn xs =>
    cases hp : evs σ xs with
    | none => simp [hp] at hv
    | some vs => rw [evs_congr h hp]; simpa [hp] using hv
  case nc x => split at hv <;> first | (rename_i hx; rw [one (by simp) hx]; exact hv) | simp at hv

end Go.Ax
