/- What a small operation that computes or reads tells is what the machine does: all of them. -/
import Derived.Test.YtplcaoidiohlmaaAx3
import Derived.Laws.Small
namespace Go.Ax
open Go
set_option linter.unusedSimpArgs false

section
variable {P : Program} {n : Nat} {σ : Env} {a : Act} {F : Fz} {M : Hp} {w : World} {v : Value}

theorem run_indexS {t e : TypeId} {es : Nat} {b o len cap : Nat} {k : IntKind} {i : Int} (he : elemT P t = some e) (hs : sizeT P e = some es) (h : 0 ≤ i ∧ i < len) :
    (Instr.indexAt t (.slice (some ⟨b, o, none⟩) len cap) (.int k i)).run P w = .ok (.pointer (some ⟨b, o + i.toNat * es, none⟩)) w := by
  simp [Instr.indexAt, asIntOf, run_underlying (elemT_spec he), run_sizeOf hs, h, Addr.add_lit]
theorem run_indexA {t e : TypeId} {m es : Nat} {b o : Nat} {k : IntKind} {i : Int} (he : arrT P t = some (m, e)) (hs : sizeT P e = some es) (h : 0 ≤ i ∧ i < m) :
    (Instr.indexAt t (.pointer (some ⟨b, o, none⟩)) (.int k i)).run P w = .ok (.pointer (some ⟨b, o + i.toNat * es, none⟩)) w := by
  simp [Instr.indexAt, asIntOf, run_underlying (arrT_spec he), Instr.sureAddr, run_sizeOf hs, h, Addr.add_lit]

theorem evs_val (ha : Agree n σ a) {l : List Operand} {vs : List Value} (h : evs σ l = some vs) : l.map a.eval = vs := ha.evs h

theorem val_sound_bd {t : TypeId} {parts : Array (Nat × Operand)} {q : PK} (ha : Agree n σ a) (hq : slimP P (.build t parts) = some q) (hv : q.val σ F M = some v) :
    (Instr.build t (parts.map fun (i, x) => (i, a.eval x))).run P w = .ok v w := by
  simp only [slimP] at hq
  cases hz : zeroT P t with
  | none => simp [hz] at hq
  | some z =>
    obtain ⟨zv, hzr, hzc⟩ := run_zeroValue hz w
    have hzc' : zv.cells = z.toArray := by rw [← hzc]
    rw [hz] at hq
    simp only [Option.bind_some] at hq
    split at hq
    · rename_i fs hd
      cases hl : fieldsT P fs.toList with
      | none => simp [hl] at hq
      | some ls =>
        cases hp : placesT ls parts.toList with
        | none => simp [hl, hp] at hq
        | some ps =>
          simp [hl, hp] at hq
          subst hq
          obtain ⟨h1, h2⟩ := placesT_get hp
          simp only [PK.val] at hv
          cases hpv : evParts σ ps with
          | none => simp [hpv] at hv
          | some pv =>
            obtain ⟨h3, h4⟩ := evParts_get ha hpv
            cases hf : fillV z pv with
            | none => simp [hpv, hf] at hv
            | some cs =>
              simp [hpv, hf] at hv
              subst hv
              have hpl : (fs.mapM fun f => (do pure (f.offset, ← sizeOf f.type) : Sem (Nat × Nat))).run P w = .ok ls.toArray w := by
                have := run_places (P := P) w fs.toList ls hl
                rw [Array.mapM_eq_mapM_toList]
                simp only [bind_pure_comp, Sem.run_map, this, Result.andThen_ok]
              have := fillV_sound (ls.toArray[·]?) (parts.toList.map fun (i, x) => (i, a.eval x)) pv z.toArray cs (by simp [h3, h1])
                (fun j i u hj => by
                  rw [List.getElem?_map] at hj
                  cases hj' : parts.toList[j]? with
                  | none => rw [hj'] at hj; simp at hj
                  | some y =>
                    obtain ⟨i', x⟩ := y
                    rw [hj'] at hj
                    simp at hj
                    obtain ⟨rfl, rfl⟩ := hj
                    obtain ⟨o, m, h5, h6⟩ := h2 j i' x hj'
                    exact ⟨o, m, by simpa using h5, h4 j o m x h6⟩) (by simpa using hf)
              simp only [Instr.build, Sem.run_bind, hzr, Result.andThen_ok, hzc', run_underlying hd]
              rw [hpl]
              simp only [Result.andThen_ok, Array.toList_map, this, Sem.run_pure]
    · rename_i m e hd
      cases hs : sizeT P e with
      | none => simp [hs] at hq
      | some es =>
        simp [hs] at hq
        subst hq
        simp only [PK.val] at hv
        cases hpv : evParts σ (parts.toList.map fun (i, x) => (i * es, es, x)) with
        | none => simp [hpv] at hv
        | some pv =>
          obtain ⟨h3, h4⟩ := evParts_get ha hpv
          cases hf : fillV z pv with
          | none => simp [hpv, hf] at hv
          | some cs =>
            simp [hpv, hf] at hv
            subst hv
            have := fillV_sound (fun i => some (i * es, es)) (parts.toList.map fun (i, x) => (i, a.eval x)) pv z.toArray cs (by simp [h3])
              (fun j i u hj => by
                rw [List.getElem?_map] at hj
                cases hj' : parts.toList[j]? with
                | none => rw [hj'] at hj; simp at hj
                | some y =>
                  obtain ⟨i', x⟩ := y
                  rw [hj'] at hj
                  simp at hj
                  obtain ⟨rfl, rfl⟩ := hj
                  exact ⟨_, _, rfl, h4 j (i' * es) es x (by rw [List.getElem?_map, hj']; rfl)⟩) (by simpa using hf)
            simp [Instr.build, hzr, hzc', run_underlying hd, run_sizeOf hs, Array.toList_map, this]
    · simp at hq

theorem map_of_evs (ha : Agree n σ a) {f : Array Operand} {vs : List Value} (h : evs σ f.toList = some vs) : f.map a.eval = vs.toArray := by
  rw [← ha.evs h, ← Array.toList_map, Array.toArray_toList]
theorem run_bool_eql {t : TypeId} {x y : Bool} (h : P.underlying t = some .bool) : (binOp .eql t (.bool x) (.bool y)).run P w = .ok (.bool (x == y)) w := by
  simp only [binOp, Sem.run_bind, run_equal_bool w _ _ _ h, Result.andThen_ok, Sem.run_pure]
theorem run_bool_neq {t : TypeId} {x y : Bool} (h : P.underlying t = some .bool) : (binOp .neq t (.bool x) (.bool y)).run P w = .ok (.bool (!(x == y))) w := by
  simp only [binOp, Sem.run_bind, run_equal_bool w _ _ _ h, Result.andThen_ok, Sem.run_pure]

/-- ONE LAW FOR ALL OPERATIONS THAT COMPUTE OR READ. -/
theorem val_sound {o : Oper} {q : PK} (ha : Agree n σ a) (hr : Rel F M w) (hq : slimP P o.op = some q) (hv : q.val σ F M = some v) :
    (execOp a.eval o).run P w = .ok (.value v) w := by
  obtain ⟨dst, op, type, pos, after, guard⟩ := o
  simp only at hq
  unfold execOp
  simp only
  cases op <;> dsimp only <;> simp only [slimP, reduceCtorEq] at hq
  case move x => simp at hq; subst hq; simp [ha.ev (x := x) hv]
  case assign x => simp at hq; subst hq; simp [ha.ev (x := x) hv]
  case pick c x y =>
    simp at hq; subst hq
    simp only [PK.val] at hv
    split at hv
    · rename_i t ht
      cases t <;> simp at hv <;> simp [ha.ev ht, asBool, ha.ev hv]
    · simp at hv
  case binOp bo t x y yt =>
    split at hq
    · simp at hq; subst hq
      simp only [PK.val] at hv
      cases hx : ev σ x with
      | none => simp [hx] at hv
      | some u =>
        cases hy : ev σ y with
        | none => simp [hx, hy] at hv
        | some z =>
          simp [hx, hy] at hv
          have := run_binV (P := P) (w := w) (t := t) (x := x) (y := y) hv
          rw [ha.ev hx, ha.ev hy, Sem.run_bind, this]
          rfl
    · rename_i hd
      cases bo <;> simp at hq
      all_goals
        subst hq
        simp only [PK.val] at hv
        split at hv
        · rename_i hx hy
          simp at hv; subst hv
          rw [ha.ev hx, ha.ev hy]
          simp only [eqGuard_at_bool, Sem.run_bind, Sem.run_pure, Result.andThen_ok, run_bool_eql hd, run_bool_neq hd, Bool.false_bne, Bool.true_bne, Bool.false_xor, Bool.true_xor]
        · simp at hv
    · rename_i fs hst
      split at hq
      · simp at hq
      · rename_i hg
        cases bo <;> simp at hq
        all_goals
          obtain ⟨e, he, rfl⟩ := hq
          simp only [PK.val] at hv
          split at hv
          · rename_i u z hx hy
            cases hr' : eqV e u z with
            | none => simp [hr'] at hv
            | some r =>
              simp [hr'] at hv; subst hv
              rw [ha.ev hx, ha.ev hy]
              have hag : ∃ xs ys, u = .agg xs ∧ z = .agg ys := by
                rw [eqT, hst] at he
                simp at he
                obtain ⟨_, es, _, rfl⟩ := he
                cases u <;> cases z <;> first | exact ⟨_, _, rfl, rfl⟩ | (simp [eqV] at hr'; done)
              obtain ⟨xs, ys, rfl, rfl⟩ := hag
              have hg' : P.eqGuardType P.depth t = false := by simpa using hg
              have := eqV_sound (P := P) w 9 (D := 10000) (by omega) he hr'
              simp only [Sem.run_bind, run_eqGuard_agg w _ t x y xs ys hg', Result.andThen_ok, run_eql_struct, run_neq_struct, this, Sem.run_pure, Bool.false_bne, Bool.true_bne]
          · simp at hv
    · simp at hq
  case unOp uo t x =>
    simp at hq; subst hq
    simp only [PK.val] at hv
    cases hx : ev σ x with
    | none => simp [hx] at hv
    | some u => simp [hx] at hv; simp [ha.ev hx, run_unV hv]
  case convert s d x =>
    split at hq
    · rename_i k1 k2 h1 h2
      simp at hq; subst hq
      simp only [PK.val] at hv
      split at hv
      · rename_i k m hx
        simp at hv; subst hv
        rw [ha.ev hx]
        simp [convert, run_underlying h1, run_underlying h2, Conv.intToInt]
      · simp at hv
    · simp at hq
  case fieldAddr s x f =>
    cases hf : fieldT P s f with
    | none => simp [hf] at hq
    | some fd =>
      cases hn : sizeT P fd.type with
      | none => simp [hf, hn] at hq
      | some m =>
        simp [hf, hn] at hq
        obtain ⟨h0, rfl⟩ := hq
        simp only [PK.val] at hv
        split at hv
        · rename_i b o hx
          simp at hv; subst hv
          rw [ha.ev hx]
          simp [run_fieldAt hf hn h0]
        · simp at hv
  case indexAddr t x i =>
    split at hq
    · rename_i e he
      cases hs : sizeT P e with
      | none => simp [hs] at hq
      | some es =>
        simp [hs] at hq; subst hq
        simp only [PK.val] at hv
        split at hv
        · rename_i b o len cap k m hx hi
          split at hv
          · rename_i hb
            simp at hv; subst hv
            rw [ha.ev hx, ha.ev hi]
            simp [run_indexS he hs hb]
          · simp at hv
        · simp at hv
    · cases he : arrT P t with
      | none => simp [he] at hq
      | some p =>
        obtain ⟨m, e⟩ := p
        cases hs : sizeT P e with
        | none => simp [he, hs] at hq
        | some es =>
          simp [he, hs] at hq; subst hq
          simp only [PK.val] at hv
          split at hv
          · rename_i b o k j hx hi
            split at hv
            · rename_i hb
              simp at hv; subst hv
              rw [ha.ev hx, ha.ev hi]
              simp [run_indexA he hs hb]
            · simp at hv
          · simp at hv
  case field t x f =>
    cases hf : fieldT P t f with
    | none => simp [hf] at hq
    | some fd =>
      cases hb : aggT P fd.type with
      | none => simp [hf, hb] at hq
      | some b =>
        cases hn : sizeT P fd.type with
        | none => simp [hf, hb, hn] at hq
        | some m =>
          simp [hf, hb, hn] at hq; subst hq
          simp only [PK.val] at hv
          split at hv
          · rename_i cs hx
            rw [ha.ev hx]
            have hd : ∃ fs, P.underlying t = some (.struct fs) ∧ fs[f]? = some fd := by
              unfold fieldT at hf
              split at hf
              · exact ⟨_, by assumption, hf⟩
              · simp at hf
            obtain ⟨fs, hd, hfs⟩ := hd
            simp [Instr.field, run_underlying hd, hfs, asAgg, run_part hb hn hv]
          · simp at hv
  case index t x i =>
    cases he : arrT P t with
    | none => simp [he] at hq
    | some p =>
      obtain ⟨m, e⟩ := p
      cases hb : aggT P e with
      | none => simp [he, hb] at hq
      | some b =>
        cases hs : sizeT P e with
        | none => simp [he, hb, hs] at hq
        | some es =>
          simp [he, hb, hs] at hq; subst hq
          simp only [PK.val] at hv
          split at hv
          · rename_i cs k j hx hi
            split at hv
            · rename_i hbd
              rw [ha.ev hx, ha.ev hi]
              simp [Instr.index, asIntOf, run_underlying (arrT_spec he), hbd, run_sizeOf hs, run_part hb hs hv]
            · simp at hv
          · simp at hv
  case load t x =>
    cases hb : aggT P t with
    | none => simp [hb] at hq
    | some b =>
      cases hn : sizeT P t with
      | none => simp [hb, hn] at hq
      | some m =>
        simp [hb, hn] at hq; subst hq
        simp only [PK.val] at hv
        split at hv
        · rename_i g o hx
          cases hc : blk F M g with
          | none => simp [hc] at hv
          | some c =>
            simp [hc] at hv
            rw [ha.ev hx]
            simp [Instr.loadAt, Instr.sureAddr, run_loadVar hr hb hn hc hv]
        · simp at hv
  case build t parts => simp [val_sound_bd (t := t) (parts := parts) (w := w) ha (by simpa only [slimP] using hq) hv]
  case extract x i =>
    simp at hq; subst hq
    simp only [PK.val] at hv
    split at hv
    · rename_i vs hx
      rw [ha.ev hx]
      simp [Instr.extract, hv]
    · simp at hv
  case makeFunc fn f c =>
    simp at hq; subst hq
    simp only [PK.val] at hv
    cases hf : evs σ f.toList with
    | none => simp [hf, fnV] at hv
    | some fv =>
      cases hc : evs σ c.toList with
      | none => simp [hf, hc, fnV] at hv
      | some cv =>
        simp [hf, hc, fnV] at hv; subst hv
        have e1 : f.map a.eval = fv.toArray := map_of_evs ha hf
        have e2 : c.map a.eval = cv.toArray := map_of_evs ha hc
        simp [Instr.makeFunc, e1, e2]
  case slice t x lo hi mx =>
    cases mx with
    | some _ => simp at hq
    | none =>
      simp only at hq
      cases he : elemT P t with
      | none => simp [he] at hq
      | some e =>
        cases hs : sizeT P e with
        | none => simp [he, hs] at hq
        | some es =>
          simp [he, hs] at hq; subst hq
          have := val_sound_sl (w := w) ha he hs hv
          simp [this]
  case nilCheck x =>
    simp at hq; subst hq
    simp only [PK.val] at hv
    split at hv
    · rename_i ad hx
      simp at hv; subst hv
      rw [ha.ev hx]
      simp
    · simp at hv
  case call c =>
    obtain ⟨callee, args, argTypes⟩ := c
    simp only at hq
    unfold slimB at hq
    split at hq
    · rename_i x t h1 h2
      obtain rfl : args = #[x] := by rw [← Array.toArray_toList (xs := args), h1]
      obtain rfl : argTypes = #[t] := by rw [← Array.toArray_toList (xs := argTypes), h2]
      split at hq
      · rename_i e he
        simp at hq; subst hq
        simp only [PK.val] at hv
        split at hv
        · rename_i ad m cap hx
          simp at hv; subst hv
          simp [resolve, invoke, builtin, ha.ev hx, Builtin.len_, run_underlying he, goInt]
        · simp at hv
      · rename_i he
        simp at hq; subst hq
        simp only [PK.val] at hv
        split at hv
        · rename_i z hx
          simp at hv; subst hv
          simp [resolve, invoke, builtin, ha.ev hx, Builtin.len_, run_underlying he, goInt]
        · simp at hv
      · simp at hq
    · simp at hq; subst hq
      simp only [PK.val] at hv
      cases hx : evs σ args.toList with
      | none => simp [hx] at hv
      | some vs =>
        rw [hx] at hv
        have e1 : args.map a.eval = vs.toArray := map_of_evs ha hx
        simp only [resolve, invoke, builtin, e1, Builtin.max_, Sem.run_bind, Sem.run_pure, Result.andThen_ok]
        simp only [Option.bind_some] at hv
        split at hv
        · rename_i b l
          cases hm : maxV b l with
          | none => simp [hm] at hv
          | some m => simp [hm] at hv; subst hv; simp [maxV_fold hm]
        · simp at hv
    · simp at hq; subst hq
      simp only [PK.val] at hv
      cases hx : evs σ args.toList with
      | none => simp [hx] at hv
      | some vs =>
        rw [hx] at hv
        have e1 : args.map a.eval = vs.toArray := map_of_evs ha hx
        simp only [resolve, invoke, builtin, e1, Builtin.min_, Sem.run_bind, Sem.run_pure, Result.andThen_ok]
        simp only [Option.bind_some] at hv
        split at hv
        · rename_i b l
          cases hm : minV b l with
          | none => simp [hm] at hv
          | some m => simp [hm] at hv; subst hv; simp [minV_fold hm]
        · simp at hv
    · simp at hq
end

end Go.Ax
