/- Parts A4to5: the machine's runs of small codes, contracts of functions, plain facts. -/
import Derived.Laws.Small
import Derived.Laws.AppendOwn
import Derived.Test.YtmaclakgkllojaaA0to3
/- What a small operation that computes or reads tells is what the machine does: all of them. -/
namespace Go.Ax
open Go
set_option linter.unusedSimpArgs false

section
variable {P : Program} {n : Nat} {σ : Env} {a : Act} {F : Fz} {M : Hp} {w : World} {v : Value}

theorem run_indexS {t e : TypeId} {es : Nat} {b o len cap : Nat} {k : IntKind} {i : Int} (he : elemT P t = some e) (hs : sizeT P e = some es) (h : 0 ≤ i ∧ i < len) :
    (Instr.indexAt t (.slice (some ⟨b, o, none⟩) len cap) (.int k i)).run P w = .ok (.pointer (some ⟨b, o + i.toNat * es, none⟩)) w := by
  simp [Instr.indexAt, asIntOf, run_underlying (elemT_spec he), run_sizeOf hs, h, Addr.add_lit]
theorem run_indexA {t e : TypeId} {m es : Nat} {b o : Nat} {k : IntKind} {i : Int} (he : arrT P t = some (m, e)) (hs : sizeT P e = some es) (h : 0 ≤ i ∧ i < m) :
    (Instr.indexAt t (.pointer (some ⟨b, o, none⟩)) (.int k i)).run P w = .ok (.pointer (some ⟨b, o + i.toNat * es, none⟩)) w := by
  simp [Instr.indexAt, asIntOf, run_underlying (arrT_spec he), Instr.sureAddr, run_sizeOf hs, h, Addr.add_lit]

theorem evs_val (ha : Agree n σ a) {l : List Operand} {vs : List Value} (h : evs σ l = some vs) : l.map a.eval = vs := ha.evs h

theorem val_sound_bd {t : TypeId} {parts : Array (Nat × Operand)} {q : PK} (ha : Agree n σ a) (hq : slimP P (.build t parts) = some q) (hv : q.val σ F M = some v) :
    (Instr.build t (parts.map fun (i, x) => (i, a.eval x))).run P w = .ok v w := by
  simp only [slimP] at hq
  cases hz : zeroT P t with
  | none => simp [hz] at hq
  | some z =>
    obtain ⟨zv, hzr, hzc⟩ := run_zeroValue hz w
    have hzc' : zv.cells = z.toArray := by rw [← hzc]
    rw [hz] at hq
    simp only [Option.bind_some] at hq
    split at hq
    · rename_i fs hd
      cases hl : fieldsT P fs.toList with
      | none => simp [hl] at hq
      | some ls =>
        cases hp : placesT ls parts.toList with
        | none => simp [hl, hp] at hq
        | some ps =>
          simp [hl, hp] at hq
          subst hq
          obtain ⟨h1, h2⟩ := placesT_get hp
          simp only [PK.val] at hv
          cases hpv : evParts σ ps with
          | none => simp [hpv] at hv
          | some pv =>
            obtain ⟨h3, h4⟩ := evParts_get ha hpv
            cases hf : fillV z pv with
            | none => simp [hpv, hf] at hv
            | some cs =>
              simp [hpv, hf] at hv
              subst hv
              have hpl : (fs.mapM fun f => (do pure (f.offset, ← sizeOf f.type) : Sem (Nat × Nat))).run P w = .ok ls.toArray w := by
                have := run_places (P := P) w fs.toList ls hl
                rw [Array.mapM_eq_mapM_toList]
                simp only [bind_pure_comp, Sem.run_map, this, Result.andThen_ok]
              have := fillV_sound (ls.toArray[·]?) (parts.toList.map fun (i, x) => (i, a.eval x)) pv z.toArray cs (by simp [h3, h1])
                (fun j i u hj => by
                  rw [List.getElem?_map] at hj
                  cases hj' : parts.toList[j]? with
                  | none => rw [hj'] at hj; simp at hj
                  | some y =>
                    obtain ⟨i', x⟩ := y
                    rw [hj'] at hj
                    simp at hj
                    obtain ⟨rfl, rfl⟩ := hj
                    obtain ⟨o, m, h5, h6⟩ := h2 j i' x hj'
                    exact ⟨o, m, by simpa using h5, h4 j o m x h6⟩) (by simpa using hf)
              simp only [Instr.build, Sem.run_bind, hzr, Result.andThen_ok, hzc', run_underlying hd]
              rw [hpl]
              simp only [Result.andThen_ok, Array.toList_map, this, Sem.run_pure]
    · rename_i m e hd
      cases hs : sizeT P e with
      | none => simp [hs] at hq
      | some es =>
        simp [hs] at hq
        subst hq
        simp only [PK.val] at hv
        cases hpv : evParts σ (parts.toList.map fun (i, x) => (i * es, es, x)) with
        | none => simp [hpv] at hv
        | some pv =>
          obtain ⟨h3, h4⟩ := evParts_get ha hpv
          cases hf : fillV z pv with
          | none => simp [hpv, hf] at hv
          | some cs =>
            simp [hpv, hf] at hv
            subst hv
            have := fillV_sound (fun i => some (i * es, es)) (parts.toList.map fun (i, x) => (i, a.eval x)) pv z.toArray cs (by simp [h3])
              (fun j i u hj => by
                rw [List.getElem?_map] at hj
                cases hj' : parts.toList[j]? with
                | none => rw [hj'] at hj; simp at hj
                | some y =>
                  obtain ⟨i', x⟩ := y
                  rw [hj'] at hj
                  simp at hj
                  obtain ⟨rfl, rfl⟩ := hj
                  exact ⟨_, _, rfl, h4 j (i' * es) es x (by rw [List.getElem?_map, hj']; rfl)⟩) (by simpa using hf)
            simp [Instr.build, hzr, hzc', run_underlying hd, run_sizeOf hs, Array.toList_map, this]
    · simp at hq

theorem map_of_evs (ha : Agree n σ a) {f : Array Operand} {vs : List Value} (h : evs σ f.toList = some vs) : f.map a.eval = vs.toArray := by
  rw [← ha.evs h, ← Array.toList_map, Array.toArray_toList]
theorem run_bool_eql {t : TypeId} {x y : Bool} (h : P.underlying t = some .bool) : (binOp .eql t (.bool x) (.bool y)).run P w = .ok (.bool (x == y)) w := by
  simp only [binOp, Sem.run_bind, run_equal_bool w _ _ _ h, Result.andThen_ok, Sem.run_pure]
theorem run_bool_neq {t : TypeId} {x y : Bool} (h : P.underlying t = some .bool) : (binOp .neq t (.bool x) (.bool y)).run P w = .ok (.bool (!(x == y))) w := by
  simp only [binOp, Sem.run_bind, run_equal_bool w _ _ _ h, Result.andThen_ok, Sem.run_pure]

theorem run_slice_in (d : Nat) {t et : TypeId} {ad : Option Addr} {m c : Nat} (h : P.underlying t = some (.slice et)) : (Op.equalIn (d + 1) t (.slice ad m c) (.slice none 0 0)).run P w = .ok ad.isNone w := by
  cases ad <;> simp [Op.equalIn, run_underlying h]
theorem run_slice_eql {t et : TypeId} {ad : Option Addr} {m c : Nat} (h : P.underlying t = some (.slice et)) : (binOp .eql t (.slice ad m c) (.slice none 0 0)).run P w = .ok (.bool ad.isNone) w := by
  have : (Op.equal t (.slice ad m c) (.slice none 0 0)).run P w = .ok ad.isNone w := run_slice_in 9999 h
  simp only [binOp, Sem.run_bind, this, Result.andThen_ok, Sem.run_pure]
theorem run_slice_neq {t et : TypeId} {ad : Option Addr} {m c : Nat} (h : P.underlying t = some (.slice et)) : (binOp .neq t (.slice ad m c) (.slice none 0 0)).run P w = .ok (.bool (!ad.isNone)) w := by
  have : (Op.equal t (.slice ad m c) (.slice none 0 0)).run P w = .ok ad.isNone w := run_slice_in 9999 h
  simp only [binOp, Sem.run_bind, this, Result.andThen_ok, Sem.run_pure]

/-- ONE LAW FOR ALL OPERATIONS THAT COMPUTE OR READ. -/
theorem val_sound {o : Oper} {q : PK} (ha : Agree n σ a) (hr : Rel F M w) (hq : slimP P o.op = some q) (hv : q.val σ F M = some v) :
    (execOp a.eval o).run P w = .ok (.value v) w := by
  obtain ⟨dst, op, type, pos, after, guard⟩ := o
  simp only at hq
  unfold execOp
  simp only
  cases op <;> dsimp only <;> simp only [slimP, reduceCtorEq] at hq
  case move x => simp at hq; subst hq; simp [ha.ev (x := x) hv]
  case assign x => simp at hq; subst hq; simp [ha.ev (x := x) hv]
  case pick c x y =>
    simp at hq; subst hq
    simp only [PK.val] at hv
    split at hv
    · rename_i t ht
      cases t <;> simp at hv <;> simp [ha.ev ht, asBool, ha.ev hv]
    · simp at hv
  case binOp bo t x y yt =>
    split at hq
    · simp at hq; subst hq
      simp only [PK.val] at hv
      cases hx : ev σ x with
      | none => simp [hx] at hv
      | some u =>
        cases hy : ev σ y with
        | none => simp [hx, hy] at hv
        | some z =>
          simp [hx, hy] at hv
          have := run_binV (P := P) (w := w) (t := t) (x := x) (y := y) hv
          rw [ha.ev hx, ha.ev hy, Sem.run_bind, this]
          rfl
    · rename_i hd
      cases bo <;> simp at hq
      all_goals
        subst hq
        simp only [PK.val] at hv
        split at hv
        · rename_i hx hy
          simp at hv; subst hv
          rw [ha.ev hx, ha.ev hy]
          simp only [eqGuard_at_bool, Sem.run_bind, Sem.run_pure, Result.andThen_ok, run_bool_eql hd, run_bool_neq hd, Bool.false_bne, Bool.true_bne, Bool.false_xor, Bool.true_xor]
        · simp at hv
    · rename_i et hd
      have key : ∀ {neg : Bool}, PK.val σ F M (.sn neg x) = some v → ∃ ad n c, a.eval x = .slice ad n c ∧ v = .bool (xor neg ad.isNone) := by
        intro neg hv
        simp only [PK.val] at hv
        split at hv
        · rename_i ad n' c hx
          simp at hv; subst hv
          exact ⟨ad, n', c, ha.ev hx, rfl⟩
        · simp at hv
      cases bo <;> simp at hq
      all_goals
        obtain ⟨hy, hq⟩ := hq
        subst hq
        obtain rfl := nilS_spec hy
        obtain ⟨ad, n', c, hx, rfl⟩ := key hv
        have ec : a.eval (.const (.slice none 0 0)) = .slice none 0 0 := rfl
        rw [hx, ec]
        simp only [eqGuard_at_slice, Sem.run_bind, Sem.run_pure, Result.andThen_ok, run_slice_eql hd, run_slice_neq hd, Bool.false_xor, Bool.true_xor]
    · rename_i fs hst
      split at hq
      · simp at hq
      · rename_i hg
        cases bo <;> simp at hq
        all_goals
          obtain ⟨e, he, rfl⟩ := hq
          simp only [PK.val] at hv
          split at hv
          · rename_i u z hx hy
            cases hr' : eqV e u z with
            | none => simp [hr'] at hv
            | some r =>
              simp [hr'] at hv; subst hv
              rw [ha.ev hx, ha.ev hy]
              have hag : ∃ xs ys, u = .agg xs ∧ z = .agg ys := by
                rw [eqT, hst] at he
                simp at he
                obtain ⟨_, es, _, rfl⟩ := he
                cases u <;> cases z <;> first | exact ⟨_, _, rfl, rfl⟩ | (simp [eqV] at hr'; done)
              obtain ⟨xs, ys, rfl, rfl⟩ := hag
              have hg' : P.eqGuardType P.depth t = false := by simpa using hg
              have := eqV_sound (P := P) w 9 (D := 10000) (by omega) he hr'
              simp only [Sem.run_bind, run_eqGuard_agg w _ t x y xs ys hg', Result.andThen_ok, run_eql_struct, run_neq_struct, this, Sem.run_pure, Bool.false_bne, Bool.true_bne]
          · simp at hv
    · simp at hq
  case unOp uo t x =>
    simp at hq; subst hq
    simp only [PK.val] at hv
    cases hx : ev σ x with
    | none => simp [hx] at hv
    | some u => simp [hx] at hv; simp [ha.ev hx, run_unV hv]
  case convert s d x =>
    split at hq
    · rename_i k1 k2 h1 h2
      simp at hq; subst hq
      simp only [PK.val] at hv
      split at hv
      · rename_i k m hx
        simp at hv; subst hv
        rw [ha.ev hx]
        simp [convert, run_underlying h1, run_underlying h2, Conv.intToInt]
      · simp at hv
    · simp at hq
  case fieldAddr s x f =>
    cases hf : fieldT P s f with
    | none => simp [hf] at hq
    | some fd =>
      cases hn : sizeT P fd.type with
      | none => simp [hf, hn] at hq
      | some m =>
        simp [hf, hn] at hq
        obtain ⟨h0, rfl⟩ := hq
        simp only [PK.val] at hv
        split at hv
        · rename_i b o hx
          simp at hv; subst hv
          rw [ha.ev hx]
          simp [run_fieldAt hf hn h0]
        · simp at hv
  case indexAddr t x i =>
    split at hq
    · rename_i e he
      cases hs : sizeT P e with
      | none => simp [hs] at hq
      | some es =>
        simp [hs] at hq; subst hq
        simp only [PK.val] at hv
        split at hv
        · rename_i b o len cap k m hx hi
          split at hv
          · rename_i hb
            simp at hv; subst hv
            rw [ha.ev hx, ha.ev hi]
            simp [run_indexS he hs hb]
          · simp at hv
        · simp at hv
    · cases he : arrT P t with
      | none => simp [he] at hq
      | some p =>
        obtain ⟨m, e⟩ := p
        cases hs : sizeT P e with
        | none => simp [he, hs] at hq
        | some es =>
          simp [he, hs] at hq; subst hq
          simp only [PK.val] at hv
          split at hv
          · rename_i b o k j hx hi
            split at hv
            · rename_i hb
              simp at hv; subst hv
              rw [ha.ev hx, ha.ev hi]
              simp [run_indexA he hs hb]
            · simp at hv
          · simp at hv
  case field t x f =>
    cases hf : fieldT P t f with
    | none => simp [hf] at hq
    | some fd =>
      cases hb : aggT P fd.type with
      | none => simp [hf, hb] at hq
      | some b =>
        cases hn : sizeT P fd.type with
        | none => simp [hf, hb, hn] at hq
        | some m =>
          simp [hf, hb, hn] at hq; subst hq
          simp only [PK.val] at hv
          split at hv
          · rename_i cs hx
            rw [ha.ev hx]
            have hd : ∃ fs, P.underlying t = some (.struct fs) ∧ fs[f]? = some fd := by
              unfold fieldT at hf
              split at hf
              · exact ⟨_, by assumption, hf⟩
              · simp at hf
            obtain ⟨fs, hd, hfs⟩ := hd
            simp [Instr.field, run_underlying hd, hfs, asAgg, run_part hb hn hv]
          · simp at hv
  case index t x i =>
    split at hq
    · rename_i hd
      simp at hq; subst hq
      simp only [PK.val] at hv
      split at hv
      · rename_i z k j hx hi
        split at hv
        · rename_i h0
          cases hz : z[j.toNat]? with
          | none => simp [hz] at hv
          | some b =>
            simp [hz] at hv; subst hv
            rw [ha.ev hx, ha.ev hi]
            simp [Instr.index, asIntOf, run_underlying hd, h0, hz]
        · simp at hv
      · simp at hv
    rename_i hnd
    cases he : arrT P t with
    | none => simp [he] at hq
    | some p =>
      obtain ⟨m, e⟩ := p
      cases hb : aggT P e with
      | none => simp [he, hb] at hq
      | some b =>
        cases hs : sizeT P e with
        | none => simp [he, hb, hs] at hq
        | some es =>
          simp [he, hb, hs] at hq; subst hq
          simp only [PK.val] at hv
          split at hv
          · rename_i cs k j hx hi
            split at hv
            · rename_i hbd
              rw [ha.ev hx, ha.ev hi]
              simp [Instr.index, asIntOf, run_underlying (arrT_spec he), hbd, run_sizeOf hs, run_part hb hs hv]
            · simp at hv
          · simp at hv
  case load t x =>
    cases hb : aggT P t with
    | none => simp [hb] at hq
    | some b =>
      cases hn : sizeT P t with
      | none => simp [hb, hn] at hq
      | some m =>
        simp [hb, hn] at hq; subst hq
        simp only [PK.val] at hv
        split at hv
        · rename_i g o hx
          cases hc : blk F M g with
          | none => simp [hc] at hv
          | some c =>
            simp [hc] at hv
            rw [ha.ev hx]
            simp [Instr.loadAt, Instr.sureAddr, run_loadVar hr hb hn hc hv]
        · simp at hv
  case build t parts => simp [val_sound_bd (t := t) (parts := parts) (w := w) ha (by simpa only [slimP] using hq) hv]
  case extract x i =>
    simp at hq; subst hq
    simp only [PK.val] at hv
    split at hv
    · rename_i vs hx
      rw [ha.ev hx]
      simp [Instr.extract, hv]
    · simp at hv
  case makeFunc fn f c =>
    simp at hq; subst hq
    simp only [PK.val] at hv
    cases hf : evs σ f.toList with
    | none => simp [hf, fnV] at hv
    | some fv =>
      cases hc : evs σ c.toList with
      | none => simp [hf, hc, fnV] at hv
      | some cv =>
        simp [hf, hc, fnV] at hv; subst hv
        have e1 : f.map a.eval = fv.toArray := map_of_evs ha hf
        have e2 : c.map a.eval = cv.toArray := map_of_evs ha hc
        simp [Instr.makeFunc, e1, e2]
  case slice t x lo hi mx =>
    cases mx with
    | some _ => simp at hq
    | none =>
      simp only at hq
      cases he : elemT P t with
      | none => simp [he] at hq
      | some e =>
        cases hs : sizeT P e with
        | none => simp [he, hs] at hq
        | some es =>
          simp [he, hs] at hq; subst hq
          have := val_sound_sl (w := w) ha he hs hv
          simp [this]
  case nilCheck x =>
    simp at hq; subst hq
    simp only [PK.val] at hv
    split at hv
    · rename_i ad hx
      simp at hv; subst hv
      rw [ha.ev hx]
      simp
    · simp at hv
  case call c =>
    obtain ⟨callee, args, argTypes⟩ := c
    simp only at hq
    unfold slimB at hq
    split at hq
    · rename_i x t h1 h2
      obtain rfl : args = #[x] := by rw [← Array.toArray_toList (xs := args), h1]
      obtain rfl : argTypes = #[t] := by rw [← Array.toArray_toList (xs := argTypes), h2]
      split at hq
      · rename_i e he
        simp at hq; subst hq
        simp only [PK.val] at hv
        split at hv
        · rename_i ad m cap hx
          simp at hv; subst hv
          simp [resolve, invoke, builtin, ha.ev hx, Builtin.len_, run_underlying he, goInt]
        · simp at hv
      · rename_i he
        simp at hq; subst hq
        simp only [PK.val] at hv
        split at hv
        · rename_i z hx
          simp at hv; subst hv
          simp [resolve, invoke, builtin, ha.ev hx, Builtin.len_, run_underlying he, goInt]
        · simp at hv
      · simp at hq
    · simp at hq; subst hq
      simp only [PK.val] at hv
      cases hx : evs σ args.toList with
      | none => simp [hx] at hv
      | some vs =>
        rw [hx] at hv
        have e1 : args.map a.eval = vs.toArray := map_of_evs ha hx
        simp only [resolve, invoke, builtin, e1, Builtin.max_, Sem.run_bind, Sem.run_pure, Result.andThen_ok]
        simp only [Option.bind_some] at hv
        split at hv
        · rename_i b l
          cases hm : maxV b l with
          | none => simp [hm] at hv
          | some m => simp [hm] at hv; subst hv; simp [maxV_fold hm]
        · simp at hv
    · simp at hq; subst hq
      simp only [PK.val] at hv
      cases hx : evs σ args.toList with
      | none => simp [hx] at hv
      | some vs =>
        rw [hx] at hv
        have e1 : args.map a.eval = vs.toArray := map_of_evs ha hx
        simp only [resolve, invoke, builtin, e1, Builtin.min_, Sem.run_bind, Sem.run_pure, Result.andThen_ok]
        simp only [Option.bind_some] at hv
        split at hv
        · rename_i b l
          cases hm : minV b l with
          | none => simp [hm] at hv
          | some m => simp [hm] at hv; subst hv; simp [minV_fold hm]
        · simp at hv
    · simp at hq
end

end Go.Ax

/- The small code's steps: what they ask and what they leave; and that the machine does so. -/
namespace Go.Ax
open Go
set_option linter.unusedSimpArgs false

/-- σ' knows all that σ knows. -/
def Env.le (σ σ' : Env) : Prop := ∀ t v, look σ t = some v → look σ' t = some v

theorem Agree.mono {n : Nat} {σ σ' : Env} {a : Act} (h : Agree n σ' a) (hl : Env.le σ σ') : Agree n σ a := ⟨h.size, h.defers, fun t v ht => h.get t v (hl t v ht)⟩

/-- A slice that owns its block from its begin on. -/
def Own (M : Hp) (e es : Nat) (v : Value) (n : Nat) (xs : List Value) : Prop :=
  xs.length = n * es ∧ ((v = .slice none 0 0 ∧ n = 0) ∨ ∃ g cap, v = .slice (some ⟨g, 0, none⟩) n cap ∧ M g = some ⟨xs, e, cap * es⟩ ∧ n ≤ cap ∧ cap ≤ maxLen)

/-- A slice that can be read: its cells. -/
def Src (F : Fz) (M : Hp) (es : Nat) (u : Value) (m : Nat) (ys : List Value) : Prop :=
  ys.length = m * es ∧ (u = .slice none 0 0 ∧ m = 0 ∨ ∃ a cap, u = .slice (some a) m cap ∧ (m = 0 ∨ ∃ b o cs, a = ⟨b, o, none⟩ ∧ blk F M b = some cs ∧ (cs.drop o).take (m * es) = ys))

def plainCells (l : List Value) : Prop := ∀ u ∈ l, u.oneCell' = true

/-- What an append leaves. -/
def ApRes (F : Fz) (M : Hp) (e es : Nat) (v : Value) (n m : Nat) (zs : List Value) (v' : Value) (M' : Hp) : Prop :=
  (v = .slice none 0 0 ∧ m = 0 ∧ v' = .slice none 0 0 ∧ M' = M) ∨
  ∃ r cap, ((∃ c, v = .slice (some ⟨r, 0, none⟩) n c) ∨ (F r = none ∧ M r = none)) ∧ v' = .slice (some ⟨r, 0, none⟩) (n + m) cap ∧ n + m ≤ cap ∧ cap ≤ maxLen ∧ M' = M.upd r ⟨zs, e, cap * es⟩

inductive SK where
  | p (q : PK)
  | al (e : TypeId) (z : List Value)
  | bx (e : TypeId) (x : Operand)
  | bs (e : TypeId) (len : Nat) (z : List Value) (parts : List (Nat × Nat × Operand))
  | ap (e es bytes : Nat) (x y : Operand)
  | st (fl : List Nat) (n : Nat) (a x : Operand)
  | ms (e es bytes : Nat) (z : List Value) (l c : Operand)
  | cp (es : Nat) (x y : Operand)
  | ca (f : Operand) (args : List Operand)
  | cq (f : Operand) (args : List Operand)

/-- One step. strict: a call must leave all that is known. -/
def stepK (P : Program) (strict : Bool) (d : Option Nat) (k : SK) (K : Env → Fz → Hp → Prop) (σ : Env) (F : Fz) (M : Hp) : Prop :=
  match k with
  | .p q => ∃ v, q.val σ F M = some v ∧ K (put σ d v) F M
  | .al e z => ∀ r, F r = none → M r = none → K (put σ d (.pointer (some ⟨r, 0, none⟩))) F (M.upd r ⟨z, e, z.length⟩)
  | .bx e x => ∃ v, ev σ x = some v ∧ ∀ r, F r = none → M r = none → K (put σ d (.pointer (some ⟨r, 0, none⟩))) F (M.upd r ⟨v.cells.toList, e, v.cells.toList.length⟩)
  | .bs e len z parts => ∃ ps, evParts σ parts = some ps ∧ ∃ cs, fillV z ps = some cs ∧
      ∀ r, F r = none → M r = none → K (put σ d (.slice (some ⟨r, 0, none⟩) len len)) F (M.upd r ⟨cs, e, cs.length⟩)
  | .ap e es bytes x y => ∃ v, ev σ x = some v ∧ ∃ u, ev σ y = some u ∧ ∃ n xs, Own M e es v n xs ∧ ∃ m ys, Src F M es u m ys ∧ plainCells ys ∧
      n + m ≤ maxLen ∧ (n + m) * bytes ≤ 140737488355328 ∧ ∀ v' M', ApRes F M e es v n m (xs ++ ys) v' M' → K (put σ d v') F M'
  | .st fl n a x => ∃ b o, ev σ a = some (.pointer (some ⟨b, o, none⟩)) ∧ ∃ v, ev σ x = some v ∧ ∃ e, M b = some e ∧ v.cells.size = n ∧ plainCells v.cells.toList ∧
      o + n ≤ e.cells.length ∧ (∀ t ∈ fl, ∃ b' o', look σ t = some (.pointer (some ⟨b', o', none⟩)) ∧ b' ≠ b) ∧ K (put σ d undef) F (M.upd b ⟨e.cells.take o ++ v.cells.toList ++ e.cells.drop (o + n), e.elem, e.size⟩)
  | .ms e es bytes z l c => ∃ k n, ev σ l = some (.int k (n : Nat)) ∧ ∃ k' m, ev σ c = some (.int k' (m : Nat)) ∧ n ≤ m ∧ m ≤ maxLen ∧ m * bytes ≤ 140737488355328 ∧
      ∀ r, F r = none → M r = none → K (put σ d (.slice (some ⟨r, 0, none⟩) n m)) F (M.upd r ⟨(List.replicate m z).flatten, e, m * es⟩)
  | .cp es x y => ∃ b o n c, ev σ x = some (.slice (some ⟨b, o, none⟩) n c) ∧ ∃ u, ev σ y = some u ∧ ∃ m ys, Src F M es u m ys ∧ plainCells ys ∧ ∃ e, M b = some e ∧
      o + n * es ≤ e.cells.length ∧
      K (put σ d (.int .i64 (min m n : Nat))) F (M.upd b ⟨e.cells.take o ++ ys.take (min m n * es) ++ e.cells.drop (o + min m n * es), e.elem, e.size⟩)
  | .ca f args => ∃ g fi ca, ev σ f = some (.func (.func g) fi ca) ∧ ∃ vs, evs σ args = some vs ∧
      CallsA P g (fi.toList ++ vs ++ ca.toList) F M fun v F' M' => (strict = true → Le F M F' M') ∧ K (put σ d v) F' M'
  | .cq f args => ∃ g fi ca, ev σ f = some (.func (.func g) fi ca) ∧ ∃ vs, evs σ args = some vs ∧
      CallsA P g (fi.toList ++ vs ++ ca.toList) F M fun v F' M' => K (put σ d v) F' M'

theorem stepK_mono {P : Program} {s : Bool} {d : Option Nat} {k : SK} {K K' : Env → Fz → Hp → Prop} {σ : Env} {F : Fz} {M : Hp}
    (h : ∀ σ F M, K σ F M → K' σ F M) (hh : stepK P s d k K σ F M) : stepK P s d k K' σ F M := by
  cases k <;> simp only [stepK] at hh ⊢
  case p q => obtain ⟨v, h1, h2⟩ := hh; exact ⟨v, h1, h _ _ _ h2⟩
  case al e z => exact fun r h1 h2 => h _ _ _ (hh r h1 h2)
  case bx e x => obtain ⟨v, h1, h2⟩ := hh; exact ⟨v, h1, fun r a b => h _ _ _ (h2 r a b)⟩
  case bs e len z parts => obtain ⟨ps, h1, cs, h2, h3⟩ := hh; exact ⟨ps, h1, cs, h2, fun r a b => h _ _ _ (h3 r a b)⟩
  case ap e es bytes x y => obtain ⟨v, h1, u, h2, n, xs, h3, m, ys, h4, h5, h6, h7, h8⟩ := hh; exact ⟨v, h1, u, h2, n, xs, h3, m, ys, h4, h5, h6, h7, fun v' M' a => h _ _ _ (h8 v' M' a)⟩
  case st fl n a x => obtain ⟨b, o, h1, v, h2, e, h3, h4, h5, h6, h7, h8⟩ := hh; exact ⟨b, o, h1, v, h2, e, h3, h4, h5, h6, h7, h _ _ _ h8⟩
  case ms e es bytes z l c => obtain ⟨k, n, h1, k', m, h2, h3, h4, h5, h6⟩ := hh; exact ⟨k, n, h1, k', m, h2, h3, h4, h5, fun r a b => h _ _ _ (h6 r a b)⟩
  case cp es x y => obtain ⟨b, o, n, c, h1, u, h2, m, ys, h3, h4, e, h5, h6, h7⟩ := hh; exact ⟨b, o, n, c, h1, u, h2, m, ys, h3, h4, e, h5, h6, h _ _ _ h7⟩
  case ca f args => obtain ⟨g, fi, c, h1, vs, h2, h3⟩ := hh; exact ⟨g, fi, c, h1, vs, h2, h3.mono fun v F' M' ⟨a, b⟩ => ⟨a, h _ _ _ b⟩⟩
  case cq f args => obtain ⟨g, fi, c, h1, vs, h2, h3⟩ := hh; exact ⟨g, fi, c, h1, vs, h2, h3.mono fun v F' M' b => h _ _ _ b⟩

structure SO where
  d : Option Nat
  g : Option (Nat × Bool)
  k : SK

def stepG (P : Program) (strict : Bool) (o : SO) (K : Env → Fz → Hp → Prop) (σ : Env) (F : Fz) (M : Hp) : Prop :=
  match o.g with
  | none => stepK P strict o.d o.k K σ F M
  | some (t, want) => ∃ v, look σ t = some v ∧ (v = .bool want → stepK P strict o.d o.k K σ F M) ∧ (v ≠ .bool want → K (put σ o.d undef) F M)

theorem stepG_mono {P : Program} {s : Bool} {o : SO} {K K' : Env → Fz → Hp → Prop} {σ : Env} {F : Fz} {M : Hp}
    (h : ∀ σ F M, K σ F M → K' σ F M) (hh : stepG P s o K σ F M) : stepG P s o K' σ F M := by
  unfold stepG at *
  split
  · rename_i hg; rw [hg] at hh; exact stepK_mono h hh
  · rename_i t want hg
    rw [hg] at hh
    obtain ⟨v, h1, h2, h3⟩ := hh
    exact ⟨v, h1, fun a => stepK_mono h (h2 a), fun a => h _ _ _ (h3 a)⟩

/-- Steps, one behind the other. -/
def opsW (P : Program) (strict : Bool) : List SO → (Env → Fz → Hp → Prop) → Env → Fz → Hp → Prop
  | [], K => K
  | o :: l, K => stepG P strict o (opsW P strict l K)

/-- The machine's operation as a step. -/
def slimK (P : Program) (o : Oper) : Option SK :=
  match slimP P o.op with
  | some q => some (.p q)
  | none => match o.op with
    | .alloc e => (zeroT P e).map fun z => .al e z
    | .box e x => some (.bx e x)
    | .buildSlice t len parts => (elemT P t).bind fun e => (sizeT P e).bind fun es => (zeroT P e).bind fun z =>
        if len * es ≤ 16777216 ∧ z.length = es then some (.bs e len (List.replicate len z).flatten (parts.toList.map fun (i, x) => (i * es, es, x))) else none
    | .store t a x => (sizeT P t).map fun n => .st [] n a x
    | .makeSlice t l c => (elemT P t).bind fun e => (sizeT P e).bind fun es => (zeroT P e).bind fun z => (P.info? e).bind fun i =>
        if z.length = es then some (.ms e es i.bytes z l c) else none
    | .call c => match c.callee, c.args.toList, c.argTypes.toList with
      | .builtin .append, [x, y], [t, t'] => if t = t' then (elemT P t).bind fun e => (P.info? e).bind fun i => (i.zero).bind fun z =>
          if z.cells.size = i.size ∧ 0 < i.size then some (.ap e i.size i.bytes x y) else none else none
      | .builtin .copy, [x, y], [t, t'] => (elemT P t).bind fun e => (elemT P t').bind fun _ => (sizeT P e).map fun es => .cp es x y
      | .value f, args, _ => some (.ca f args)
      | _, _, _ => none
    | _ => none

def slimO (P : Program) (n : Nat) (ops : Array Oper) (o : Oper) : Option SO :=
  match slimK P o with
  | none => none
  | some k => if o.dst.all (fun d => Nat.blt d n) = true then
      match o.guard with
      | none => some ⟨o.dst, none, k⟩
      | some (j, want) => ((ops[j]?).bind (·.dst)).map fun t => ⟨o.dst, some (t, want), k⟩
    else none

end Go.Ax
