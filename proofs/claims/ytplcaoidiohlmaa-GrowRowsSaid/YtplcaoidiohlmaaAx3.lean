/- What a small operation that computes or reads tells is what the machine does. -/
import Derived.Test.YtplcaoidiohlmaaAx2
import Derived.Laws.IdiomAt
import Derived.Laws.StructEq
namespace Go.Ax
open Go
set_option linter.unusedSimpArgs false

theorem placesT_get {ls : List (Nat × Nat)} : ∀ {l : List (Nat × Operand)} {ps : List (Nat × Nat × Operand)}, placesT ls l = some ps →
    ps.length = l.length ∧ ∀ (j i : Nat) (x : Operand), l[j]? = some (i, x) → ∃ o n, ls[i]? = some (o, n) ∧ ps[j]? = some (o, n, x) := by
  intro l
  induction l with
  | nil => intro ps h; simp [placesT] at h; subst h; simp
  | cons y l ih =>
    intro ps h
    obtain ⟨i, x⟩ := y
    simp only [placesT] at h
    cases hf : ls[i]? with
    | none => simp [hf] at h
    | some p =>
      obtain ⟨o, n⟩ := p
      cases hp : placesT ls l with
      | none => simp [hf, hp] at h
      | some qs =>
        simp [hf, hp] at h
        subst h
        obtain ⟨h1, h2⟩ := ih hp
        refine ⟨by simp [h1], fun j k u hj => ?_⟩
        cases j with
        | zero => simp at hj; obtain ⟨rfl, rfl⟩ := hj; exact ⟨o, n, hf, by simp⟩
        | succ j => simpa using h2 j k u (by simpa using hj)

theorem evParts_get {n : Nat} {σ : Env} {a : Act} (ha : Agree n σ a) : ∀ {l : List (Nat × Nat × Operand)} {ps : List (Nat × Nat × Value)}, evParts σ l = some ps →
    ps.length = l.length ∧ ∀ (j o m : Nat) (x : Operand), l[j]? = some (o, m, x) → ps[j]? = some (o, m, a.eval x) := by
  intro l
  induction l with
  | nil => intro ps h; simp [evParts] at h; subst h; simp
  | cons y l ih =>
    intro ps h
    obtain ⟨o, m, x⟩ := y
    simp only [evParts] at h
    cases hx : ev σ x with
    | none => simp [hx] at h
    | some v =>
      cases hp : evParts σ l with
      | none => simp [hx, hp] at h
      | some qs =>
        simp [hx, hp] at h
        subst h
        obtain ⟨h1, h2⟩ := ih hp
        refine ⟨by simp [h1], fun j o' m' u hj => ?_⟩
        cases j with
        | zero => simp at hj; obtain ⟨rfl, rfl, rfl⟩ := hj; simp [ha.ev hx]
        | succ j => simpa using h2 j o' m' u (by simpa using hj)

theorem maxV_fold {P : Program} {w : World} : ∀ {l : List Value} {a m : Int}, maxV a l = some m → (l.foldlM Builtin.max2 (.int .i64 a)).run P w = .ok (.int .i64 m) w := by
  intro l
  induction l with
  | nil => intro a m h; simp [maxV] at h; subst h; simp
  | cons v l ih =>
    intro a m h
    cases v with
    | int k b =>
      cases k with
      | i64 => simp only [maxV] at h; simp [Builtin.max2, ih h]
      | _ => simp [maxV] at h
    | _ => simp [maxV] at h
theorem minV_fold {P : Program} {w : World} : ∀ {l : List Value} {a m : Int}, minV a l = some m → (l.foldlM Builtin.min2 (.int .i64 a)).run P w = .ok (.int .i64 m) w := by
  intro l
  induction l with
  | nil => intro a m h; simp [minV] at h; subst h; simp
  | cons v l ih =>
    intro a m h
    cases v with
    | int k b =>
      cases k with
      | i64 => simp only [minV] at h; simp [Builtin.min2, ih h]
      | _ => simp [minV] at h
    | _ => simp [minV] at h

theorem run_fieldAt {P : Program} {s f : Nat} {fd : Field} {n b o : Nat} (hf : fieldT P s f = some fd) (hn : sizeT P fd.type = some n) (h0 : ¬ n = 0) (w : World) :
    (Instr.fieldAt s (.pointer (some ⟨b, o, none⟩)) f).run P w = .ok (.pointer (some ⟨b, o + fd.offset, none⟩)) w := by
  unfold fieldT at hf
  cases hd : P.underlying s with
  | none => simp [hd] at hf
  | some d =>
    cases d <;> simp [hd] at hf
    rename_i fs
    simp [Instr.fieldAt, run_underlying hd, hf, Instr.sureAddr, fieldPlace, run_sizeOf hn, h0, Addr.add_lit]

theorem elemT_spec {P : Program} {t e : TypeId} (h : elemT P t = some e) : P.underlying t = some (.slice e) := by
  unfold elemT at h
  split at h
  · simp at h; subst h; assumption
  · simp at h
theorem arrT_spec {P : Program} {t : TypeId} {p : Nat × TypeId} (h : arrT P t = some p) : P.underlying t = some (.array p.1 p.2) := by
  unfold arrT at h
  split at h
  · simp at h; subst h; assumption
  · simp at h

theorem eqFs_sound {P : Program} (w : World) {rec : TypeId → Option EK} {D : Nat}
    (ih : ∀ {t : TypeId} {e : EK} {x y : Value} {r : Bool}, rec t = some e → eqV e x y = some r → (Op.equalIn D t x y).run P w = .ok r w) {xs ys : Array Value} :
    ∀ {fs : List Field} {es : List (Bool × Nat × Nat × EK)} {r : Bool}, eqTs P rec fs = some es → eqFs es xs.toList ys.toList = some r → (Op.eqFields D xs ys fs).run P w = .ok r w := by
  intro fs
  induction fs with
  | nil =>
    intro es r he hv
    simp [eqTs] at he; subst he
    simp [eqFs] at hv; subst hv
    simp [Op.eqFields]
  | cons f fs ihf =>
    intro es r he hv
    rw [eqTs] at he
    split at he
    · simp at he
    · rename_i hn
      split at he
      · rename_i b m e rest h1 h2 h3 h4
        simp at he; subst he
        rw [eqFs] at hv
        split at hv
        · rename_i u v hu hv'
          split at hv
          · rename_i q s hq hs
            simp at hv; subst hv
            simp only [Op.eqFields, ne_eq, hn, not_false_eq_true, if_true, Sem.run_bind, run_part h1 h2 hu, run_part h1 h2 hv', Result.andThen_ok, ih h3 hq]
            cases q
            · simp
            · simp [ihf h4 hs]
          · simp at hv
        · simp at hv
      · simp at he
theorem eqV_sound {P : Program} (w : World) : ∀ (d : Nat) {D : Nat} {t : TypeId} {e : EK} {x y : Value} {r : Bool}, d ≤ D → eqT P d t = some e → eqV e x y = some r → (Op.equalIn D t x y).run P w = .ok r w := by
  intro d
  induction d with
  | zero => intro D t e x y r _ h; simp [eqT] at h
  | succ d ih =>
    intro D t e x y r hd he hv
    obtain ⟨D, rfl⟩ : ∃ k, D = k + 1 := ⟨D - 1, by omega⟩
    rw [eqT] at he
    split at he
    · rename_i k hu
      simp at he; subst he
      cases x <;> first | (simp only [eqV, reduceCtorEq] at hv; done) | skip
      cases y <;> first | (simp only [eqV, reduceCtorEq] at hv; done) | skip
      simp [eqV] at hv
      obtain ⟨rfl, rfl⟩ := hv
      rw [run_equalIn_int w D t _ k _ _ hu]
      congr 1
    · rename_i hu
      simp at he; subst he
      cases x <;> first | (simp only [eqV, reduceCtorEq] at hv; done) | skip
      cases y <;> first | (simp only [eqV, reduceCtorEq] at hv; done) | skip
      simp [eqV] at hv
      subst hv
      rw [run_equalIn_bool w D t _ _ hu]
    · rename_i fs hu
      split at he
      · simp at he
      · rename_i hp
        cases hes : eqTs P (eqT P d) fs.toList with
        | none => simp [hes] at he
        | some es =>
          simp [hes] at he; subst he
          cases x <;> first | (simp only [eqV, reduceCtorEq] at hv; done) | skip
          cases y <;> first | (simp only [eqV, reduceCtorEq] at hv; done) | skip
          simp only [eqV] at hv
          rename_i xs ys
          have hf : P.fieldsOf t = fs := by simp [Program.fieldsOf, hu]
          rw [run_equalIn_struct w D t xs ys (by rw [hf]; exact hu) (by simpa using hp), hf]
          exact eqFs_sound w (fun h1 h2 => ih (by omega) h1 h2) hes hv
    · simp at he

section
variable {P : Program} {n : Nat} {σ : Env} {a : Act} {F : Fz} {M : Hp} {w : World} {v : Value}

theorem val_sound_sl {t e : TypeId} {es : Nat} {x : Operand} {lo hi : Option Operand} (ha : Agree n σ a) (he : elemT P t = some e) (hs : sizeT P e = some es)
    (hv : (PK.sl es x lo hi).val σ F M = some v) : (Instr.sliceAt t (a.eval x) (lo.map a.eval) (hi.map a.eval) none).run P w = .ok v w := by
  have hu := elemT_spec he
  simp only [PK.val] at hv
  cases hx : ev σ x with
  | none => simp [hx] at hv
  | some xv =>
    rw [hx] at hv
    have hsl : ∃ ad len cap, xv = .slice ad len cap := by
      cases xv <;> first | exact ⟨_, _, _, rfl⟩ | (simp at hv; done)
    obtain ⟨ad, len, cap, rfl⟩ := hsl
    rw [ha.ev hx]
    cases lo with
    | none =>
      cases hi with
      | none =>
        simp at hv; subst hv
        simp [Instr.sliceAt, Instr.slice, Instr.sliceBounds, run_underlying hu, run_sizeOf hs]
        cases ad <;> simp [Addr.add]
      | some h =>
        cases hh : ev σ h with
        | none => simp [hh] at hv
        | some hv' =>
          cases hv' <;> simp [hh] at hv
          rename_i k i
          obtain ⟨⟨h1, h2, h3⟩, rfl⟩ := hv
          simp [ha.ev hh, Instr.sliceAt, Instr.slice, Instr.sliceBounds, Instr.sliceBound, asIntOf, run_underlying hu, run_sizeOf hs, h1, show i ≤ (cap : Int) by omega]
          cases ad <;> simp [Addr.add]
    | some l =>
      cases hl : ev σ l with
      | none => cases hi <;> simp [hl] at hv
      | some lv =>
        cases hi with
        | none =>
          cases lv <;> first | (simp [hl] at hv; done) | skip
          rename_i k i
          simp [hl] at hv
          obtain ⟨⟨h1, h2⟩, rfl⟩ := hv
          obtain ⟨i, rfl⟩ := Int.eq_ofNat_of_zero_le h1
          have h2' : i ≤ len := by omega
          simp [ha.ev hl, Instr.sliceAt, Instr.slice, Instr.sliceBounds, Instr.sliceBound, asIntOf, run_underlying hu, run_sizeOf hs, h2', Int.ofNat_inj]
        | some h =>
          cases hh : ev σ h with
          | none => cases lv <;> simp [hl, hh] at hv
          | some hv' =>
            cases lv <;> first | (simp [hl, hh] at hv; done) | skip
            cases hv' <;> first | (simp [hl, hh] at hv; done) | skip
            rename_i k i k' j
            simp [hl, hh] at hv
            obtain ⟨⟨h1, h2, h3, h4⟩, rfl⟩ := hv
            obtain ⟨i, rfl⟩ := Int.eq_ofNat_of_zero_le h1
            obtain ⟨j, rfl⟩ := Int.eq_ofNat_of_zero_le (Int.le_trans h1 h2)
            have h2' : i ≤ j := by omega
            have h3' : j ≤ cap := by omega
            simp [ha.ev hl, ha.ev hh, Instr.sliceAt, Instr.slice, Instr.sliceBounds, Instr.sliceBound, asIntOf, run_underlying hu, run_sizeOf hs, h2', h3', Int.ofNat_inj]
end

end Go.Ax
