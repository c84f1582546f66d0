/- Regions: in the text's order, and in whatever order is drawn. -/
import Derived.Test.YtplcaoidiohlmaaAx6
namespace Go.Ax
open Go
set_option linter.unusedSimpArgs false

theorem wanted_iff {P : Program} {n m : Nat} {σ : Env} {a : Act} {ops : Array Oper} {o : Oper} {so : SO} (ha : Agree n σ a) (hs : slimO P m ops o = some so) :
    (so.g = none → Region.wanted o (yielded ops a.tmps) = true) ∧
    (∀ t want v, so.g = some (t, want) → look σ t = some v → (Region.wanted o (yielded ops a.tmps) = true ↔ v = .bool want)) ∧ so.d = o.dst ∧ (∀ t, o.dst = some t → t < m) ∧ slimK P o = some so.k := by
  unfold slimO at hs
  cases hk : slimK P o with
  | none => simp [hk] at hs
  | some k =>
    simp only [hk] at hs
    split at hs
    · rename_i hd
      have hd' : ∀ t, o.dst = some t → t < m := fun t ht => by simpa [ht] using hd
      split at hs
      · rename_i hg
        simp at hs; subst hs
        exact ⟨fun _ => by simp [Region.wanted, hg], fun t want v h => by simp at h, rfl, hd', rfl⟩
      · rename_i j want hg
        cases hj : (ops[j]?).bind (·.dst) with
        | none => simp [hj] at hs
        | some t =>
          simp [hj] at hs; subst hs
          refine ⟨fun h => by simp at h, fun t' want' v h hv => ?_, rfl, hd', rfl⟩
          simp at h
          obtain ⟨rfl, rfl⟩ := h
          have := ha.get t v hv
          simp only [Region.wanted, hg, yielded, hj, Option.bind_some, this]
          cases v <;> simp
    · simp at hs

section
variable {P : Program} {n : Nat} {ops : Array Oper} {Q : Exit → Act → World → Prop}

theorem ops_sound {s : Bool} {K : Env → Fz → Hp → Prop} {F0 : Fz} {M0 : Hp} {w0 : World} (hQ : ∀ a w, St n K F0 M0 w0 a w → Q .normal a w) :
    ∀ {os : List Oper} {sos : List SO} {σ : Env} {F : Fz} {M : Hp} {a : Act} {w : World}, os.mapM (slimO P n ops) = some sos → Agree n σ a → Rel F M w → Fr F0 M0 w0 F M w →
      opsW P s sos K σ F M → wpList P ops Q os a w := by
  intro os
  induction os with
  | nil =>
    intro sos σ F M a w hs ha hr hf h
    simp at hs; subst hs
    exact hQ a w ⟨σ, F, M, ha, hr, hf, h⟩
  | cons o os ih =>
    intro sos σ F M a w hs ha hr hf h
    simp only [List.mapM_cons, Option.bind_eq_bind, Option.pure_def] at hs
    cases ho : slimO P n ops o with
    | none => simp [ho] at hs
    | some so =>
      cases hos : os.mapM (slimO P n ops) with
      | none => simp [ho, hos] at hs
      | some rest =>
        simp [ho, hos] at hs; subst hs
        obtain ⟨h1, h2, h3, h4, h5⟩ := wanted_iff ha ho
        simp only [opsW, stepG] at h
        have next : ∀ a' w', St n (opsW P s rest K) F M w a' w' → wpList P ops Q os a' w' := fun a' w' ⟨σ', F', M', ha', hr', hf', h'⟩ => ih hos ha' hr' (hf.trans hf') h'
        have run : stepK P s so.d so.k (opsW P s rest K) σ F M → o.wp P a w (wpList P ops Q os) Q := fun hk => by
          rw [h3] at hk
          exact Oper.wp_mono next (step_sound (s := s) h4 ha hr h5 hk)
        unfold wpList
        cases hg : so.g with
        | none => rw [hg] at h; rw [if_pos (h1 hg)]; exact .inl (run h)
        | some g =>
          obtain ⟨t, want⟩ := g
          rw [hg] at h
          obtain ⟨v, hv, hy, hn⟩ := h
          have hiff := h2 t want v hg hv
          by_cases hb : v = .bool want
          · rw [if_pos (hiff.2 hb)]; exact .inl (run (hy hb))
          · rw [if_neg (fun e => hb (hiff.1 e))]
            have := hn hb
            rw [h3] at this
            exact ih hos (ha.put h4) hr hf this
end

/-- Operands. -/
def PK.ops : PK → List Operand
  | .mv x | .un _ x | .cv _ x | .fa _ x | .fd _ _ _ x | .ld _ _ x | .ex x _ | .ln x | .ls x | .nc x => [x]
  | .pick c a b => [c, a, b]
  | .bin _ x y | .eqb _ x y | .eqs _ _ x y | .ia _ x y | .iaa _ _ x y | .ix _ _ _ x y => [x, y]
  | .bd _ ps => ps.map (·.2.2)
  | .mf _ f c => f ++ c
  | .sl _ x lo hi => x :: (lo.toList ++ hi.toList)
  | .mx xs | .mn xs => xs
def SK.ops : SK → List Operand
  | .p q => q.ops
  | .al _ _ => []
  | .bx _ x => [x]
  | .bs _ _ _ ps => ps.map (·.2.2)
  | .ap _ _ _ x y | .ms _ _ _ _ x y | .cp _ x y => [x, y]
  | .st _ _ x y => [x, y]
  | .ca f args => f :: args
  | .cq f args => f :: args
/-- Addresses' variables of loads that may come behind a store. -/
def SK.fls : SK → List Nat
  | .st fl _ _ _ => fl
  | _ => []
/-- Does it leave all that is known? -/
def SK.mono (s : Bool) : SK → Bool
  | .st .. | .cp .. => false
  | .ca .. => s
  | .cq .. => false
  | _ => true
def PK.still : PK → Bool
  | .ld .. => false
  | _ => true

theorem evs_congr {σ σ' : Env} : ∀ {l : List Operand} {vs : List Value}, (∀ x ∈ l, ∀ v, ev σ x = some v → ev σ' x = some v) → evs σ l = some vs → evs σ' l = some vs := by
  intro l
  induction l with
  | nil => intro vs _ h; exact h
  | cons x l ih =>
    intro vs h hv
    simp only [evs] at hv ⊢
    cases hx : ev σ x with
    | none => simp [hx] at hv
    | some u =>
      cases hl : evs σ l with
      | none => simp [hx, hl] at hv
      | some us =>
        rw [h x (by simp) u hx, ih (fun y hy => h y (by simp [hy])) hl]
        simpa [hx, hl] using hv
theorem evParts_congr {σ σ' : Env} : ∀ {l : List (Nat × Nat × Operand)} {vs : List (Nat × Nat × Value)}, (∀ x ∈ l.map (·.2.2), ∀ v, ev σ x = some v → ev σ' x = some v) → evParts σ l = some vs → evParts σ' l = some vs := by
  intro l
  induction l with
  | nil => intro vs _ h; exact h
  | cons x l ih =>
    intro vs h hv
    obtain ⟨o, m, x⟩ := x
    simp only [evParts] at hv ⊢
    cases hx : ev σ x with
    | none => simp [hx] at hv
    | some u =>
      cases hl : evParts σ l with
      | none => simp [hx, hl] at hv
      | some us =>
        rw [h x (by simp) u hx, ih (fun y hy => h y (by simp only [List.map_cons, List.mem_cons]; exact .inr hy)) hl]
        simpa [hx, hl] using hv

theorem val_congr {σ σ' : Env} {F F' : Fz} {M M' : Hp} {q : PK} {v : Value} (h : ∀ x ∈ q.ops, ∀ v, ev σ x = some v → ev σ' x = some v) (hm : q.still = true ∨ Le F M F' M')
    (hv : q.val σ F M = some v) : q.val σ' F' M' = some v := by
  have one : ∀ {x : Operand}, x ∈ q.ops → ∀ {u : Value}, ev σ x = some u → ev σ' x = some u := fun {x} hx {u} hu => h x hx u hu
  cases q <;> simp only [PK.ops] at h one <;> simp only [PK.val] at hv ⊢
  case mv x => exact one (by simp) hv
  case pick c a b =>
    split at hv
    · rename_i t ht
      rw [one (by simp) ht]
      cases t
      · simp at hv ⊢; exact one (by simp) hv
      · simp at hv ⊢; exact one (by simp) hv
    · simp at hv
  case bin o x y =>
    cases hx : ev σ x with
    | none => simp [hx] at hv
    | some u => cases hy : ev σ y with
      | none => simp [hx, hy] at hv
      | some z => rw [one (by simp) hx, one (by simp) hy]; simpa [hx, hy] using hv
  case eqb neg x y =>
    split at hv
    · rename_i hx hy; rw [one (by simp) hx, one (by simp) hy]; exact hv
    · simp at hv
  case eqs e neg x y =>
    split at hv
    · rename_i hx hy; rw [one (by simp) hx, one (by simp) hy]; exact hv
    · simp at hv
  case un o x =>
    cases hx : ev σ x with
    | none => simp [hx] at hv
    | some u => rw [one (by simp) hx]; simpa [hx] using hv
  case cv k x => split at hv <;> first | (rename_i hx; rw [one (by simp) hx]; exact hv) | simp at hv
  case fa off x => split at hv <;> first | (rename_i hx; rw [one (by simp) hx]; exact hv) | simp at hv
  case ia es x i => split at hv <;> first | (rename_i hx hi; rw [one (by simp) hx, one (by simp) hi]; exact hv) | simp at hv
  case iaa len es x i => split at hv <;> first | (rename_i hx hi; rw [one (by simp) hx, one (by simp) hi]; exact hv) | simp at hv
  case fd agg off n x => split at hv <;> first | (rename_i hx; rw [one (by simp) hx]; exact hv) | simp at hv
  case ix agg len es x i => split at hv <;> first | (rename_i hx hi; rw [one (by simp) hx, one (by simp) hi]; exact hv) | simp at hv
  case ld agg n x =>
    split at hv
    · rename_i b o hx
      rw [one (by simp) hx]
      rcases hm with hm | hm
      · simp [PK.still] at hm
      · cases hb : blk F M b with
        | none => simp [hb] at hv
        | some c =>
          obtain ⟨c', hc', hp⟩ := blk_le hm hb
          simp only [hb, Option.bind_some] at hv
          simp only [hc', Option.bind_some]
          exact rd_prefix hv hp
    · simp at hv
  case bd z ps =>
    cases hp : evParts σ ps with
    | none => simp [hp] at hv
    | some vs => rw [evParts_congr h hp]; simpa [hp] using hv
  case ex x i => split at hv <;> first | (rename_i hx; rw [one (by simp) hx]; exact hv) | simp at hv
  case mf fn f c =>
    cases hf : evs σ f with
    | none => simp [hf, fnV] at hv
    | some fv => cases hc : evs σ c with
      | none => simp [hf, hc, fnV] at hv
      | some cv =>
        rw [evs_congr (fun x hx => h x (by simp [hx])) hf, evs_congr (fun x hx => h x (by simp [hx])) hc]
        simpa [hf, hc] using hv
  case sl es x lo hi =>
    cases hx : ev σ x with
    | none => simp [hx] at hv
    | some u =>
      rw [one (by simp) hx]
      rw [hx] at hv
      cases lo with
      | none => cases hi with
        | none => exact hv
        | some k => cases hk : ev σ k with
          | none => cases u <;> simp [hk] at hv
          | some kv => simp only [Option.map_some, Option.map_none, one (x := k) (by simp) hk]; simpa only [Option.map_some, Option.map_none, hk] using hv
      | some l => cases hl : ev σ l with
        | none => cases u <;> cases hi <;> simp [hl] at hv
        | some lv => cases hi with
          | none => simp only [Option.map_some, Option.map_none, one (x := l) (by simp) hl]; simpa only [Option.map_some, Option.map_none, hl] using hv
          | some k => cases hk : ev σ k with
            | none => cases u <;> cases lv <;> simp [hl, hk] at hv
            | some kv => simp only [Option.map_some, one (x := l) (by simp) hl, one (x := k) (by simp) hk]; simpa only [Option.map_some, hl, hk] using hv
  case ls x => split at hv <;> first | (rename_i hx; rw [one (by simp) hx]; exact hv) | simp at hv
  case ln x => split at hv <;> first | (rename_i hx; rw [one (by simp) hx]; exact hv) | simp at hv
  case mx xs =>
    cases hp : evs σ xs with
    | none => simp [hp] at hv
    | some vs => rw [evs_congr h hp]; simpa [hp] using hv
  case mn xs =>
    cases hp : evs σ xs with
    | none => simp [hp] at hv
    | some vs => rw [evs_congr h hp]; simpa [hp] using hv
  case nc x => split at hv <;> first | (rename_i hx; rw [one (by simp) hx]; exact hv) | simp at hv

end Go.Ax
