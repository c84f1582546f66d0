/- The small code, what it asks of what is known, and that a call does so. -/
import Derived.Test.YtplcaoidiohlmaaAx9
namespace Go.Ax
open Go
set_option linter.unusedSimpArgs false

inductive SC where
  | skip
  | ret
  | exit (i : Nat)
  | ops (l : List SO)
  | opd (l : List SO)
  | opq (l : List SO)
  | seq (a b : SC)
  | cond (c : Operand) (a b : SC)
  | block (i : Nat) (c : SC)
  | loop (c : SC)

def slimD (P : Program) (n : Nat) (ops : Array Oper) (ord : List (Nat × List Nat)) : Option (List (Nat × SO)) :=
  ord.mapM fun i => (ops[i.1]?).bind fun o => (slimO P n ops o).map fun s => (i.1, { s with k := s.k.withFl i.2 })

/-- The small code of a code. hs: an order for each region that draws its own. -/
def slimC (P : Program) (n : Nat) : Code → List (List (Nat × List Nat)) → Option (SC × List (List (Nat × List Nat)))
  | .skip, hs => some (.skip, hs)
  | .ret, hs => some (.ret, hs)
  | .exit i, hs => some (.exit i, hs)
  | .region _ ops false, hs => (ops.toList.mapM (slimO P n ops)).map fun l => (.ops l, hs)
  | .region _ ops true, hs => match hs with
    | [] => none
    | ord :: hs => match slimD P n ops ord with
      | none => none
      | some l => if okD false ops l = true then some (.opq (l.map (·.2)), hs) else if okD true ops l = true then some (.opd (l.map (·.2)), hs) else none
  | .seq a b, hs => match slimC P n a hs with
    | none => none
    | some (x, hs) => match slimC P n b hs with
      | none => none
      | some (y, hs) => some (.seq x y, hs)
  | .cond c a b, hs => match slimC P n a hs with
    | none => none
    | some (x, hs) => match slimC P n b hs with
      | none => none
      | some (y, hs) => some (.cond c x y, hs)
  | .block i c, hs => match slimC P n c hs with
    | none => none
    | some (x, hs) => some (.block i x, hs)
  | .loop c, hs => match slimC P n c hs with
    | none => none
    | some (x, hs) => some (.loop x, hs)
  | _, _ => none

inductive Ex where
  | n | r | e (i : Nat)
abbrev Post := Ex → Env → Fz → Hp → Prop

/-- What comes behind the first of two. -/
def Post.andThen (next : Env → Fz → Hp → Prop) (Q : Post) : Post
  | .n => next
  | x => Q x
def Post.inBlock (i : Nat) (Q : Post) : Post
  | .e j => if j = i then Q .n else Q (.e j)
  | x => Q x

def W (P : Program) : SC → Post → Env → Fz → Hp → Prop
  | .skip, Q => Q .n
  | .ret, Q => Q .r
  | .exit i, Q => Q (.e i)
  | .ops l, Q => opsW P false l (Q .n)
  | .opd l, Q => opsW P true l (Q .n)
  | .opq l, Q => opsW P false l (Q .n)
  | .seq a b, Q => W P a (Post.andThen (W P b Q) Q)
  | .cond c a b, Q => fun σ F M => ∃ t, ev σ c = some (.bool t) ∧ (t = true → W P a Q σ F M) ∧ (t = false → W P b Q σ F M)
  | .block i c, Q => W P c (Q.inBlock i)
  | .loop c, Q => fun σ F M => ∃ (I : Nat → Env → Fz → Hp → Prop) (n : Nat), I n σ F M ∧ ∀ n σ F M, I n σ F M → W P c (Post.andThen (fun σ F M => ∃ m, m < n ∧ I m σ F M) Q) σ F M

theorem W_mono {P : Program} : ∀ {c : SC} {Q Q' : Post} {σ : Env} {F : Fz} {M : Hp}, (∀ x σ F M, Q x σ F M → Q' x σ F M) → W P c Q σ F M → W P c Q' σ F M := by
  intro c
  induction c with
  | skip => intro Q Q' σ F M h hh; exact h _ _ _ _ hh
  | ret => intro Q Q' σ F M h hh; exact h _ _ _ _ hh
  | exit i => intro Q Q' σ F M h hh; exact h _ _ _ _ hh
  | ops l => intro Q Q' σ F M h hh; exact opsW_mono (fun σ F M => h .n σ F M) hh
  | opd l => intro Q Q' σ F M h hh; exact opsW_mono (fun σ F M => h .n σ F M) hh
  | opq l => intro Q Q' σ F M h hh; exact opsW_mono (fun σ F M => h .n σ F M) hh
  | seq a b iha ihb =>
    intro Q Q' σ F M h hh
    refine iha (fun x σ F M hx => ?_) hh
    cases x with
    | n => exact ihb h hx
    | r => exact h _ _ _ _ hx
    | e i => exact h _ _ _ _ hx
  | cond c a b iha ihb =>
    intro Q Q' σ F M h hh
    obtain ⟨t, h1, h2, h3⟩ := hh
    exact ⟨t, h1, fun ht => iha h (h2 ht), fun ht => ihb h (h3 ht)⟩
  | block i c ih =>
    intro Q Q' σ F M h hh
    refine ih (fun x σ F M hx => ?_) hh
    cases x with
    | n => exact h _ _ _ _ hx
    | r => exact h _ _ _ _ hx
    | e j => simp only [Post.inBlock] at hx ⊢; split <;> simp_all
  | loop c ih =>
    intro Q Q' σ F M h hh
    obtain ⟨I, n, h1, h2⟩ := hh
    refine ⟨I, n, h1, fun n σ F M hi => ih (fun x σ F M hx => ?_) (h2 n σ F M hi)⟩
    cases x with
    | n => exact hx
    | r => exact h _ _ _ _ hx
    | e j => exact h _ _ _ _ hx

/-- The post of a code, for the machine. -/
def PostC (n : Nat) (Q : Post) (F0 : Fz) (M0 : Hp) (w0 : World) : Exit → Act → World → Prop
  | .normal, a, w => St n (Q .n) F0 M0 w0 a w
  | .ret, a, w => St n (Q .r) F0 M0 w0 a w
  | .exit i, a, w => St n (Q (.e i)) F0 M0 w0 a w
  | _, _, _ => False

theorem PostC.trans {n : Nat} {Q : Post} {F0 F1 : Fz} {M0 M1 : Hp} {w0 w1 : World} (h : Fr F0 M0 w0 F1 M1 w1) : ∀ e a w, PostC n Q F1 M1 w1 e a w → PostC n Q F0 M0 w0 e a w := by
  intro e a w hh
  cases e <;> simp only [PostC] at hh ⊢
  all_goals first | exact hh | (obtain ⟨σ, F, M, h1, h2, h3, h4⟩ := hh; exact ⟨σ, F, M, h1, h2, h.trans h3, h4⟩)

theorem slimD_spec {P : Program} {n : Nat} {ops : Array Oper} : ∀ {ord : List (Nat × List Nat)} {l : List (Nat × SO)}, slimD P n ops ord = some l → ∀ p ∈ l, ∃ o so fl, ops[p.1]? = some o ∧ slimO P n ops o = some so ∧ p.2 = { so with k := so.k.withFl fl } := by
  intro ord
  induction ord with
  | nil => intro l h; simp [slimD] at h; subst h; simp
  | cons i ord ih =>
    intro l h
    simp only [slimD, List.mapM_cons, Option.bind_eq_bind, Option.pure_def] at h
    cases ho : ops[i.1]? with
    | none => simp [ho] at h
    | some o =>
      cases hs : slimO P n ops o with
      | none => simp [ho, hs] at h
      | some s =>
        cases hr : slimD P n ops ord with
        | none => simp only [slimD] at hr; simp [ho, hs, hr] at h
        | some r =>
          have hr' := hr
          simp only [slimD] at hr
          simp [ho, hs, hr] at h
          subst h
          intro p hp
          rcases List.mem_cons.1 hp with rfl | hp
          · exact ⟨o, s, i.2, ho, hs, rfl⟩
          · exact ih hr' p hp

theorem wf_min {p : Nat → Prop} (h : ∃ m, p m) : ∃ m, p m ∧ ∀ k, p k → m ≤ k := by
  obtain ⟨m, hm⟩ := h
  induction m using Nat.strongRecOn with
  | _ m ih =>
    by_cases hh : ∃ k, k < m ∧ p k
    · obtain ⟨k, hk, hp⟩ := hh; exact ih k hk hp
    · exact ⟨m, hm, fun k hk => Nat.le_of_not_lt fun hlt => hh ⟨k, hlt, hk⟩⟩

theorem code_sound {P : Program} {n : Nat} (hm : P.follows .mixedOrders = true) : ∀ {c : Code} {sc : SC} {hs hs' : List (List (Nat × List Nat))}, slimC P n c hs = some (sc, hs') →
    ∀ {Q : Post} {σ : Env} {F : Fz} {M : Hp} {a : Act} {w : World}, Agree n σ a → Rel F M w → W P sc Q σ F M → c.wp P (PostC n Q F M w) a w := by
  intro c
  induction c with
  | skip => intro sc hs hs' h Q σ F M a w ha hr hw; simp [slimC] at h; obtain ⟨rfl, rfl⟩ := h; exact wp_skip ⟨σ, F, M, ha, hr, Fr.refl _ _ _, hw⟩
  | ret => intro sc hs hs' h Q σ F M a w ha hr hw; simp [slimC] at h; obtain ⟨rfl, rfl⟩ := h; exact wp_ret ⟨σ, F, M, ha, hr, Fr.refl _ _ _, hw⟩
  | exit i => intro sc hs hs' h Q σ F M a w ha hr hw; simp [slimC] at h; obtain ⟨rfl, rfl⟩ := h; exact wp_exit ⟨σ, F, M, ha, hr, Fr.refl _ _ _, hw⟩
  | region id ops draw =>
    intro sc hs hs' h Q σ F M a w ha hr hw
    cases draw with
    | false =>
      simp only [slimC] at h
      cases hl : ops.toList.mapM (slimO P n ops) with
      | none => simp [hl] at h
      | some l =>
        simp [hl] at h; obtain ⟨rfl, rfl⟩ := h
        exact wp_region_list (ops_sound (K := Q .n) (F0 := F) (M0 := M) (w0 := w) (fun a w h => h) hl ha hr (Fr.refl _ _ _) hw)
    | true =>
      simp only [slimC] at h
      cases hs with
      | nil => simp at h
      | cons ord hs =>
        cases hl : slimD P n ops ord with
        | none => simp [hl] at h
        | some l =>
          simp only [hl] at h
          split at h
          · rename_i hok
            cases h
            exact region_any (s := false) hm (fun a w h => h) (slimD_spec hl) hok ha hr hw
          · split at h
            · rename_i hok
              cases h
              exact region_any (s := true) hm (fun a w h => h) (slimD_spec hl) hok ha hr hw
            · cases h
  | seq x y ihx ihy =>
    intro sc hs hs' h Q σ F M a w ha hr hw
    simp only [slimC] at h
    split at h
    · simp at h
    · rename_i sx hs1 h1
      split at h
      · simp at h
      · rename_i sy hs2 h2
        simp at h; obtain ⟨rfl, rfl⟩ := h
        refine wp_seq (Code.wp_mono (fun e a w hh => ?_) (ihx h1 ha hr hw))
        cases e <;> simp only [PostC, Exit.then] at hh ⊢
        case normal =>
          obtain ⟨σ', F', M', ha', hr', hf', hw'⟩ := hh
          exact Code.wp_mono (PostC.trans hf') (ihy h2 ha' hr' hw')
        all_goals exact hh
  | cond c x y ihx ihy =>
    intro sc hs hs' h Q σ F M a w ha hr hw
    simp only [slimC] at h
    split at h
    · simp at h
    · rename_i sx hs1 h1
      split at h
      · simp at h
      · rename_i sy hs2 h2
        simp at h; obtain ⟨rfl, rfl⟩ := h
        obtain ⟨t, hc, ht, hf⟩ := hw
        exact wp_cond_split (ha.ev hc) (fun e => ihx h1 ha hr (ht e)) (fun e => ihy h2 ha hr (hf e))
  | block i c ih =>
    intro sc hs hs' h Q σ F M a w ha hr hw
    simp only [slimC] at h
    split at h
    · simp at h
    · rename_i sx hs1 h1
      simp at h; obtain ⟨rfl, rfl⟩ := h
      refine wp_block (Code.wp_mono (fun e a w hh => ?_) (ih h1 ha hr hw))
      cases e <;> simp only [PostC, Exit.inBlock] at hh ⊢
      case exit j =>
        simp only [Post.inBlock] at hh
        split <;> simp_all
      all_goals exact hh
  | loop c ih =>
    intro sc hs hs' h Q σ F M a w ha hr hw
    simp only [slimC] at h
    split at h
    · simp at h
    · rename_i sx hs1 h1
      simp at h; obtain ⟨rfl, rfl⟩ := h
      obtain ⟨I, k, hi, hrd⟩ := hw
      let J : Nat → Act → World → Prop := fun m a' w' => ∃ σ' F' M', Agree n σ' a' ∧ Rel F' M' w' ∧ Fr F M w F' M' w' ∧ I m σ' F' M'
      classical
      refine wp_loop (fun a' w' => ∃ m, J m a' w') (fun a' w' => if h : ∃ m, J m a' w' then Classical.choose (wf_min h) else 0) ⟨k, σ, F, M, ha, hr, Fr.refl _ _ _, hi⟩ ?_
      intro a' w' hJ
      have hmin := Classical.choose_spec (wf_min hJ)
      rw [dif_pos hJ]
      obtain ⟨⟨σ', F', M', ha', hr', hf', hi'⟩, hleast⟩ := hmin
      refine Code.wp_mono (fun e a2 w2 hh => ?_) (ih h1 ha' hr' (hrd _ σ' F' M' hi'))
      cases e <;> simp only [PostC, Exit.then] at hh ⊢
      case normal =>
        obtain ⟨σ2, F2, M2, ha2, hr2, hf2, m, hlt, hi2⟩ := hh
        have hJ2 : ∃ m, J m a2 w2 := ⟨m, σ2, F2, M2, ha2, hr2, hf'.trans hf2, hi2⟩
        refine ⟨hJ2, ?_⟩
        rw [dif_pos hJ2]
        exact Nat.lt_of_le_of_lt ((Classical.choose_spec (wf_min hJ2)).2 m ⟨σ2, F2, M2, ha2, hr2, hf'.trans hf2, hi2⟩) hlt
      all_goals first | exact hh.elim | (obtain ⟨σ2, F2, M2, g1, g2, g3, g4⟩ := hh; exact ⟨σ2, F2, M2, g1, g2, hf'.trans g3, g4⟩)
  | _ => intro sc hs hs' h; simp [slimC] at h
/-- What a function hands back: variables, or what lies at an address. -/
inductive RS where
  | t (t : Nat)
  | c (agg : Bool) (n a : Nat)
def slimR (P : Program) : List ResultVar → Option (List RS)
  | [] => some []
  | .tmp t :: l => (slimR P l).map fun r => .t t :: r
  | .cell a ty :: l => match aggT P ty, sizeT P ty, slimR P l with
    | some b, some n, some r => some (.c b n a :: r)
    | _, _, _ => none
def retL (σ : Env) (F : Fz) (M : Hp) : List RS → Option (List Value)
  | [] => some []
  | .t t :: l => (look σ t).bind fun v => (retL σ F M l).map fun vs => v :: vs
  | .c b n a :: l => match look σ a with
    | some (.pointer (some ⟨g, o, none⟩)) => (blk F M g).bind fun c => (rd b n c o).bind fun v => (retL σ F M l).map fun vs => v :: vs
    | _ => none
def retV : List Value → Value
  | [v] => v
  | vs => .tuple vs.toArray

def resF (a : Act) : ResultVar → Sem Value
  | .tmp t => pure (a.tmps.getD t undef)
  | .cell c t => do loadVar t (← asAddr (a.tmps.getD c undef))
theorem results_run {P : Program} {n : Nat} {σ : Env} {F : Fz} {M : Hp} {a : Act} {w : World} (ha : Agree n σ a) (hr : Rel F M w) :
    ∀ {l : List ResultVar} {rs : List RS} {vs : List Value}, slimR P l = some rs → retL σ F M rs = some vs →
      (l.mapM (resF a)).run P w = .ok vs w := by
  intro l
  induction l with
  | nil => intro rs vs h hv; simp [slimR] at h; subst h; simp [retL] at hv; subst hv; simp
  | cons x l ih =>
    intro rs vs h hv
    cases x with
    | tmp t =>
      simp only [slimR] at h
      cases hl : slimR P l with
      | none => simp [hl] at h
      | some r =>
        simp [hl] at h; subst h
        simp only [retL] at hv
        cases ht : look σ t with
        | none => simp [ht] at hv
        | some v =>
          cases hvs : retL σ F M r with
          | none => simp [ht, hvs] at hv
          | some us =>
            simp [ht, hvs] at hv; subst hv
            have := ha.get t v ht
            have ih' := ih hl hvs
            simp only [List.mapM_cons, resF, Sem.run_bind, Sem.run_pure, Result.andThen_ok]
            rw [ih']
            simp [Array.getD_eq_getD_getElem?, this]
    | cell c t =>
      simp only [slimR] at h
      split at h
      · rename_i b m r h1 h2 h3
        simp at h; subst h
        simp only [retL] at hv
        split at hv
        · rename_i g o hlk
          cases hb : blk F M g with
          | none => simp [hb] at hv
          | some cs =>
            cases hrd : rd b m cs o with
            | none => simp [hb, hrd] at hv
            | some v =>
              cases hvs : retL σ F M r with
              | none => simp [hb, hrd, hvs] at hv
              | some us =>
                simp [hb, hrd, hvs] at hv; subst hv
                have h4 := ha.get c _ hlk
                have ih' := ih h3 hvs
                simp only [List.mapM_cons, resF, Sem.run_bind]
                rw [show a.tmps.getD c undef = .pointer (some ⟨g, o, none⟩) by simp [Array.getD_eq_getD_getElem?, h4]]
                simp only [asAddr, Sem.run_pure, Result.andThen_ok, run_loadVar hr h1 h2 hb hrd, ih']
        · simp at hv
      · simp at h

def env0 : List Value → Nat → Env
  | [], _ => []
  | v :: l, k => (k, v) :: env0 l (k + 1)
theorem look_env0 : ∀ {l : List Value} {k t : Nat} {v : Value}, look (env0 l k) t = some v → k ≤ t ∧ l[t - k]? = some v := by
  intro l
  induction l with
  | nil => intro k t v h; simp [env0, look] at h
  | cons x l ih =>
    intro k t v h
    simp only [env0, look] at h
    split at h
    · rename_i e; subst e; simp at h; subst h; simp
    · obtain ⟨h1, h2⟩ := ih h
      refine ⟨by omega, ?_⟩
      rw [show t - k = (t - (k + 1)) + 1 by omega]
      simpa using h2

/-- A function's small code, results, number of variables: told by its text alone. -/
structure SF where
  n : Nat
  rs : List RS
  c : SC
def slimF (P : Program) (fn : Func) (hs : List (List (Nat × List Nat))) : Option SF :=
  if (fn.name == "runtime.NumGoroutine") = true then none else
  match fn.body with
  | none => none
  | some c => match slimC P fn.ntmps c hs, slimR P fn.results.toList with
    | some (sc, []), some rs => some ⟨fn.ntmps, rs, sc⟩
    | _, _ => none

/-- A run's end: what comes back; less may be told. -/
def RetP (rs : List RS) (R : Value → Fz → Hp → Prop) : Post
  | .e _ => fun _ _ _ => False
  | _ => fun σ F M => ∃ vs, retL σ F M rs = some vs ∧ ∃ F' M', Wk F M F' M' ∧ R (retV vs) F' M'

theorem callsA_of {P : Program} {f : FuncId} {fn : Func} {hs : List (List (Nat × List Nat))} {sf : SF} {args : List Value} {F : Fz} {M : Hp} {R : Value → Fz → Hp → Prop}
    (hm : P.follows .mixedOrders = true) (hf : P.funcs[f]? = some fn) (hsf : slimF P fn hs = some sf) (hn : args.length ≤ sf.n)
    (h : W P sf.c (RetP sf.rs R) (env0 args 0) F M) : CallsA P f args F M R := by
  unfold slimF at hsf
  split at hsf
  · simp at hsf
  · rename_i hname
    split at hsf
    · simp at hsf
    · rename_i c hb
      split at hsf
      · rename_i sc rs h1 h2
        simp at hsf; subst hsf
        refine CallsA.wk ⟨⟨fn, hf, by simpa using hname, by simp [hb]⟩, fun w hr => ?_⟩
        have ha : Agree fn.ntmps (env0 args 0) { tmps := args.toArray ++ Array.replicate (fn.ntmps - args.toArray.size) undef, defers := [] } := by
          refine ⟨by simp at hn ⊢; omega, rfl, fun t v ht => ?_⟩
          obtain ⟨_, h3⟩ := look_env0 ht
          have hlt := (List.getElem?_eq_some_iff.1 h3).1
          simp at h3 hlt
          show (args.toArray ++ Array.replicate (fn.ntmps - args.toArray.size) undef)[t]? = some v
          rw [Array.getElem?_append_left (by simpa using hlt)]
          simpa using h3
        have hw := code_sound hm h1 ha hr h
        refine calls_of_wp hf hb (Code.wp_mono (fun e a w' hh => ?_) hw)
        cases e <;> simp only [PostC] at hh
        all_goals first | exact hh.elim | skip
        all_goals
          obtain ⟨σ', F', M', ha', hr', hfr, hret⟩ := hh
          simp only [RetP] at hret
        all_goals
          obtain ⟨vs, hvs, F2, M2, hwk, hR⟩ := hret
          have hrun := results_run ha' hr' h2 hvs
          refine ⟨ha'.defers, retV vs, ?_, retV vs, F', M', rfl, hr', hfr, F2, M2, hwk, hR⟩
          have e1 : results fn a.tmps = (fun vs : Array Value => if h : vs.size = 1 then vs[0] else .tuple vs) <$> fn.results.mapM (resF a) := by
            unfold results resF
            rfl
          rw [e1, Array.mapM_eq_mapM_toList]
          simp only [Sem.run_map]
          rw [hrun]
          simp only [Result.andThen_ok]
          congr 1
          match vs with
          | [] => simp [retV]
          | [v] => simp [retV]
          | u :: v :: l => simp [retV]
      · simp at hsf

end Go.Ax
