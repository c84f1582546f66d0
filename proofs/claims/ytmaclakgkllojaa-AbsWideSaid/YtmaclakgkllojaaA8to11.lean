/- Parts A8to11: the machine's runs of small codes, contracts of functions, plain facts. -/
import Derived.KernelRfl
import Derived.Test.YtmaclakgkllojaaA6to7
/- Steps that may change places. -/
namespace Go.Ax
open Go
set_option linter.unusedSimpArgs false

theorem Le.apRes {F : Fz} {M M' : Hp} {e es n m : Nat} {v v' : Value} {xs ys : List Value} (ho : Own M e es v n xs) (h : ApRes F M e es v n m (xs ++ ys) v' M') : Le F M F M' := by
  rcases h with ⟨_, _, _, rfl⟩ | ⟨r, cap, hr, _, _, _, rfl⟩
  · exact Le.refl _ _
  · rcases hr with ⟨c, rfl⟩ | ⟨h1, h2⟩
    · obtain ⟨_, ho⟩ := ho
      rcases ho with ⟨h0, _⟩ | ⟨g, c', hv, hm, _⟩
      · simp at h0
      · simp at hv
        obtain ⟨rfl, rfl⟩ := hv
        exact Le.grow hm (List.prefix_append _ _)
    · exact Le.upd h1 h2

/-- A step goes as it goes, whatever is known besides. -/
theorem stepK_congr {P : Program} {s : Bool} {d : Option Nat} {k : SK} {K K' : Env → Fz → Hp → Prop} {σ σ' : Env} {F : Fz} {M : Hp}
    (ho : ∀ x ∈ k.ops, ∀ v, ev σ x = some v → ev σ' x = some v) (hfl : ∀ t ∈ k.fls, ∀ v, look σ t = some v → look σ' t = some v)
    (h : ∀ v F' M', (k.mono s = true → Le F M F' M') → K (put σ d v) F' M' → K' (put σ' d v) F' M') (hh : stepK P s d k K σ F M) : stepK P s d k K' σ' F M := by
  cases k <;> simp only [stepK] at hh ⊢ <;> simp only [SK.ops] at ho
  case p q => obtain ⟨v, h1, h2⟩ := hh; exact ⟨v, val_congr ho (.inr (Le.refl _ _)) h1, h _ _ _ (fun _ => Le.refl _ _) h2⟩
  case al e z => exact fun r h1 h2 => h _ _ _ (fun _ => Le.upd h1 h2) (hh r h1 h2)
  case bx e x => obtain ⟨v, h1, h2⟩ := hh; exact ⟨v, ho x (by simp) v h1, fun r a b => h _ _ _ (fun _ => Le.upd a b) (h2 r a b)⟩
  case bs e len z parts => obtain ⟨ps, h1, cs, h2, h3⟩ := hh; exact ⟨ps, evParts_congr ho h1, cs, h2, fun r a b => h _ _ _ (fun _ => Le.upd a b) (h3 r a b)⟩
  case ap e es bytes x y =>
    obtain ⟨v, h1, u, h2, n, xs, h3, m, ys, h4, h5, h6, h7, h8⟩ := hh
    exact ⟨v, ho x (by simp) v h1, u, ho y (by simp) u h2, n, xs, h3, m, ys, h4, h5, h6, h7, fun v' M' a => h _ _ _ (fun _ => Le.apRes h3 a) (h8 v' M' a)⟩
  case st fl n a x =>
    obtain ⟨b, o, h1, v, h2, e, h3, h4, h5, h6, h7, h8⟩ := hh
    exact ⟨b, o, ho a (by simp) _ h1, v, ho x (by simp) v h2, e, h3, h4, h5, h6, fun t ht => by
      obtain ⟨b', o', h9, h10⟩ := h7 t ht
      exact ⟨b', o', hfl t ht _ h9, h10⟩, h _ _ _ (fun hm => by simp [SK.mono] at hm) h8⟩
  case ms e es bytes z l c =>
    obtain ⟨k, n, h1, k', m, h2, h3, h4, h5, h6⟩ := hh
    exact ⟨k, n, ho l (by simp) _ h1, k', m, ho c (by simp) _ h2, h3, h4, h5, fun r a b => h _ _ _ (fun _ => Le.upd a b) (h6 r a b)⟩
  case cp es x y =>
    obtain ⟨b, o, n, c, h1, u, h2, m, ys, h3, h4, e, h5, h6, h7⟩ := hh
    exact ⟨b, o, n, c, ho x (by simp) _ h1, u, ho y (by simp) _ h2, m, ys, h3, h4, e, h5, h6, h _ _ _ (fun hm => by simp [SK.mono] at hm) h7⟩
  case ca f args =>
    obtain ⟨g, fi, c, h1, vs, h2, h3⟩ := hh
    exact ⟨g, fi, c, ho f (by simp) _ h1, vs, evs_congr (fun x hx => ho x (by simp [hx])) h2, h3.mono fun v F' M' ⟨a, b⟩ => ⟨a, h _ _ _ (fun hm => a (by simpa [SK.mono] using hm)) b⟩⟩
  case cq f args =>
    obtain ⟨g, fi, c, h1, vs, h2, h3⟩ := hh
    exact ⟨g, fi, c, ho f (by simp) _ h1, vs, evs_congr (fun x hx => ho x (by simp [hx])) h2, h3.mono fun v F' M' b => h _ _ _ (fun hm => by simp [SK.mono] at hm) b⟩

theorem look_put_ne {σ : Env} {d : Option Nat} {t : Nat} {v : Value} (h : d ≠ some t) : look (put σ d v) t = look σ t := by
  cases d with
  | none => rfl
  | some k => have : ¬ k = t := fun e => h (by rw [e]); simp [put, look, this]
theorem ev_put_ne {σ : Env} {d : Option Nat} {x : Operand} {v : Value} (h : ∀ t, x = .tmp t → d ≠ some t) : ev (put σ d v) x = ev σ x := by
  cases x with
  | tmp t => exact look_put_ne (h t rfl)
  | _ => rfl
theorem Env.le_refl (σ : Env) : Env.le σ σ := fun _ _ h => h
theorem Env.le_trans {a b c : Env} (h : Env.le a b) (k : Env.le b c) : Env.le a c := fun t v ht => k t v (h t v ht)
theorem Env.le_put {σ σ' : Env} (h : Env.le σ σ') (d : Option Nat) (v : Value) : Env.le (put σ d v) (put σ' d v) := by
  intro t u hu
  cases d with
  | none => exact h t u hu
  | some k => simp only [put, look] at hu ⊢; split <;> simp_all [h t u]
theorem Env.put_comm {σ : Env} {d e : Option Nat} {u v : Value} (h : ∀ t, d = some t → e ≠ some t) : Env.le (put (put σ d u) e v) (put (put σ e v) d u) := by
  intro t w hw
  cases d with
  | none => cases e <;> exact hw
  | some k => cases e with
    | none => exact hw
    | some j =>
      have hkj : ¬ k = j := fun he => h k rfl (by rw [he])
      simp only [put, look] at hw ⊢
      by_cases h1 : k = t
      · subst h1
        have : ¬ j = k := fun e => hkj e.symm
        simp [this] at hw ⊢; exact hw
      · simpa [h1] using hw
theorem ev_le {σ σ' : Env} (h : Env.le σ σ') {x : Operand} {v : Value} (hv : ev σ x = some v) : ev σ' x = some v := by
  cases x with
  | tmp t => exact h t v hv
  | _ => exact hv

/-- A post that holds with more names known. -/
def up (K : Env → Fz → Hp → Prop) : Env → Fz → Hp → Prop := fun σ' F M => ∃ σ, Env.le σ σ' ∧ K σ F M
theorem up_up {K : Env → Fz → Hp → Prop} {σ : Env} {F : Fz} {M : Hp} (h : up (up K) σ F M) : up K σ F M := by
  obtain ⟨a, h1, b, h2, h3⟩ := h; exact ⟨b, Env.le_trans h2 h1, h3⟩

def GdT (o : SO) (σ : Env) : Prop := match o.g with | none => True | some (t, w) => look σ t = some (.bool w)
def GdF (o : SO) (σ : Env) : Prop := match o.g with | none => False | some (t, w) => ∃ v, look σ t = some v ∧ v ≠ .bool w
theorem stepG_iff {P : Program} {s : Bool} {o : SO} {K : Env → Fz → Hp → Prop} {σ : Env} {F : Fz} {M : Hp} :
    stepG P s o K σ F M ↔ (GdT o σ ∧ stepK P s o.d o.k K σ F M) ∨ (GdF o σ ∧ K (put σ o.d undef) F M) := by
  cases hg : o.g with
  | none => simp [stepG, GdT, GdF, hg]
  | some p =>
    obtain ⟨t, w⟩ := p
    simp only [stepG, GdT, GdF, hg]
    constructor
    · rintro ⟨v, h1, h2, h3⟩
      by_cases hb : v = .bool w
      · subst hb; exact .inl ⟨h1, h2 rfl⟩
      · exact .inr ⟨⟨v, h1, hb⟩, h3 hb⟩
    · rintro (⟨h1, h2⟩ | ⟨⟨v, h1, hb⟩, h2⟩)
      · exact ⟨_, h1, fun _ => h2, fun h => absurd rfl h⟩
      · exact ⟨v, h1, fun h => absurd h hb, fun _ => h2⟩
theorem stepG_al {P : Program} {s : Bool} {o : SO} {K : Env → Fz → Hp → Prop} {σ : Env} {F : Fz} {M : Hp} {e : Nat} {z : List Value} (hg : o.g = none) (hk : o.k = .al e z) :
    stepG P s o K σ F M ↔ ∀ r, F r = none → M r = none → K (put σ o.d (.pointer (some ⟨r, 0, none⟩))) F (M.upd r ⟨z, e, z.length⟩) := by
  simp only [stepG, hg, hk, stepK]

def SO.looks (o : SO) : List Nat := (o.k.ops.filterMap fun | .tmp t => some t | _ => none) ++ (match o.g with | some (t, _) => [t] | none => [])
theorem looks_op {o : SO} {d : Option Nat} (h : ∀ t, d = some t → t ∉ o.looks) : ∀ x ∈ o.k.ops, ∀ t, x = .tmp t → d ≠ some t := by
  rintro x hx t rfl e
  exact h t e (by simp only [SO.looks, List.mem_append, List.mem_filterMap]; exact .inl ⟨_, hx, rfl⟩)
theorem GdT_put {o : SO} {σ : Env} {d : Option Nat} {v : Value} (h : ∀ t, d = some t → t ∉ o.looks) : GdT o (put σ d v) ↔ GdT o σ := by
  cases hg : o.g with
  | none => simp [GdT, hg]
  | some p => simp only [GdT, hg]; rw [look_put_ne]; intro e; exact h p.1 e (by simp [SO.looks, hg])
theorem GdF_put {o : SO} {σ : Env} {d : Option Nat} {v : Value} (h : ∀ t, d = some t → t ∉ o.looks) : GdF o (put σ d v) ↔ GdF o σ := by
  cases hg : o.g with
  | none => simp [GdF, hg]
  | some p => simp only [GdF, hg]; rw [look_put_ne]; intro e; exact h p.1 e (by simp [SO.looks, hg])
theorem GdT_le {o : SO} {σ σ' : Env} (h : Env.le σ σ') (hg : GdT o σ) : GdT o σ' := by
  cases hw : o.g with
  | none => simp [GdT, hw]
  | some p => simp only [GdT, hw] at hg ⊢; exact h _ _ hg
theorem GdF_le {o : SO} {σ σ' : Env} (h : Env.le σ σ') (hg : GdF o σ) : GdF o σ' := by
  cases hw : o.g with
  | none => simp [GdF, hw] at hg
  | some p => simp only [GdF, hw] at hg ⊢; obtain ⟨v, h1, h2⟩ := hg; exact ⟨v, h _ _ h1, h2⟩

theorem stepG_env {P : Program} {s : Bool} {o : SO} {K K' : Env → Fz → Hp → Prop} {σ σ' : Env} {F : Fz} {M : Hp} (hl : Env.le σ σ')
    (h : ∀ v F' M', K (put σ o.d v) F' M' → K' (put σ' o.d v) F' M') (hh : stepG P s o K σ F M) : stepG P s o K' σ' F M := by
  rw [stepG_iff] at hh ⊢
  rcases hh with ⟨h1, h2⟩ | ⟨h1, h2⟩
  · exact .inl ⟨GdT_le hl h1, stepK_congr (fun x _ v hv => ev_le hl hv) (fun t _ v hv => hl t v hv) (fun v F' M' _ hk => h v F' M' hk) h2⟩
  · exact .inr ⟨GdF_le hl h1, h _ _ _ h2⟩

theorem opsW_env {P : Program} {s : Bool} : ∀ {l : List SO} {K : Env → Fz → Hp → Prop} {σ σ' : Env} {F : Fz} {M : Hp}, Env.le σ σ' → opsW P s l K σ F M → opsW P s l (up K) σ' F M := by
  intro l
  induction l with
  | nil => intro K σ σ' F M hl h; exact ⟨σ, hl, h⟩
  | cons o l ih => intro K σ σ' F M hl h; exact stepG_env hl (fun v F' M' hk => ih (Env.le_put hl o.d v) hk) h
theorem opsW_up {P : Program} {s : Bool} {l : List SO} {K : Env → Fz → Hp → Prop} {σ : Env} {F : Fz} {M : Hp} (h : up (opsW P s l K) σ F M) : opsW P s l (up K) σ F M := by
  obtain ⟨σ0, hl, h⟩ := h; exact opsW_env hl h
theorem opsW_mono {P : Program} {s : Bool} : ∀ {l : List SO} {K K' : Env → Fz → Hp → Prop} {σ : Env} {F : Fz} {M : Hp}, (∀ σ F M, K σ F M → K' σ F M) → opsW P s l K σ F M → opsW P s l K' σ F M := by
  intro l
  induction l with
  | nil => intro K K' σ F M h hh; exact h _ _ _ hh
  | cons o l ih => intro K K' σ F M h hh; exact stepG_mono (fun σ F M hk => ih h hk) hh

def apartB (x y : SO) : Bool :=
  (match x.d with | some d => !(y.looks.contains d) && y.d != some d | none => true) && (match y.d with | some d => !(x.looks.contains d) | none => true)
theorem apartB_spec {x y : SO} (h : apartB x y = true) : (∀ t, x.d = some t → t ∉ y.looks) ∧ (∀ t, y.d = some t → t ∉ x.looks) ∧ (∀ t, x.d = some t → y.d ≠ some t) := by
  simp only [apartB, Bool.and_eq_true] at h
  obtain ⟨h1, h2⟩ := h
  refine ⟨fun t ht => ?_, fun t ht => ?_, fun t ht => ?_⟩
  · rw [ht] at h1; simp at h1; exact h1.1
  · rw [ht] at h2; simpa using h2
  · rw [ht] at h1; simp at h1; exact h1.2

/-- A step that makes a block: what lies in it, how it is told. -/
def allocOf : SK → Env → Option (Ent × (Nat → Value))
  | .al e z, _ => some (⟨z, e, z.length⟩, fun r => .pointer (some ⟨r, 0, none⟩))
  | .bx e x, σ => (ev σ x).map fun v => (⟨v.cells.toList, e, v.cells.toList.length⟩, fun r => .pointer (some ⟨r, 0, none⟩))
  | .bs e len z parts, σ => (evParts σ parts).bind fun ps => (fillV z ps).map fun cs => (⟨cs, e, cs.length⟩, fun r => .slice (some ⟨r, 0, none⟩) len len)
  | _, _ => none
def SK.isAlloc : SK → Bool
  | .al .. | .bx .. | .bs .. => true
  | _ => false
theorem stepK_alloc {P : Program} {s : Bool} {d : Option Nat} {k : SK} {K : Env → Fz → Hp → Prop} {σ : Env} {F : Fz} {M : Hp} (hk : k.isAlloc = true) :
    stepK P s d k K σ F M ↔ ∃ p, allocOf k σ = some p ∧ ∀ r, F r = none → M r = none → K (put σ d (p.2 r)) F (M.upd r p.1) := by
  cases k <;> simp only [SK.isAlloc, Bool.false_eq_true] at hk <;> simp only [stepK, allocOf]
  case al e z => simp
  case bx e x =>
    constructor
    · rintro ⟨v, hv, h⟩; exact ⟨_, by rw [hv]; rfl, h⟩
    · rintro ⟨p, hp, h⟩
      cases hv : ev σ x with
      | none => simp [hv] at hp
      | some v => simp [hv] at hp; subst hp; exact ⟨v, rfl, h⟩
  case bs e len z parts =>
    constructor
    · rintro ⟨ps, hp, cs, hc, h⟩; exact ⟨_, by rw [hp]; simp only [Option.bind_some, hc]; rfl, h⟩
    · rintro ⟨p, hp, h⟩
      cases hv : evParts σ parts with
      | none => simp [hv] at hp
      | some ps => cases hc : fillV z ps with
        | none => simp [hv, hc] at hp
        | some cs => simp [hv, hc] at hp; subst hp; exact ⟨ps, rfl, cs, hc, h⟩
theorem evParts_same {σ σ' : Env} : ∀ {l : List (Nat × Nat × Operand)}, (∀ x ∈ l.map (·.2.2), ev σ' x = ev σ x) → evParts σ' l = evParts σ l := by
  intro l
  induction l with
  | nil => intro _; rfl
  | cons x l ih =>
    intro h
    obtain ⟨o, m, x⟩ := x
    simp only [evParts]
    rw [h x (by simp), ih (fun y hy => h y (by simp only [List.map_cons, List.mem_cons]; exact .inr hy))]
theorem allocOf_put {o : SO} {σ : Env} {d : Option Nat} {v : Value} (h : ∀ t, d = some t → t ∉ o.looks) : allocOf o.k (put σ d v) = allocOf o.k σ := by
  have he : ∀ x ∈ o.k.ops, ev (put σ d v) x = ev σ x := fun x hx => ev_put_ne (looks_op h x hx)
  cases hk : o.k <;> rw [hk] at he <;> simp only [allocOf]
  case bx e x => rw [he x (by simp [SK.ops])]
  case bs e len z parts => rw [evParts_same (fun x hx => he x hx)]

theorem stepK_mono_inf {P : Program} {s : Bool} {d : Option Nat} {k : SK} {K K' : Env → Fz → Hp → Prop} {σ : Env} {F : Fz} {M : Hp} (hI : Inf F M)
    (h : ∀ σ F M, Inf F M → K σ F M → K' σ F M) (hh : stepK P s d k K σ F M) : stepK P s d k K' σ F M := by
  cases k <;> simp only [stepK] at hh ⊢
  case p q => obtain ⟨v, h1, h2⟩ := hh; exact ⟨v, h1, h _ _ _ hI h2⟩
  case al e z => exact fun r h1 h2 => h _ _ _ (hI.upd _ _) (hh r h1 h2)
  case bx e x => obtain ⟨v, h1, h2⟩ := hh; exact ⟨v, h1, fun r a b => h _ _ _ (hI.upd _ _) (h2 r a b)⟩
  case bs e len z parts => obtain ⟨ps, h1, cs, h2, h3⟩ := hh; exact ⟨ps, h1, cs, h2, fun r a b => h _ _ _ (hI.upd _ _) (h3 r a b)⟩
  case ap e es bytes x y =>
    obtain ⟨v, h1, u, h2, n, xs, h3, m, ys, h4, h5, h6, h7, h8⟩ := hh
    refine ⟨v, h1, u, h2, n, xs, h3, m, ys, h4, h5, h6, h7, fun v' M' a => h _ _ _ ?_ (h8 v' M' a)⟩
    rcases a with ⟨_, _, _, rfl⟩ | ⟨r, cap, _, _, _, _, rfl⟩
    · exact hI
    · exact hI.upd _ _
  case st fl n a x => obtain ⟨b, o, h1, v, h2, e, h3, h4, h5, h6, h7, h8⟩ := hh; exact ⟨b, o, h1, v, h2, e, h3, h4, h5, h6, h7, h _ _ _ (hI.upd _ _) h8⟩
  case ms e es bytes z l c => obtain ⟨k, n, h1, k', m, h2, h3, h4, h5, h6⟩ := hh; exact ⟨k, n, h1, k', m, h2, h3, h4, h5, fun r a b => h _ _ _ (hI.upd _ _) (h6 r a b)⟩
  case cp es x y => obtain ⟨b, o, n, c, h1, u, h2, m, ys, h3, h4, e, h5, h6, h7⟩ := hh; exact ⟨b, o, n, c, h1, u, h2, m, ys, h3, h4, e, h5, h6, h _ _ _ (hI.upd _ _) h7⟩
  case ca f args => obtain ⟨g, fi, c, h1, vs, h2, h3⟩ := hh; exact ⟨g, fi, c, h1, vs, h2, h3.mono_rel fun v F' M' ⟨w, hw⟩ ⟨a, b⟩ => ⟨a, h _ _ _ hw.inf b⟩⟩
  case cq f args => obtain ⟨g, fi, c, h1, vs, h2, h3⟩ := hh; exact ⟨g, fi, c, h1, vs, h2, h3.mono_rel fun v F' M' ⟨w, hw⟩ b => h _ _ _ hw.inf b⟩
theorem stepG_mono_inf {P : Program} {s : Bool} {o : SO} {K K' : Env → Fz → Hp → Prop} {σ : Env} {F : Fz} {M : Hp} (hI : Inf F M)
    (h : ∀ σ F M, Inf F M → K σ F M → K' σ F M) (hh : stepG P s o K σ F M) : stepG P s o K' σ F M := by
  rw [stepG_iff] at hh ⊢
  rcases hh with ⟨h1, h2⟩ | ⟨h1, h2⟩
  · exact .inl ⟨h1, stepK_mono_inf hI h h2⟩
  · exact .inr ⟨h1, h _ _ _ hI h2⟩

/-- A block that is made may change places with these. -/
def SK.calm : SK → Bool
  | .p (.ld ..) => true
  | .p q => q.still
  | k => k.isAlloc
/-- x stands ahead of y; may y go first, too? -/
def canSwap (s : Bool) (x y : SO) : Bool := apartB x y && match x.k with
  | .p q => q.still || y.k.mono s || (match q, y.k with | .ld _ _ (.tmp t), .st fl _ _ _ => fl.contains t && x.d != some t | _, _ => false)
  | .al .. | .bx .. | .bs .. => y.g.isNone && y.k.calm
  | .ca .. => s && y.g.isNone && (match y.k with | .al .. => true | _ => false)
  | _ => false

/-- A store tells less of loads. -/
def SO.drop (y : SO) (d : Option Nat) : SO := { y with k := y.k.withFl (y.k.fls.filter fun t => d != some t) }
theorem SK.withFl_not {k : SK} {fl : List Nat} (h : k.isAlloc = true) : k.withFl fl = k := by cases k <;> first | rfl | (simp [SK.isAlloc] at h)
theorem SK.withFl_ops {k : SK} {fl : List Nat} : (k.withFl fl).ops = k.ops := by cases k <;> first | rfl | (cases fl <;> rfl)
theorem SK.withFl_alloc {k : SK} {fl : List Nat} : (k.withFl fl).isAlloc = k.isAlloc := by cases k <;> first | rfl | (cases fl <;> rfl)
theorem SK.withFl_calm {k : SK} {fl : List Nat} : (k.withFl fl).calm = k.calm := by cases k <;> first | rfl | (cases fl <;> rfl)
theorem drop_mono {s : Bool} {y : SO} {d : Option Nat} : (y.drop d).k.mono s = y.k.mono s := by cases hk : y.k <;> simp only [SO.drop, hk] <;> rfl
theorem SO.drop_looks {y : SO} {d : Option Nat} : (y.drop d).looks = y.looks := by simp [SO.looks, SO.drop, SK.withFl_ops]
theorem stepK_drop {P : Program} {s : Bool} {e : Option Nat} {d : Option Nat} {k : SK} {K : Env → Fz → Hp → Prop} {σ : Env} {F : Fz} {M : Hp} (h : stepK P s e k K σ F M) :
    stepK P s e (k.withFl (k.fls.filter fun t => d != some t)) K σ F M := by
  cases k <;> try exact h
  obtain ⟨b, o, h1, v, h2, e, h3, h4, h5, h6, h7, h8⟩ := h
  exact ⟨b, o, h1, v, h2, e, h3, h4, h5, h6, fun t ht => h7 t (List.mem_filter.1 ht).1, h8⟩
/-- No redefinition of a load's address. -/
def noRedef (y z : SO) : Bool := match y.k with
  | .p (.ld _ _ (.tmp t)) => z.d != some t
  | _ => true
theorem canSwap_drop {s : Bool} {y x : SO} {z : SO} (h : canSwap s y x = true) (hz : noRedef y z = true) : canSwap s y (x.drop z.d) = true := by
  have e1 : apartB y (x.drop z.d) = apartB y x := by simp only [apartB, SO.drop_looks]; rfl
  simp only [canSwap, Bool.and_eq_true] at h ⊢
  rw [e1]
  refine ⟨h.1, ?_⟩
  have h := h.2
  cases hyk : y.k <;> rw [hyk] at h <;> (try simp only at h ⊢)
  case p q =>
    simp only [Bool.or_eq_true] at h ⊢
    have e2 : (x.drop z.d).k.mono s = x.k.mono s := drop_mono
    rw [e2]
    rcases h with h | h
    · exact .inl h
    refine .inr ?_
    cases q <;> first | (simp at h; done) | skip
    rename_i agg n ad
    cases ad <;> first | (simp at h; done) | skip
    rename_i t
    cases hxk : x.k <;> rw [hxk] at h <;> first | (simp at h; done) | skip
    rename_i fl m b c
    have e3 : (x.drop z.d).k = .st (fl.filter fun t => z.d != some t) m b c := by simp [SO.drop, hxk, SK.withFl, SK.fls]
    rw [e3]
    simp only [noRedef, hyk, bne_iff_ne, ne_eq] at hz
    have h' : (fl.contains t && y.d != some t) = true := h
    show ((fl.filter fun t => z.d != some t).contains t && y.d != some t) = true
    rw [Bool.and_eq_true, List.contains_iff_mem] at h' ⊢
    exact ⟨List.mem_filter.2 ⟨h'.1, by simpa using hz⟩, h'.2⟩
  case al => simp only [SO.drop, SK.withFl_calm]; exact h
  case bx => simp only [SO.drop, SK.withFl_calm]; exact h
  case bs => simp only [SO.drop, SK.withFl_calm]; exact h
  case ca =>
    simp only [Bool.and_eq_true] at h
    obtain ⟨h1, h2⟩ := h
    cases hxk : x.k <;> rw [hxk] at h2 <;> first | (simp at h2; done) | skip
    simp only [SO.drop, hxk, SK.withFl, Bool.and_eq_true]
    exact ⟨h1, trivial⟩
  all_goals first | (simp at h; done) | contradiction

theorem swap {P : Program} {s : Bool} {x y : SO} {K : Env → Fz → Hp → Prop} {σ : Env} {F : Fz} {M : Hp} (hI : Inf F M) (hs : canSwap s x y = true) (h : stepG P s x (stepG P s y K) σ F M) :
    stepG P s (y.drop x.d) (stepG P s x (up K)) σ F M := by
  simp only [canSwap, Bool.and_eq_true] at hs
  obtain ⟨hap, hk⟩ := hs
  obtain ⟨a1, a2, a3⟩ := apartB_spec hap
  have hop : ∀ u : Value, ∀ z ∈ y.k.ops, ∀ v, ev (put σ x.d u) z = some v → ev σ z = some v := fun u z hz v hv => by rwa [ev_put_ne (looks_op a1 z hz)] at hv
  -- x yields u, and leaves memory: then y may go first
  have easy : ∀ u : Value, (∀ v F' M', (y.k.mono s = true → Le F M F' M') → up K (put (put σ y.d v) x.d u) F' M' → stepG P s x (up K) (put σ y.d v) F' M') →
      stepG P s y K (put σ x.d u) F M → stepG P s (y.drop x.d) (stepG P s x (up K)) σ F M := by
    intro u hx hy
    rw [stepG_iff] at hy ⊢
    rcases hy with ⟨h1, h2⟩ | ⟨h1, h2⟩
    · refine .inl ⟨(GdT_put a1).1 h1, stepK_congr (by rw [show (y.drop x.d).k.ops = y.k.ops from SK.withFl_ops]; exact hop u) (fun t ht v hv => ?_)
        (fun v F' M' hl hk => hx v F' M' (by rw [show (y.drop x.d).k.mono s = y.k.mono s from drop_mono] at hl; exact hl) ⟨_, Env.put_comm a3, hk⟩) (stepK_drop h2)⟩
      have hne : x.d ≠ some t := by
        cases hyk : y.k <;> simp only [SO.drop, hyk, SK.withFl, SK.fls, List.filter_nil, List.not_mem_nil] at ht
        simpa using (List.mem_filter.1 ht).2
      rwa [look_put_ne hne] at hv
    · exact .inr ⟨(GdF_put a1).1 h1, hx _ _ _ (fun _ => Le.refl _ _) ⟨_, Env.put_comm a3, h2⟩⟩
  rw [stepG_iff] at h
  rcases h with ⟨hg, h⟩ | ⟨hg, h⟩
  case inr => exact easy undef (fun v F' M' _ hk => stepG_iff.2 (.inr ⟨(GdF_put a2).2 hg, hk⟩)) h
  have hopx : ∀ v : Value, ∀ z ∈ x.k.ops, ∀ u, ev σ z = some u → ev (put σ y.d v) z = some u := fun v z hz u hu => by rwa [ev_put_ne (looks_op a2 z hz)]
  have alloc : x.k.isAlloc = true → y.g.isNone = true → y.k.isAlloc = true → stepG P s (y.drop x.d) (stepG P s x (up K)) σ F M := by
    intro hxa hyg hya
    have hyd : y.drop x.d = y := by simp only [SO.drop]; rw [SK.withFl_not hya]
    rw [hyd]
    have hyg' : y.g = none := by simpa using hyg
    have ystep : ∀ (K : Env → Fz → Hp → Prop) (σ : Env) (F : Fz) (M : Hp), stepG P s y K σ F M ↔ ∃ p, allocOf y.k σ = some p ∧ ∀ r, F r = none → M r = none → K (put σ y.d (p.2 r)) F (M.upd r p.1) := by
      intro K σ F M
      simp only [stepG, hyg']
      exact stepK_alloc hya
    obtain ⟨px, hpx, h⟩ := (stepK_alloc hxa).1 h
    obtain ⟨q0, _, q1, q2⟩ := hI 0
    obtain ⟨py, hpy, _⟩ := (ystep _ _ _ _).1 (h q0 q1 q2)
    rw [allocOf_put a1] at hpy
    refine (ystep _ _ _ _).2 ⟨py, hpy, fun r r1 r2 => ?_⟩
    refine stepG_iff.2 (.inl ⟨(GdT_put a2).2 hg, (stepK_alloc hxa).2 ⟨px, by rw [allocOf_put a2]; exact hpx, fun q q1 q2 => ?_⟩⟩)
    have hne : q ≠ r := by rintro rfl; simp at q2
    rw [Hp.upd_ne hne] at q2
    obtain ⟨py', hpy', hh⟩ := (ystep _ _ _ _).1 (h q q1 q2)
    rw [allocOf_put a1, hpy] at hpy'
    cases hpy'
    have := hh r r1 (by rw [Hp.upd_ne (Ne.symm hne)]; exact r2)
    rw [Hp.upd_comm hne] at this
    exact ⟨_, Env.put_comm a3, this⟩
  have alloc2 : x.k.isAlloc = true → y.g.isNone = true → ∀ q, y.k = .p q → (q.still = true ∨ ∃ agg n ad, q = .ld agg n ad) → stepG P s (y.drop x.d) (stepG P s x (up K)) σ F M := by
    intro hxa hyg q hyq hq
    have hyd : y.drop x.d = y := by simp only [SO.drop, hyq, SK.withFl]; rw [← hyq]
    rw [hyd]
    have hyg' : y.g = none := by simpa using hyg
    have ystep : ∀ (K : Env → Fz → Hp → Prop) (σ : Env) (F : Fz) (M : Hp), stepG P s y K σ F M ↔ ∃ v, q.val σ F M = some v ∧ K (put σ y.d v) F M := by
      intro K σ F M
      simp only [stepG, hyg', hyq, stepK]
    obtain ⟨px, hpx, h⟩ := (stepK_alloc hxa).1 h
    rw [hyq] at hop
    -- its value, with the new block or without it
    have key : ∃ v, q.val σ F M = some v ∧ ∀ r, F r = none → M r = none → q.val (put σ x.d (px.2 r)) F (M.upd r px.1) = some v := by
      obtain ⟨q0, _, q1, q2⟩ := hI 0
      obtain ⟨v0, hv0, _⟩ := (ystep _ _ _ _).1 (h q0 q1 q2)
      rcases hq with hq | ⟨agg, n, ad, rfl⟩
      · have e0 : q.val σ F M = some v0 := val_congr (fun z hz w hw => hop (px.2 q0) z (by simpa [SK.ops] using hz) w hw) (.inl hq) hv0
        refine ⟨v0, e0, fun r r1 r2 => ?_⟩
        obtain ⟨v, hv, _⟩ := (ystep _ _ _ _).1 (h r r1 r2)
        have e1 : q.val σ F M = some v := val_congr (fun z hz w hw => hop (px.2 r) z (by simpa [SK.ops] using hz) w hw) (.inl hq) hv
        rw [e0] at e1; cases e1; exact hv
      · have addr : ∀ r, F r = none → M r = none → ∃ b o v, ev σ ad = some (.pointer (some ⟨b, o, none⟩)) ∧ ev (put σ x.d (px.2 r)) ad = some (.pointer (some ⟨b, o, none⟩)) ∧ (PK.ld agg n ad).val (put σ x.d (px.2 r)) F (M.upd r px.1) = some v ∧ (blk F (M.upd r px.1) b).bind (fun c => rd agg n c o) = some v := by
          intro r r1 r2
          obtain ⟨v, hv, _⟩ := (ystep _ _ _ _).1 (h r r1 r2)
          have hv' := hv
          simp only [PK.val] at hv'
          split at hv'
          · rename_i b o hb
            exact ⟨b, o, v, hop (px.2 r) ad (by simp [SK.ops, PK.ops]) _ hb, hb, hv, hv'⟩
          · simp at hv'
        obtain ⟨b, o, v0, a0, _, _, _⟩ := addr q0 q1 q2
        obtain ⟨q3, q4, q5, q6⟩ := hI (b + 1)
        obtain ⟨b', o', v, a1, _, _, a2⟩ := addr q3 q5 q6
        rw [a0] at a1; cases a1
        have hb3 : ¬ b = q3 := by omega
        have e3 : blk F (M.upd q3 px.1) b = blk F M b := by simp [blk, Hp.upd_ne hb3]
        rw [e3] at a2
        refine ⟨v, by simp only [PK.val, a0]; exact a2, fun r r1 r2 => ?_⟩
        have hbr : ¬ b = r := by
          rintro rfl
          simp [blk, r1, r2] at a2
        obtain ⟨b', o', v', c1, _, c2, c3⟩ := addr r r1 r2
        rw [a0] at c1; cases c1
        have e4 : blk F (M.upd r px.1) b = blk F M b := by simp [blk, Hp.upd_ne hbr]
        rw [e4, a2] at c3
        cases c3; exact c2
    obtain ⟨v, hv, hall⟩ := key
    refine (ystep _ _ _ _).2 ⟨v, hv, ?_⟩
    refine stepG_iff.2 (.inl ⟨(GdT_put a2).2 hg, (stepK_alloc hxa).2 ⟨px, by rw [allocOf_put a2]; exact hpx, fun r r1 r2 => ?_⟩⟩)
    obtain ⟨v', hv', hh⟩ := (ystep _ _ _ _).1 (h r r1 r2)
    rw [hall r r1 r2] at hv'
    cases hv'
    exact ⟨_, Env.put_comm a3, hh⟩
  have allocs : x.k.isAlloc = true → y.g.isNone = true → y.k.calm = true → stepG P s (y.drop x.d) (stepG P s x (up K)) σ F M := by
    intro hxa hyg hc
    cases hyk : y.k with
    | p q =>
      refine alloc2 hxa hyg q hyk ?_
      rw [hyk] at hc
      cases q <;> first | exact .inr ⟨_, _, _, rfl⟩ | exact .inl hc
    | al => exact alloc hxa hyg (by rw [hyk]; rfl)
    | bx => exact alloc hxa hyg (by rw [hyk]; rfl)
    | bs => exact alloc hxa hyg (by rw [hyk]; rfl)
    | _ => rw [hyk] at hc; simp [SK.calm, SK.isAlloc] at hc
  cases hxk : x.k with
  | p q =>
    rw [hxk] at h hk hopx
    obtain ⟨u, hu, h⟩ := h
    simp only [Bool.or_eq_true] at hk
    rcases hk with hk | hk
    · refine easy u (fun v F' M' hl hK => stepG_iff.2 (.inl ⟨(GdT_put a2).2 hg, ?_⟩)) h
      rw [hxk]
      exact ⟨u, val_congr (hopx v) (hk.imp id hl) hu, hK⟩
    · -- a load, and a store elsewhere
      cases q <;> first | (simp at hk; done) | skip
      rename_i agg n ad
      cases ad <;> first | (simp at hk; done) | skip
      rename_i t
      cases hyk : y.k <;> rw [hyk] at hk <;> first | (simp at hk; done) | skip
      rename_i fl m b z
      simp only [Bool.and_eq_true, List.contains_iff_mem, bne_iff_ne, ne_eq] at hk
      obtain ⟨hmem, hxd⟩ := hk
      have hld : ∀ (σ' : Env) (M' : Hp), ev σ' (.tmp t) = ev σ (.tmp t) → (∀ b' o', look σ t = some (.pointer (some ⟨b', o', none⟩)) → M' b' = M b') → (PK.ld agg n (.tmp t)).val σ' F M' = some u := by
        intro σ' M' h1 h2
        simp only [PK.val] at hu ⊢
        rw [h1]
        simp only [ev] at hu ⊢
        split at hu
        · rename_i b' o' hb
          have := h2 b' o' hb
          simp only [blk, this] at hu ⊢
          exact hu
        · simp at hu
      rw [stepG_iff] at h ⊢
      rcases h with ⟨h1, h2⟩ | ⟨h1, h2⟩
      · refine .inl ⟨(GdT_put a1).1 h1, ?_⟩
        rw [hyk] at h2
        rw [show (y.drop x.d).k = .st (fl.filter fun t => x.d != some t) m b z by simp [SO.drop, hyk, SK.withFl, SK.fls]]
        rw [hyk] at hop
        obtain ⟨g, o, e1, v, e2, e, e3, e4, e5, e6, e7, e8⟩ := h2
        have hfl : ∀ t' ∈ fl.filter (fun t => x.d != some t), ∃ b' o', look σ t' = some (.pointer (some ⟨b', o', none⟩)) ∧ b' ≠ g := by
          intro t' ht'
          obtain ⟨ht1, ht2⟩ := List.mem_filter.1 ht'
          obtain ⟨b', o', h3, h4⟩ := e7 t' ht1
          rw [look_put_ne (by simpa using ht2)] at h3
          exact ⟨b', o', h3, h4⟩
        refine ⟨g, o, hop u b (by simp [SK.ops]) _ e1, v, hop u z (by simp [SK.ops]) _ e2, e, e3, e4, e5, e6, hfl, ?_⟩
        refine stepG_iff.2 (.inl ⟨(GdT_put a2).2 hg, ?_⟩)
        rw [hxk]
        refine ⟨u, hld _ _ (ev_put_ne (looks_op a2 (.tmp t) (by simp [hxk, SK.ops, PK.ops]))) (fun b' o' hb => ?_), _, Env.put_comm a3, e8⟩
        obtain ⟨b2, o2, h3, h4⟩ := hfl t (List.mem_filter.2 ⟨hmem, by simpa using hxd⟩)
        rw [h3] at hb
        cases hb
        exact Hp.upd_ne h4
      · refine .inr ⟨(GdF_put a1).1 h1, ?_⟩
        refine stepG_iff.2 (.inl ⟨(GdT_put a2).2 hg, ?_⟩)
        rw [hxk]
        exact ⟨u, hld _ _ (ev_put_ne (looks_op a2 (.tmp t) (by simp [hxk, SK.ops, PK.ops]))) (fun b' o' _ => rfl), _, Env.put_comm a3, h2⟩
  | al e z => rw [hxk] at hk; simp only [Bool.and_eq_true] at hk; exact allocs (by rw [hxk]; rfl) hk.1 hk.2
  | bx e z => rw [hxk] at hk; simp only [Bool.and_eq_true] at hk; exact allocs (by rw [hxk]; rfl) hk.1 hk.2
  | bs e len z parts => rw [hxk] at hk; simp only [Bool.and_eq_true] at hk; exact allocs (by rw [hxk]; rfl) hk.1 hk.2
  | ca f args =>
    rw [hxk] at h hk hopx
    simp only [Bool.and_eq_true] at hk
    obtain ⟨⟨hs1, hyg⟩, hyk⟩ := hk
    cases hyk' : y.k <;> simp [hyk'] at hyk
    rename_i e2 z2
    have hyg' : y.g = none := by simpa using hyg
    have hyd : y.drop x.d = y := by simp only [SO.drop]; rw [SK.withFl_not (by rw [hyk']; rfl)]
    rw [hyd, stepG_al hyg' hyk']
    simp only [stepK] at h
    obtain ⟨g, fi, c, hf, vs, hvs, h⟩ := h
    intro r r1 r2
    refine stepG_iff.2 (.inl ⟨(GdT_put a2).2 hg, ?_⟩)
    rw [hxk]
    refine ⟨g, fi, c, hopx _ f (by simp [SK.ops]) _ hf, vs, evs_congr (fun z hz => hopx _ z (by simp [SK.ops, hz])) hvs, (h.frame (e := ⟨z2, e2, z2.length⟩) r1 r2).mono ?_⟩
    rintro v F' M'' ⟨M', rfl, f1, f2, hl, hK⟩
    have hl : Le F M F' M' := hl hs1
    refine ⟨fun _ => ⟨hl.fz, fun b en hb => ?_, fun b b1 b2 => ?_⟩, _, Env.put_comm a3, (stepG_al hyg' hyk').1 hK r f1 f2⟩
    · by_cases hbr : b = r
      · subst hbr; simp at hb; subst hb; exact ⟨_, Hp.upd_same _ _ _, List.prefix_refl _⟩
      · rw [Hp.upd_ne hbr] at hb ⊢; exact hl.mu b en hb
    · have hbr : b ≠ r := by rintro rfl; simp at b2
      rw [Hp.upd_ne hbr] at b2 ⊢; exact hl.ap b b1 b2
  | ap e es b z u => rw [hxk] at hk; simp at hk
  | cq f args => rw [hxk] at hk; simp at hk
  | st fl m z u => rw [hxk] at hk; simp at hk
  | ms e es b z l c => rw [hxk] at hk; simp at hk
  | cp es z u => rw [hxk] at hk; simp at hk

theorem SK.withFl_two (k : SK) (a b : List Nat) : ∃ c, (k.withFl a).withFl b = k.withFl c := by
  cases k
  case ca f args => cases a with
    | nil => exact ⟨b, rfl⟩
    | cons x l => exact ⟨x :: l, rfl⟩
  all_goals exact ⟨b, rfl⟩
/-- Passed by all of these. -/
def dropAll (l1 : List SO) (x : SO) : SO := l1.foldr (fun y x => x.drop y.d) x
theorem dropAll_form : ∀ (l1 : List SO) (x : SO), ∃ fl, dropAll l1 x = { x with k := x.k.withFl fl } := by
  intro l1
  induction l1 with
  | nil => intro x; exact ⟨x.k.fls, by cases x with | mk d g k => cases k <;> rfl⟩
  | cons y l1 ih =>
    intro x
    obtain ⟨fl, h⟩ := ih x
    obtain ⟨c, hc⟩ := SK.withFl_two x.k fl ((x.k.withFl fl).fls.filter (fun t => y.d != some t))
    refine ⟨c, ?_⟩
    show (dropAll l1 x).drop y.d = _
    rw [h]
    simp only [SO.drop, hc]
theorem canSwap_dropAll {s : Bool} {y : SO} : ∀ {l1 : List SO} {x : SO}, canSwap s y x = true → (∀ z ∈ l1, noRedef y z = true) → canSwap s y (dropAll l1 x) = true := by
  intro l1
  induction l1 with
  | nil => intro x h _; exact h
  | cons z l1 ih => intro x h hz; exact canSwap_drop (ih h fun q hq => hz q (by simp [hq])) (hz z (by simp))

/-- What may be moved to the begin. -/
theorem bubble {P : Program} {s : Bool} : ∀ {l1 l2 : List SO} {x : SO} {K : Env → Fz → Hp → Prop} {σ : Env} {F : Fz} {M : Hp}, Inf F M → l1.Pairwise (fun y z => noRedef y z = true) → (∀ y ∈ l1, canSwap s y x = true) →
    opsW P s (l1 ++ x :: l2) K σ F M → stepG P s (dropAll l1 x) (opsW P s (l1 ++ l2) (up K)) σ F M := by
  intro l1
  induction l1 with
  | nil => intro l2 x K σ F M _ _ _ h; exact stepG_mono (fun σ F M hk => opsW_env (Env.le_refl _) hk) h
  | cons y l1 ih =>
    intro l2 x K σ F M hI hp hs h
    obtain ⟨hp1, hp2⟩ := List.pairwise_cons.1 hp
    have h1 : stepG P s y (stepG P s (dropAll l1 x) (opsW P s (l1 ++ l2) (up K))) σ F M := stepG_mono_inf hI (fun σ F M hI hk => ih hI hp2 (fun z hz => hs z (by simp [hz])) hk) h
    have h2 := swap hI (canSwap_dropAll (hs y (by simp)) hp1) h1
    refine stepG_mono (fun σ F M hk => ?_) h2
    exact stepG_mono (fun σ F M hk => opsW_mono (fun σ F M => up_up) (opsW_up hk)) hk

end Go.Ax

/- Regions that draw their order: one walk, in an order that serves, serves all. -/
namespace Go.Ax
open Go
set_option linter.unusedSimpArgs false

def preds (ops : Array Oper) (i : Nat) : List Nat := match ops[i]? with
  | some o => o.after.toList.filterMap fun e => if Region.binds .any e then some e.on else none
  | none => []
inductive Anc (ops : Array Oper) : Nat → Nat → Prop
  | one {y i : Nat} : y ∈ preds ops i → Anc ops y i
  | more {y p i : Nat} : Anc ops y p → p ∈ preds ops i → Anc ops y i

def getM : List (Nat × Nat) → Nat → Nat
  | [], _ => 0
  | (k, m) :: l, i => if k = i then m else getM l i
def maskOf (st : List (Nat × Nat)) : List Nat → Nat
  | [] => 0
  | p :: l => 2 ^ p ||| (getM st p ||| maskOf st l)

def okGo (s : Bool) (ops : Array Oper) : List (Nat × SO) → List (Nat × Nat) → List (Nat × SO) → Bool
  | _, _, [] => true
  | seen, st, (i, x) :: l =>
    (preds ops i).all (fun p => seen.any fun y => y.1 == p) && !(seen.any fun y => y.1 == i) &&
    seen.all (fun y => noRedef y.2 x && (canSwap s y.2 x || (maskOf st (preds ops i)).testBit y.1)) && okGo s ops ((i, x) :: seen) ((i, maskOf st (preds ops i)) :: st) l
def okD (s : Bool) (ops : Array Oper) (l : List (Nat × SO)) : Bool := (okGo s ops [] [] l && (List.range ops.size).all fun i => l.any fun y => y.1 == i) && l.length == ops.size

theorem maskOf_spec {ops : Array Oper} {st : List (Nat × Nat)} {i : Nat} (hst : ∀ j y, (getM st j).testBit y = true → Anc ops y j) : ∀ (l : List Nat), (∀ p ∈ l, p ∈ preds ops i) →
    ∀ y, (maskOf st l).testBit y = true → Anc ops y i := by
  intro l
  induction l with
  | nil => intro _ y h; simp [maskOf] at h
  | cons p l ih =>
    intro hl y h
    simp only [maskOf, Nat.testBit_or, Nat.testBit_two_pow, Bool.or_eq_true, decide_eq_true_eq] at h
    rcases h with h | h | h
    · subst h; exact .one (hl _ (by simp))
    · exact .more (hst p y h) (hl p (by simp))
    · exact ih (fun q hq => hl q (by simp [hq])) y h

structure Inv (s : Bool) (P : Program) (n : Nat) (ops : Array Oper) (listed : Array Bool) (l0 : List (Nat × SO)) : Prop where
  size : listed.size = ops.size
  slim : ∀ p ∈ l0, ∃ o so fl, ops[p.1]? = some o ∧ slimO P n ops o = some so ∧ p.2 = { so with k := so.k.withFl fl }
  mem : ∀ i, i < ops.size → (listed.getD i false = false ↔ ∃ p ∈ l0, p.1 = i)
  pairs : l0.Pairwise fun y x => y.1 ≠ x.1 ∧ noRedef y.2 x.2 = true ∧ (canSwap s y.2 x.2 = true ∨ Anc ops y.1 x.1)
  top : ∀ l1 x l2, l0 = l1 ++ x :: l2 → ∀ p ∈ preds ops x.1, listed.getD p false = true ∨ ∃ y ∈ l1, y.1 = p
  down : ∀ i, listed.getD i false = true → ∀ p ∈ preds ops i, listed.getD p false = true

theorem okGo_spec {s : Bool} {ops : Array Oper} : ∀ {l seen : List (Nat × SO)} {st : List (Nat × Nat)}, (∀ j y, (getM st j).testBit y = true → Anc ops y j) → okGo s ops seen st l = true →
    l.Pairwise (fun y x => y.1 ≠ x.1 ∧ noRedef y.2 x.2 = true ∧ (canSwap s y.2 x.2 = true ∨ Anc ops y.1 x.1)) ∧ (∀ y ∈ seen, ∀ x ∈ l, y.1 ≠ x.1 ∧ noRedef y.2 x.2 = true ∧ (canSwap s y.2 x.2 = true ∨ Anc ops y.1 x.1)) ∧
    ∀ l1 x l2, l = l1 ++ x :: l2 → ∀ p ∈ preds ops x.1, (∃ y ∈ seen, y.1 = p) ∨ ∃ y ∈ l1, y.1 = p := by
  intro l
  induction l with
  | nil => intro seen st _ _; exact ⟨List.Pairwise.nil, by simp, fun l1 x l2 h => by simp at h⟩
  | cons a l ih =>
    intro seen st hst h
    obtain ⟨i, x⟩ := a
    simp only [okGo, Bool.and_eq_true] at h
    obtain ⟨⟨⟨h1, h2⟩, h3⟩, h4⟩ := h
    have hmask := maskOf_spec (i := i) hst (preds ops i) (fun p hp => hp)
    obtain ⟨g1, g2, g3⟩ := ih (seen := (i, x) :: seen) (st := (i, maskOf st (preds ops i)) :: st) (fun j y hy => by
      simp only [getM] at hy
      split at hy
      · rename_i e; subst e; exact hmask y hy
      · exact hst j y hy) h4
    have hne : ∀ y ∈ seen, y.1 ≠ i := by
      intro y hy e
      simp at h2
      exact h2 y.1 y.2 hy e
    have hpr : ∀ y ∈ seen, noRedef y.2 x = true ∧ (canSwap s y.2 x = true ∨ Anc ops y.1 i) := by
      intro y hy
      have := List.all_eq_true.1 h3 y hy
      simp only [Bool.and_eq_true, Bool.or_eq_true] at this
      exact ⟨this.1, this.2.imp id (hmask y.1)⟩
    refine ⟨List.pairwise_cons.2 ⟨fun z hz => g2 (i, x) (by simp) z hz, g1⟩, ?_, ?_⟩
    · intro y hy z hz
      rcases List.mem_cons.1 hz with rfl | hz
      · exact ⟨hne y hy, hpr y hy⟩
      · exact g2 y (by simp [hy]) z hz
    · intro l1 z l2 he p hp
      cases l1 with
      | nil =>
        simp at he
        obtain ⟨rfl, rfl⟩ := he
        have := List.all_eq_true.1 h1 p hp
        simp only [List.any_eq_true, beq_iff_eq] at this
        exact .inl this
      | cons b l1 =>
        simp at he
        obtain ⟨rfl, rfl⟩ := he
        rcases g3 l1 z l2 rfl p hp with ⟨y, hy, hyp⟩ | ⟨y, hy, hyp⟩
        · rcases List.mem_cons.1 hy with rfl | hy
          · exact .inr ⟨_, by simp, hyp⟩
          · exact .inl ⟨y, hy, hyp⟩
        · exact .inr ⟨y, by simp [hy], hyp⟩

theorem getD_set {a : Array Bool} {i j : Nat} (hi : i < a.size) : (a.setIfInBounds i true).getD j false = if i = j then true else a.getD j false := by
  simp only [Array.getD_eq_getD_getElem?, Array.getElem?_setIfInBounds]
  split <;> simp_all

section
variable {P : Program} {s : Bool} {n : Nat} {ops : Array Oper} {Q : Exit → Act → World → Prop}

theorem mem_ready {listed : Array Bool} {i : Nat} (hs : listed.size = ops.size) :
    i ∈ Region.ready .any ops listed ↔ i < ops.size ∧ listed.getD i false = false ∧ ∀ p ∈ preds ops i, listed.getD p false = true := by
  unfold Region.ready preds
  simp only [List.mem_filter, List.mem_range, Bool.and_eq_true, Bool.not_eq_true']
  constructor
  · rintro ⟨h1, h2, h3⟩
    obtain ⟨o, ho⟩ : ∃ o, ops[i]? = some o := ⟨ops[i], by simp [h1]⟩
    refine ⟨h1, ?_, ?_⟩
    · have : i < listed.size := by omega
      simpa [Array.getD_eq_getD_getElem?, this] using h2
    · rw [ho] at h3 ⊢
      intro p hp
      simp only [List.mem_filterMap] at hp
      obtain ⟨e, he, hb⟩ := hp
      split at hb
      · rename_i hbi
        simp at hb; subst hb
        simp only [Option.map_some, Option.getD_some, Array.all_eq_true'] at h3
        have := h3 e (Array.mem_toList_iff.1 he)
        simpa [hbi] using this
      · simp at hb
  · rintro ⟨h1, h2, h3⟩
    obtain ⟨o, ho⟩ : ∃ o, ops[i]? = some o := ⟨ops[i], by simp [h1]⟩
    refine ⟨h1, ?_, ?_⟩
    · have : i < listed.size := by omega
      simpa [Array.getD_eq_getD_getElem?, this] using h2
    · rw [ho] at h3 ⊢
      simp only [Option.map_some, Option.getD_some, Array.all_eq_true']
      intro e he
      by_cases hb : Region.binds .any e = true
      · have := h3 e.on (List.mem_filterMap.2 ⟨e, Array.mem_toList_iff.2 he, by simp [hb]⟩)
        simp [hb, this]
      · simp [hb]

theorem any_sound {K : Env → Fz → Hp → Prop} {F0 : Fz} {M0 : Hp} {w0 : World} (hQ : ∀ a w, St n K F0 M0 w0 a w → Q .normal a w) :
    ∀ (fuel : Nat) {l0 : List (Nat × SO)} {listed : Array Bool} {σ : Env} {F : Fz} {M : Hp} {a : Act} {w : World}, l0.length = fuel → Inv s P n ops listed l0 →
      Agree n σ a → Rel F M w → Fr F0 M0 w0 F M w → opsW P s (l0.map (·.2)) (up K) σ F M → wpAny P .any ops Q fuel listed a w := by
  intro fuel
  induction fuel with
  | zero =>
    intro l0 listed σ F M a w hl hi ha hr hf h
    obtain rfl : l0 = [] := by simpa using hl
    obtain ⟨σ', hle, hk⟩ := h
    refine ⟨?_, hQ a w ⟨σ', F, M, ha.mono hle, hr, hf, hk⟩⟩
    cases hrd : Region.ready .any ops listed with
    | nil => rfl
    | cons i l =>
      have := (mem_ready hi.size).1 (by rw [hrd]; simp : i ∈ Region.ready .any ops listed)
      have := (hi.mem i this.1).1 this.2.1
      simp at this
  | succ fuel ih =>
    intro l0 listed σ F M a w hl hi ha hr hf h
    refine ⟨fun hnil => ?_, fun i hri => ?_⟩
    · -- the first one is ready
      exfalso
      cases l0 with
      | nil => simp at hl
      | cons x l =>
        obtain ⟨o, _, _, ho, _⟩ := hi.slim x (by simp)
        have hlt : x.1 < ops.size := (Array.getElem?_eq_some_iff.1 ho).1
        have : x.1 ∈ Region.ready .any ops listed := (mem_ready hi.size).2 ⟨hlt, (hi.mem x.1 hlt).2 ⟨x, by simp, rfl⟩, fun p hp => by
          rcases hi.top [] x l rfl p hp with h | ⟨y, hy, _⟩
          · exact h
          · simp at hy⟩
        rw [hnil] at this; simp at this
    · obtain ⟨hlt, hnl, hpl⟩ := (mem_ready hi.size).1 hri
      obtain ⟨x, hx, rfl⟩ := (hi.mem i hlt).1 hnl
      obtain ⟨l1, l2, rfl⟩ := List.append_of_mem hx
      obtain ⟨o, so, fl, ho, hso, hxe⟩ := hi.slim x (by simp)
      -- nothing ahead of it is an ancestor
      have hup : ∀ y i, Anc ops y i → (∀ p ∈ preds ops i, listed.getD p false = true) → listed.getD y false = true := by
        intro y i hy
        induction hy with
        | one h => exact fun hp => hp _ h
        | more h1 h2 ih1 => exact fun hp => ih1 (hi.down _ (hp _ h2))
      have hsw : ∀ y ∈ l1.map (·.2), canSwap s y x.2 = true := by
        intro y hy
        obtain ⟨z, hz, rfl⟩ := List.mem_map.1 hy
        have hpw := (List.pairwise_append.1 hi.pairs).2.2 z hz x (by simp)
        rcases hpw.2.2 with h | h
        · exact h
        · exfalso
          have h1 := hup _ _ h hpl
          obtain ⟨oz, _, _, hoz, _⟩ := hi.slim z (by simp [hz])
          have hzl : z.1 < ops.size := (Array.getElem?_eq_some_iff.1 hoz).1
          have h2 := (hi.mem z.1 hzl).2 ⟨z, by simp [hz], rfl⟩
          rw [h1] at h2; simp at h2
      rw [List.map_append, List.map_cons] at h
      have hred : (l1.map (·.2)).Pairwise (fun y z => noRedef y z = true) := by
        rw [List.pairwise_map]
        exact (List.pairwise_append.1 hi.pairs).1.imp fun h => h.2.1
      have hb := bubble hr.inf hred hsw h
      obtain ⟨fl2, hdr⟩ := dropAll_form (l1.map (·.2)) x.2
      have hnew : Inv s P n ops (listed.setIfInBounds x.1 true) (l1 ++ l2) := by
        have hxs : x.1 < listed.size := by rw [hi.size]; exact hlt
        have hpw := hi.pairs
        have hne1 : ∀ y ∈ l1, y.1 ≠ x.1 := fun y hy => ((List.pairwise_append.1 hpw).2.2 y hy x (by simp)).1
        have hne2 : ∀ y ∈ l2, y.1 ≠ x.1 := fun y hy => ((List.pairwise_cons.1 (List.pairwise_append.1 hpw).2.1).1 y hy).1.symm
        refine ⟨by simp [hi.size], fun p hp => hi.slim p (by simp at hp ⊢; exact hp.imp id .inr), fun i hi' => ?_, ?_, ?_, ?_⟩
        · rw [getD_set hxs]
          by_cases hxi : x.1 = i
          · subst hxi
            simp only [if_true, Bool.true_eq_false, false_iff]
            rintro ⟨p, hp, hpe⟩
            rcases List.mem_append.1 hp with hp | hp
            · exact hne1 p hp hpe
            · exact hne2 p hp hpe
          · rw [if_neg hxi, hi.mem i hi']
            constructor
            · rintro ⟨p, hp, rfl⟩
              refine ⟨p, ?_, rfl⟩
              simp at hp ⊢
              rcases hp with hp | rfl | hp
              · exact .inl hp
              · exact absurd rfl hxi
              · exact .inr hp
            · rintro ⟨p, hp, rfl⟩
              exact ⟨p, by simp at hp ⊢; exact hp.imp id .inr, rfl⟩
        · refine hpw.sublist ?_
          exact List.Sublist.append (List.Sublist.refl _) (List.sublist_cons_self _ _)
        · intro m1 z m2 he p hp
          rw [getD_set hxs]
          by_cases hxp : x.1 = p
          · exact .inl (by simp [hxp])
          · rw [if_neg hxp]
            -- where z stands in the whole
            rcases List.append_eq_append_iff.1 he with ⟨c, h1, h2⟩ | ⟨c, h1, h2⟩
            · -- l1 ++ c = m1, l2 = c ++ z :: m2
              rcases hi.top (l1 ++ x :: c) z m2 (by rw [h2]; simp) p hp with h | ⟨y, hy, hyp⟩
              · exact .inl h
              · refine .inr ⟨y, ?_, hyp⟩
                rw [h1]
                simp at hy ⊢
                rcases hy with hy | rfl | hy
                · exact .inl hy
                · exact absurd hyp hxp
                · exact .inr hy
            · cases c with
              | nil =>
                simp at h1 h2
                rcases hi.top (l1 ++ [x]) z m2 (by rw [← h2]; simp) p hp with h | ⟨y, hy, hyp⟩
                · exact .inl h
                · refine .inr ⟨y, ?_, hyp⟩
                  rw [← h1]
                  simp at hy ⊢
                  rcases hy with hy | rfl
                  · exact hy
                  · exact absurd hyp hxp
              | cons c0 c =>
                simp at h2
                obtain ⟨rfl, h2⟩ := h2
                rcases hi.top m1 z (c ++ x :: l2) (by rw [h1]; simp) p hp with h | ⟨y, hy, hyp⟩
                · exact .inl h
                · exact .inr ⟨y, hy, hyp⟩
        · intro i hi' p hp
          rw [getD_set hxs] at hi' ⊢
          by_cases hxp : x.1 = p
          · simp [hxp]
          · rw [if_neg hxp]
            by_cases hxi : x.1 = i
            · subst hxi; exact hpl p hp
            · rw [if_neg hxi] at hi'; exact hi.down i hi' p hp
      obtain ⟨h1, h2, h3, h4, h5⟩ := wanted_iff ha hso
      have hxd : x.2.d = so.d := by rw [hxe]
      have hxg : x.2.g = so.g := by rw [hxe]
      obtain ⟨fl3, hxk⟩ : ∃ fl3, (dropAll (l1.map (·.2)) x.2).k = so.k.withFl fl3 := by
        rw [hdr, hxe]
        exact SK.withFl_two _ _ _
      have hxg' : (dropAll (l1.map (·.2)) x.2).g = x.2.g := by rw [hdr]
      have hxd' : (dropAll (l1.map (·.2)) x.2).d = x.2.d := by rw [hdr]
      rw [← hxg] at h1 h2
      have next : ∀ a' w', St n (opsW P s (l1.map (·.2) ++ l2.map (·.2)) (up (up K))) F M w a' w' → wpAny P .any ops Q fuel (listed.setIfInBounds x.1 true) a' w' := by
        rintro a' w' ⟨σ', F', M', ha', hr', hf', h'⟩
        refine ih (by simp at hl ⊢; omega) hnew ha' hr' (hf.trans hf') ?_
        rw [List.map_append]
        exact opsW_mono (fun _ _ _ => up_up) h'
      unfold wpOp
      rw [ho]
      simp only
      rw [stepG_iff] at hb
      have run : stepK P s (dropAll (l1.map (·.2)) x.2).d (dropAll (l1.map (·.2)) x.2).k (opsW P s (l1.map (·.2) ++ l2.map (·.2)) (up (up K))) σ F M → o.wp P a w (wpAny P .any ops Q fuel (listed.setIfInBounds x.1 true)) Q := fun hk => by
        rw [hxd', hxd, h3, hxk] at hk
        exact Oper.wp_mono next (step_sound_fl (s := s) h4 ha hr h5 hk)
      rcases hb with ⟨hg, hk⟩ | ⟨hg, hk⟩
      · have hw : Region.wanted o (yielded ops a.tmps) = true := by
          cases hg' : x.2.g with
          | none => exact h1 hg'
          | some p => obtain ⟨t, want⟩ := p; simp only [GdT, hxg', hg'] at hg; exact (h2 t want _ hg' hg).2 rfl
        rw [if_pos hw]
        exact .inl (run hk)
      · have hw : ¬ Region.wanted o (yielded ops a.tmps) = true := by
          cases hg' : x.2.g with
          | none => simp [GdF, hxg', hg'] at hg
          | some p =>
            obtain ⟨t, want⟩ := p
            simp only [GdF, hxg', hg'] at hg
            obtain ⟨v, hv, hvn⟩ := hg
            exact fun e => hvn ((h2 t want v hg' hv).1 e)
        rw [if_neg hw]
        rw [hxd', hxd, h3] at hk
        exact next _ _ ⟨_, F, M, ha.put h4, hr, Fr.refl _ _ _, hk⟩

theorem region_any {K : Env → Fz → Hp → Prop} {id : Nat} {l : List (Nat × SO)} {σ : Env} {F : Fz} {M : Hp} {a : Act} {w : World} (hm : P.follows .mixedOrders = true)
    (hQ : ∀ a' w', St n K F M w a' w' → Q .normal a' w') (hs : ∀ p ∈ l, ∃ o so fl, ops[p.1]? = some o ∧ slimO P n ops o = some so ∧ p.2 = { so with k := so.k.withFl fl }) (hok : okD s ops l = true)
    (ha : Agree n σ a) (hr : Rel F M w) (h : opsW P s (l.map (·.2)) K σ F M) : (Code.region id ops true).wp P Q a w := by
  simp only [okD, Bool.and_eq_true] at hok
  obtain ⟨⟨h1, h2⟩, h3⟩ := hok
  obtain ⟨g1, _, g3⟩ := okGo_spec (seen := []) (st := []) (fun j y hy => by simp [getM] at hy) h1
  have hall : ∀ i, i < ops.size → ∃ p ∈ l, p.1 = i := fun i hi => by
    have := List.all_eq_true.1 h2 i (List.mem_range.2 hi)
    simpa only [List.any_eq_true, beq_iff_eq] using this
  have hfalse : ∀ i, (Array.replicate ops.size false).getD i false = false := fun i => by simp [Array.getD_eq_getD_getElem?, Array.getElem?_replicate]; split <;> rfl
  have hlen : l.length = ops.size := by simpa using h3
  refine wp_region_any hm ?_
  refine any_sound (n := n) (K := K) (F0 := F) (M0 := M) (w0 := w) hQ ops.size (l0 := l) hlen ⟨by simp, hs, fun i hi => ?_, g1, fun l1 x l2 he p hp => ?_, fun i hi => ?_⟩ ha (hr.like ⟨rfl, rfl, rfl, rfl⟩) (Fr.like ⟨rfl, rfl, rfl, rfl⟩)
    (opsW_env (Env.le_refl _) h)
  · rw [hfalse]; simp only [true_iff]; exact hall i hi
  · rcases g3 l1 x l2 he p hp with ⟨y, hy, _⟩ | hy
    · simp at hy
    · exact .inr hy
  · rw [hfalse] at hi; simp at hi
end

end Go.Ax

/- The small code, what it asks of what is known, and that a call does so. -/
namespace Go.Ax
open Go
set_option linter.unusedSimpArgs false

inductive SC where
  | skip
  | ret
  | exit (i : Nat)
  | ops (l : List SO)
  | opd (l : List SO)
  | opq (l : List SO)
  | seq (a b : SC)
  | cond (c : Operand) (a b : SC)
  | block (i : Nat) (c : SC)
  | loop (c : SC)
  | bad

def slimD (P : Program) (n : Nat) (ops : Array Oper) (ord : List (Nat × List Nat)) : Option (List (Nat × SO)) :=
  ord.mapM fun i => (ops[i.1]?).bind fun o => (slimO P n ops o).map fun s => (i.1, { s with k := s.k.withFl i.2 })

/-- The small code of a code. hs: an order for each region that draws its own. -/
def slimC (P : Program) (n : Nat) : Code → List (List (Nat × List Nat)) → Option (SC × List (List (Nat × List Nat)))
  | .skip, hs => some (.skip, hs)
  | .ret, hs => some (.ret, hs)
  | .exit i, hs => some (.exit i, hs)
  | .region _ ops false, hs => match ops.toList.mapM (slimO P n ops) with
    | some l => some (.ops l, hs)
    | none => some (.bad, hs)
  | .region _ ops true, hs => match hs with
    | [] => none
    | ord :: hs => match slimD P n ops ord with
      | none => none
      | some l => if okD false ops l = true then some (.opq (l.map (·.2)), hs) else if okD true ops l = true then some (.opd (l.map (·.2)), hs) else none
  | .seq a b, hs => match slimC P n a hs with
    | none => none
    | some (x, hs) => match slimC P n b hs with
      | none => none
      | some (y, hs) => some (.seq x y, hs)
  | .cond c a b, hs => match slimC P n a hs with
    | none => none
    | some (x, hs) => match slimC P n b hs with
      | none => none
      | some (y, hs) => some (.cond c x y, hs)
  | .block i c, hs => match slimC P n c hs with
    | none => none
    | some (x, hs) => some (.block i x, hs)
  | .loop c, hs => match slimC P n c hs with
    | none => none
    | some (x, hs) => some (.loop x, hs)
  | _, _ => none

inductive Ex where
  | n | r | e (i : Nat)
abbrev Post := Ex → Env → Fz → Hp → Prop

/-- What comes behind the first of two. -/
def Post.andThen (next : Env → Fz → Hp → Prop) (Q : Post) : Post
  | .n => next
  | x => Q x
def Post.inBlock (i : Nat) (Q : Post) : Post
  | .e j => if j = i then Q .n else Q (.e j)
  | x => Q x

def W (P : Program) : SC → Post → Env → Fz → Hp → Prop
  | .bad, _ => fun _ _ _ => False
  | .skip, Q => Q .n
  | .ret, Q => Q .r
  | .exit i, Q => Q (.e i)
  | .ops l, Q => opsW P false l (Q .n)
  | .opd l, Q => opsW P true l (Q .n)
  | .opq l, Q => opsW P false l (Q .n)
  | .seq a b, Q => W P a (Post.andThen (W P b Q) Q)
  | .cond c a b, Q => fun σ F M => ∃ t, ev σ c = some (.bool t) ∧ (t = true → W P a Q σ F M) ∧ (t = false → W P b Q σ F M)
  | .block i c, Q => W P c (Q.inBlock i)
  | .loop c, Q => fun σ F M => ∃ (I : Nat → Env → Fz → Hp → Prop) (n : Nat), (∃ F' M', Wk F M F' M' ∧ I n σ F' M') ∧ ∀ n σ F M, I n σ F M → W P c (Post.andThen (fun σ F M => ∃ m, m < n ∧ I m σ F M) Q) σ F M

theorem W_mono {P : Program} : ∀ {c : SC} {Q Q' : Post} {σ : Env} {F : Fz} {M : Hp}, (∀ x σ F M, Q x σ F M → Q' x σ F M) → W P c Q σ F M → W P c Q' σ F M := by
  intro c
  induction c with
  | bad => intro Q Q' σ F M h hh; exact hh.elim
  | skip => intro Q Q' σ F M h hh; exact h _ _ _ _ hh
  | ret => intro Q Q' σ F M h hh; exact h _ _ _ _ hh
  | exit i => intro Q Q' σ F M h hh; exact h _ _ _ _ hh
  | ops l => intro Q Q' σ F M h hh; exact opsW_mono (fun σ F M => h .n σ F M) hh
  | opd l => intro Q Q' σ F M h hh; exact opsW_mono (fun σ F M => h .n σ F M) hh
  | opq l => intro Q Q' σ F M h hh; exact opsW_mono (fun σ F M => h .n σ F M) hh
  | seq a b iha ihb =>
    intro Q Q' σ F M h hh
    refine iha (fun x σ F M hx => ?_) hh
    cases x with
    | n => exact ihb h hx
    | r => exact h _ _ _ _ hx
    | e i => exact h _ _ _ _ hx
  | cond c a b iha ihb =>
    intro Q Q' σ F M h hh
    obtain ⟨t, h1, h2, h3⟩ := hh
    exact ⟨t, h1, fun ht => iha h (h2 ht), fun ht => ihb h (h3 ht)⟩
  | block i c ih =>
    intro Q Q' σ F M h hh
    refine ih (fun x σ F M hx => ?_) hh
    cases x with
    | n => exact h _ _ _ _ hx
    | r => exact h _ _ _ _ hx
    | e j => simp only [Post.inBlock] at hx ⊢; split <;> simp_all
  | loop c ih =>
    intro Q Q' σ F M h hh
    obtain ⟨I, n, h1, h2⟩ := hh
    refine ⟨I, n, h1, fun n σ F M hi => ih (fun x σ F M hx => ?_) (h2 n σ F M hi)⟩
    cases x with
    | n => exact hx
    | r => exact h _ _ _ _ hx
    | e j => exact h _ _ _ _ hx

/-- The post of a code, for the machine. -/
def PostC (n : Nat) (Q : Post) (F0 : Fz) (M0 : Hp) (w0 : World) : Exit → Act → World → Prop
  | .normal, a, w => St n (Q .n) F0 M0 w0 a w
  | .ret, a, w => St n (Q .r) F0 M0 w0 a w
  | .exit i, a, w => St n (Q (.e i)) F0 M0 w0 a w
  | _, _, _ => False

theorem PostC.trans {n : Nat} {Q : Post} {F0 F1 : Fz} {M0 M1 : Hp} {w0 w1 : World} (h : Fr F0 M0 w0 F1 M1 w1) : ∀ e a w, PostC n Q F1 M1 w1 e a w → PostC n Q F0 M0 w0 e a w := by
  intro e a w hh
  cases e <;> simp only [PostC] at hh ⊢
  all_goals first | exact hh | (obtain ⟨σ, F, M, h1, h2, h3, h4⟩ := hh; exact ⟨σ, F, M, h1, h2, h.trans h3, h4⟩)

theorem slimD_spec {P : Program} {n : Nat} {ops : Array Oper} : ∀ {ord : List (Nat × List Nat)} {l : List (Nat × SO)}, slimD P n ops ord = some l → ∀ p ∈ l, ∃ o so fl, ops[p.1]? = some o ∧ slimO P n ops o = some so ∧ p.2 = { so with k := so.k.withFl fl } := by
  intro ord
  induction ord with
  | nil => intro l h; simp [slimD] at h; subst h; simp
  | cons i ord ih =>
    intro l h
    simp only [slimD, List.mapM_cons, Option.bind_eq_bind, Option.pure_def] at h
    cases ho : ops[i.1]? with
    | none => simp [ho] at h
    | some o =>
      cases hs : slimO P n ops o with
      | none => simp [ho, hs] at h
      | some s =>
        cases hr : slimD P n ops ord with
        | none => simp only [slimD] at hr; simp [ho, hs, hr] at h
        | some r =>
          have hr' := hr
          simp only [slimD] at hr
          simp [ho, hs, hr] at h
          subst h
          intro p hp
          rcases List.mem_cons.1 hp with rfl | hp
          · exact ⟨o, s, i.2, ho, hs, rfl⟩
          · exact ih hr' p hp

theorem wf_min {p : Nat → Prop} (h : ∃ m, p m) : ∃ m, p m ∧ ∀ k, p k → m ≤ k := by
  obtain ⟨m, hm⟩ := h
  induction m using Nat.strongRecOn with
  | _ m ih =>
    by_cases hh : ∃ k, k < m ∧ p k
    · obtain ⟨k, hk, hp⟩ := hh; exact ih k hk hp
    · exact ⟨m, hm, fun k hk => Nat.le_of_not_lt fun hlt => hh ⟨k, hlt, hk⟩⟩

theorem code_sound {P : Program} {n : Nat} (hm : P.follows .mixedOrders = true) : ∀ {c : Code} {sc : SC} {hs hs' : List (List (Nat × List Nat))}, slimC P n c hs = some (sc, hs') →
    ∀ {Q : Post} {σ : Env} {F : Fz} {M : Hp} {a : Act} {w : World}, Agree n σ a → Rel F M w → W P sc Q σ F M → c.wp P (PostC n Q F M w) a w := by
  intro c
  induction c with
  | skip => intro sc hs hs' h Q σ F M a w ha hr hw; simp [slimC] at h; obtain ⟨rfl, rfl⟩ := h; exact wp_skip ⟨σ, F, M, ha, hr, Fr.refl _ _ _, hw⟩
  | ret => intro sc hs hs' h Q σ F M a w ha hr hw; simp [slimC] at h; obtain ⟨rfl, rfl⟩ := h; exact wp_ret ⟨σ, F, M, ha, hr, Fr.refl _ _ _, hw⟩
  | exit i => intro sc hs hs' h Q σ F M a w ha hr hw; simp [slimC] at h; obtain ⟨rfl, rfl⟩ := h; exact wp_exit ⟨σ, F, M, ha, hr, Fr.refl _ _ _, hw⟩
  | region id ops draw =>
    intro sc hs hs' h Q σ F M a w ha hr hw
    cases draw with
    | false =>
      simp only [slimC] at h
      cases hl : ops.toList.mapM (slimO P n ops) with
      | none => simp [hl] at h; obtain ⟨rfl, rfl⟩ := h; exact hw.elim
      | some l =>
        simp [hl] at h; obtain ⟨rfl, rfl⟩ := h
        exact wp_region_list (ops_sound (K := Q .n) (F0 := F) (M0 := M) (w0 := w) (fun a w h => h) hl ha hr (Fr.refl _ _ _) hw)
    | true =>
      simp only [slimC] at h
      cases hs with
      | nil => simp at h
      | cons ord hs =>
        cases hl : slimD P n ops ord with
        | none => simp [hl] at h
        | some l =>
          simp only [hl] at h
          split at h
          · rename_i hok
            cases h
            exact region_any (s := false) hm (fun a w h => h) (slimD_spec hl) hok ha hr hw
          · split at h
            · rename_i hok
              cases h
              exact region_any (s := true) hm (fun a w h => h) (slimD_spec hl) hok ha hr hw
            · cases h
  | seq x y ihx ihy =>
    intro sc hs hs' h Q σ F M a w ha hr hw
    simp only [slimC] at h
    split at h
    · simp at h
    · rename_i sx hs1 h1
      split at h
      · simp at h
      · rename_i sy hs2 h2
        simp at h; obtain ⟨rfl, rfl⟩ := h
        refine wp_seq (Code.wp_mono (fun e a w hh => ?_) (ihx h1 ha hr hw))
        cases e <;> simp only [PostC, Exit.then] at hh ⊢
        case normal =>
          obtain ⟨σ', F', M', ha', hr', hf', hw'⟩ := hh
          exact Code.wp_mono (PostC.trans hf') (ihy h2 ha' hr' hw')
        all_goals exact hh
  | cond c x y ihx ihy =>
    intro sc hs hs' h Q σ F M a w ha hr hw
    simp only [slimC] at h
    split at h
    · simp at h
    · rename_i sx hs1 h1
      split at h
      · simp at h
      · rename_i sy hs2 h2
        simp at h; obtain ⟨rfl, rfl⟩ := h
        obtain ⟨t, hc, ht, hf⟩ := hw
        exact wp_cond_split (ha.ev hc) (fun e => ihx h1 ha hr (ht e)) (fun e => ihy h2 ha hr (hf e))
  | block i c ih =>
    intro sc hs hs' h Q σ F M a w ha hr hw
    simp only [slimC] at h
    split at h
    · simp at h
    · rename_i sx hs1 h1
      simp at h; obtain ⟨rfl, rfl⟩ := h
      refine wp_block (Code.wp_mono (fun e a w hh => ?_) (ih h1 ha hr hw))
      cases e <;> simp only [PostC, Exit.inBlock] at hh ⊢
      case exit j =>
        simp only [Post.inBlock] at hh
        split <;> simp_all
      all_goals exact hh
  | loop c ih =>
    intro sc hs hs' h Q σ F M a w ha hr hw
    simp only [slimC] at h
    split at h
    · simp at h
    · rename_i sx hs1 h1
      simp at h; obtain ⟨rfl, rfl⟩ := h
      obtain ⟨I, k, ⟨F1, M1, hwk, hi⟩, hrd⟩ := hw
      let J : Nat → Act → World → Prop := fun m a' w' => ∃ σ' F' M', Agree n σ' a' ∧ Rel F' M' w' ∧ Fr F M w F' M' w' ∧ I m σ' F' M'
      classical
      refine wp_loop (fun a' w' => ∃ m, J m a' w') (fun a' w' => if h : ∃ m, J m a' w' then Classical.choose (wf_min h) else 0) ⟨k, σ, F1, M1, ha, hwk.rel _ hr, ⟨rfl, rfl, rfl, Nat.le_refl _, fun b hb hm => ⟨rfl, hwk.domM b hm, fun hf => hwk.domF b hf hm⟩⟩, hi⟩ ?_
      intro a' w' hJ
      have hmin := Classical.choose_spec (wf_min hJ)
      rw [dif_pos hJ]
      obtain ⟨⟨σ', F', M', ha', hr', hf', hi'⟩, hleast⟩ := hmin
      refine Code.wp_mono (fun e a2 w2 hh => ?_) (ih h1 ha' hr' (hrd _ σ' F' M' hi'))
      cases e <;> simp only [PostC, Exit.then] at hh ⊢
      case normal =>
        obtain ⟨σ2, F2, M2, ha2, hr2, hf2, m, hlt, hi2⟩ := hh
        have hJ2 : ∃ m, J m a2 w2 := ⟨m, σ2, F2, M2, ha2, hr2, hf'.trans hf2, hi2⟩
        refine ⟨hJ2, ?_⟩
        rw [dif_pos hJ2]
        exact Nat.lt_of_le_of_lt ((Classical.choose_spec (wf_min hJ2)).2 m ⟨σ2, F2, M2, ha2, hr2, hf'.trans hf2, hi2⟩) hlt
      all_goals first | exact hh.elim | (obtain ⟨σ2, F2, M2, g1, g2, g3, g4⟩ := hh; exact ⟨σ2, F2, M2, g1, g2, hf'.trans g3, g4⟩)
  | _ => intro sc hs hs' h; simp [slimC] at h
/-- What a function hands back: variables, or what lies at an address. -/
inductive RS where
  | t (t : Nat)
  | c (agg : Bool) (n a : Nat)
def slimR (P : Program) : List ResultVar → Option (List RS)
  | [] => some []
  | .tmp t :: l => (slimR P l).map fun r => .t t :: r
  | .cell a ty :: l => match aggT P ty, sizeT P ty, slimR P l with
    | some b, some n, some r => some (.c b n a :: r)
    | _, _, _ => none
def retL (σ : Env) (F : Fz) (M : Hp) : List RS → Option (List Value)
  | [] => some []
  | .t t :: l => (look σ t).bind fun v => (retL σ F M l).map fun vs => v :: vs
  | .c b n a :: l => match look σ a with
    | some (.pointer (some ⟨g, o, none⟩)) => (blk F M g).bind fun c => (rd b n c o).bind fun v => (retL σ F M l).map fun vs => v :: vs
    | _ => none
def retV : List Value → Value
  | [v] => v
  | vs => .tuple vs.toArray

def resF (a : Act) : ResultVar → Sem Value
  | .tmp t => pure (a.tmps.getD t undef)
  | .cell c t => do loadVar t (← asAddr (a.tmps.getD c undef))
theorem results_run {P : Program} {n : Nat} {σ : Env} {F : Fz} {M : Hp} {a : Act} {w : World} (ha : Agree n σ a) (hr : Rel F M w) :
    ∀ {l : List ResultVar} {rs : List RS} {vs : List Value}, slimR P l = some rs → retL σ F M rs = some vs →
      (l.mapM (resF a)).run P w = .ok vs w := by
  intro l
  induction l with
  | nil => intro rs vs h hv; simp [slimR] at h; subst h; simp [retL] at hv; subst hv; simp
  | cons x l ih =>
    intro rs vs h hv
    cases x with
    | tmp t =>
      simp only [slimR] at h
      cases hl : slimR P l with
      | none => simp [hl] at h
      | some r =>
        simp [hl] at h; subst h
        simp only [retL] at hv
        cases ht : look σ t with
        | none => simp [ht] at hv
        | some v =>
          cases hvs : retL σ F M r with
          | none => simp [ht, hvs] at hv
          | some us =>
            simp [ht, hvs] at hv; subst hv
            have := ha.get t v ht
            have ih' := ih hl hvs
            simp only [List.mapM_cons, resF, Sem.run_bind, Sem.run_pure, Result.andThen_ok]
            rw [ih']
            simp [Array.getD_eq_getD_getElem?, this]
    | cell c t =>
      simp only [slimR] at h
      split at h
      · rename_i b m r h1 h2 h3
        simp at h; subst h
        simp only [retL] at hv
        split at hv
        · rename_i g o hlk
          cases hb : blk F M g with
          | none => simp [hb] at hv
          | some cs =>
            cases hrd : rd b m cs o with
            | none => simp [hb, hrd] at hv
            | some v =>
              cases hvs : retL σ F M r with
              | none => simp [hb, hrd, hvs] at hv
              | some us =>
                simp [hb, hrd, hvs] at hv; subst hv
                have h4 := ha.get c _ hlk
                have ih' := ih h3 hvs
                simp only [List.mapM_cons, resF, Sem.run_bind]
                rw [show a.tmps.getD c undef = .pointer (some ⟨g, o, none⟩) by simp [Array.getD_eq_getD_getElem?, h4]]
                simp only [asAddr, Sem.run_pure, Result.andThen_ok, run_loadVar hr h1 h2 hb hrd, ih']
        · simp at hv
      · simp at h

def env0 : List Value → Nat → Env
  | [], _ => []
  | v :: l, k => (k, v) :: env0 l (k + 1)
theorem look_env0 : ∀ {l : List Value} {k t : Nat} {v : Value}, look (env0 l k) t = some v → k ≤ t ∧ l[t - k]? = some v := by
  intro l
  induction l with
  | nil => intro k t v h; simp [env0, look] at h
  | cons x l ih =>
    intro k t v h
    simp only [env0, look] at h
    split at h
    · rename_i e; subst e; simp at h; subst h; simp
    · obtain ⟨h1, h2⟩ := ih h
      refine ⟨by omega, ?_⟩
      rw [show t - k = (t - (k + 1)) + 1 by omega]
      simpa using h2

/-- A function's small code, results, number of variables: told by its text alone. -/
structure SF where
  n : Nat
  rs : List RS
  c : SC
def slimF (P : Program) (fn : Func) (hs : List (List (Nat × List Nat))) : Option SF :=
  if (fn.name == "runtime.NumGoroutine") = true then none else
  match fn.body with
  | none => none
  | some c => match slimC P fn.ntmps c hs, slimR P fn.results.toList with
    | some (sc, []), some rs => some ⟨fn.ntmps, rs, sc⟩
    | _, _ => none

/-- A run's end: what comes back; less may be told. -/
def RetP (rs : List RS) (R : Value → Fz → Hp → Prop) : Post
  | .e _ => fun _ _ _ => False
  | _ => fun σ F M => ∃ vs, retL σ F M rs = some vs ∧ ∃ F' M', Wk F M F' M' ∧ R (retV vs) F' M'

theorem callsA_of {P : Program} {f : FuncId} {fn : Func} {hs : List (List (Nat × List Nat))} {sf : SF} {args : List Value} {F : Fz} {M : Hp} {R : Value → Fz → Hp → Prop}
    (hm : P.follows .mixedOrders = true) (hf : P.funcs[f]? = some fn) (hsf : slimF P fn hs = some sf) (hn : args.length ≤ sf.n)
    (h : W P sf.c (RetP sf.rs R) (env0 args 0) F M) : CallsA P f args F M R := by
  unfold slimF at hsf
  split at hsf
  · simp at hsf
  · rename_i hname
    split at hsf
    · simp at hsf
    · rename_i c hb
      split at hsf
      · rename_i sc rs h1 h2
        simp at hsf; subst hsf
        refine CallsA.wk ⟨⟨fn, hf, by simpa using hname, by simp [hb]⟩, fun w hr => ?_⟩
        have ha : Agree fn.ntmps (env0 args 0) { tmps := args.toArray ++ Array.replicate (fn.ntmps - args.toArray.size) undef, defers := [] } := by
          refine ⟨by simp at hn ⊢; omega, rfl, fun t v ht => ?_⟩
          obtain ⟨_, h3⟩ := look_env0 ht
          have hlt := (List.getElem?_eq_some_iff.1 h3).1
          simp at h3 hlt
          show (args.toArray ++ Array.replicate (fn.ntmps - args.toArray.size) undef)[t]? = some v
          rw [Array.getElem?_append_left (by simpa using hlt)]
          simpa using h3
        have hw := code_sound hm h1 ha hr h
        refine calls_of_wp hf hb (Code.wp_mono (fun e a w' hh => ?_) hw)
        cases e <;> simp only [PostC] at hh
        all_goals first | exact hh.elim | skip
        all_goals
          obtain ⟨σ', F', M', ha', hr', hfr, hret⟩ := hh
          simp only [RetP] at hret
        all_goals
          obtain ⟨vs, hvs, F2, M2, hwk, hR⟩ := hret
          have hrun := results_run ha' hr' h2 hvs
          refine ⟨ha'.defers, retV vs, ?_, retV vs, F', M', rfl, hr', hfr, F2, M2, hwk, hR⟩
          have e1 : results fn a.tmps = (fun vs : Array Value => if h : vs.size = 1 then vs[0] else .tuple vs) <$> fn.results.mapM (resF a) := by
            unfold results resF
            rfl
          rw [e1, Array.mapM_eq_mapM_toList]
          simp only [Sem.run_map]
          rw [hrun]
          simp only [Result.andThen_ok]
          congr 1
          match vs with
          | [] => simp [retV]
          | [v] => simp [retV]
          | u :: v :: l => simp [retV]
      · simp at hsf

end Go.Ax

/- Short words in which small codes are written, and what each asks, ready for rewriting step by step. -/
namespace Go.Ax.N
open Go Go.Ax
abbrev t (n : Nat) : Operand := .tmp n
abbrev i (n : Int) : Operand := .const (.int .i64 n)
abbrev b (v : Bool) : Operand := .const (.bool v)
def o (d : Nat) (q : PK) : SO := ⟨some d, none, .p q⟩
def og (d g : Nat) (w : Bool) (q : PK) : SO := ⟨some d, some (g, w), .p q⟩
def k (d : Nat) (s : SK) : SO := ⟨some d, none, s⟩
def kn (s : SK) : SO := ⟨none, none, s⟩
end Go.Ax.N
namespace Go.Ax
open Go
set_option linter.unusedVariables false

attribute [go_sem] Hp.upd_same not_false_eq_true
@[go_sem] theorem Hp.upd_ne' {M : Hp} {b k : Nat} {e : Ent} (h : ¬ k = b) : M.upd b e k = M k := Hp.upd_ne h
theorem upd_none {M : Hp} {b r : Nat} {e : Ent} : ((M.upd b e) r = none) = (¬ r = b ∧ M r = none) := by
  apply propext
  by_cases h : r = b
  · subst h; simp
  · simp [Hp.upd_ne h, h]
@[go_sem] theorem blk_upd_same {F : Fz} {M : Hp} {b : Nat} {e : Ent} : blk F (M.upd b e) b = some e.cells := by simp [blk]
@[go_sem] theorem blk_upd_ne {F : Fz} {M : Hp} {b k : Nat} {e : Ent} (h : ¬ k = b) : blk F (M.upd b e) k = blk F M k := by simp [blk, Hp.upd_ne h]
theorem blk_M {F : Fz} {M : Hp} {b : Nat} {e : Ent} (h : M b = some e) : blk F M b = some e.cells := by simp [blk, h]
theorem blk_F {F : Fz} {M : Hp} {b : Nat} {c : List Value} (h : F b = some c) (hm : M b = none) : blk F M b = some c := by simp [blk, h, hm]
def setH (M : Hp) (b : Nat) (e : Ent) : Hp := M.upd b e
@[go_sem] theorem setH_same {M : Hp} {b : Nat} {x e : Ent} : setH (M.upd b x) b e = M.upd b e := Hp.upd_upd
@[go_sem] theorem setH_ne {M : Hp} {b r : Nat} {x e : Ent} (h : ¬ b = r) : setH (M.upd r x) b e = (setH M b e).upd r x := (Hp.upd_comm (Ne.symm h))

section
variable (P : Program) (s : Bool) (d : Option Nat) (l : List SO) (K : Env → Fz → Hp → Prop) (σ : Env) (F : Fz) (M : Hp)
/-- A value is told, then the rest. -/
def oK (o : Option Value) : Prop := ∃ v, o = some v ∧ opsW P s l K (put σ d v) F M
def stepW (k : SK) : Prop := stepK P s d k (opsW P s l K) σ F M
/-- A guard is asked, then the step or not. -/
def gK (w : Bool) (k : SK) (o : Option Value) : Prop := ∃ u, o = some u ∧ (u = .bool w → stepW P s d l K σ F M k) ∧ (u ≠ .bool w → opsW P s l K (put σ d undef) F M)
def mkR : Option Nat → Nat → Value
  | none, r => .pointer (some ⟨r, 0, none⟩)
  | some n, r => .slice (some ⟨r, 0, none⟩) n n
/-- A new block, then the rest. -/
def nK (mk : Option Nat) (e : Ent) : Prop := ∀ r, F r = none → M r = none → opsW P s l K (put σ d (mkR mk r)) F (M.upd r e)
def bxK (e : Nat) (o : Option Value) : Prop := ∃ v, o = some v ∧ nK P s d l K σ F M none ⟨v.cells.toList, e, v.cells.toList.length⟩
def bsK (e len : Nat) (o : Option (List Value)) : Prop := ∃ cs, o = some cs ∧ nK P s d l K σ F M (some len) ⟨cs, e, cs.length⟩
/-- A call, then the rest. -/
def callK (g : Nat) (args : List Value) : Prop := CallsA P g args F M fun v F' M' => (s = true → Le F M F' M') ∧ opsW P s l K (put σ d v) F' M'
/-- A call that may not change places. -/
def callQ (g : Nat) (args : List Value) : Prop := CallsA P g args F M fun v F' M' => opsW P s l K (put σ d v) F' M'
def cqK2 (g : Nat) (fi ca : Array Value) (o : Option (List Value)) : Prop := ∃ vs, o = some vs ∧ callQ P s d l K σ F M g (fi.toList ++ vs ++ ca.toList)
def cqK (args : List Operand) (o : Option Value) : Prop := ∃ g fi ca, o = some (.func (.func g) fi ca) ∧ cqK2 P s d l K σ F M g fi ca (evs σ args)
def caK2 (g : Nat) (fi ca : Array Value) (o : Option (List Value)) : Prop := ∃ vs, o = some vs ∧ callK P s d l K σ F M g (fi.toList ++ vs ++ ca.toList)
def caK (args : List Operand) (o : Option Value) : Prop := ∃ g fi ca, o = some (.func (.func g) fi ca) ∧ caK2 P s d l K σ F M g fi ca (evs σ args)
/-- A store. -/
def stK4 (M' : Hp) (A : Prop) : Prop := A ∧ opsW P s l K (put σ d undef) F M'
def stK3 (fl : List Nat) (n b o : Nat) (v : Value) (oe : Option Ent) : Prop := ∃ e, oe = some e ∧
  stK4 P s d l K σ F (setH M b ⟨e.cells.take o ++ v.cells.toList ++ e.cells.drop (o + n), e.elem, e.size⟩)
    (v.cells.size = n ∧ plainCells v.cells.toList ∧ o + n ≤ e.cells.length ∧ ∀ t ∈ fl, ∃ b' o', look σ t = some (.pointer (some ⟨b', o', none⟩)) ∧ b' ≠ b)
def stK2 (fl : List Nat) (n b o : Nat) (ov : Option Value) : Prop := ∃ v, ov = some v ∧ stK3 P s d l K σ F M fl n b o v (M b)
def stK (fl : List Nat) (n : Nat) (x : Operand) (oa : Option Value) : Prop := ∃ b o, oa = some (.pointer (some ⟨b, o, none⟩)) ∧ stK2 P s d l K σ F M fl n b o (ev σ x)
/-- An append. -/
def apK (e es bytes : Nat) (ox oy : Option Value) : Prop := ∃ v, ox = some v ∧ ∃ u, oy = some u ∧ ∃ n xs, Own M e es v n xs ∧ ∃ m ys, Src F M es u m ys ∧ plainCells ys ∧
      n + m ≤ maxLen ∧ (n + m) * bytes ≤ 140737488355328 ∧ ∀ v' M', ApRes F M e es v n m (xs ++ ys) v' M' → opsW P s l K (put σ d v') F M'
/-- A make. -/
def msK (e es bytes : Nat) (z : List Value) (ox oy : Option Value) : Prop := ∃ k n, ox = some (.int k (n : Nat)) ∧ ∃ k' m, oy = some (.int k' (m : Nat)) ∧ n ≤ m ∧ m ≤ maxLen ∧ m * bytes ≤ 140737488355328 ∧
      ∀ r, F r = none → M r = none → opsW P s l K (put σ d (.slice (some ⟨r, 0, none⟩) n m)) F (M.upd r ⟨(List.replicate m z).flatten, e, m * es⟩)
/-- A copy. -/
def cpK (es : Nat) (ox oy : Option Value) : Prop := ∃ b o n c, ox = some (.slice (some ⟨b, o, none⟩) n c) ∧ ∃ u, oy = some u ∧ ∃ m ys, Src F M es u m ys ∧ plainCells ys ∧ ∃ e, M b = some e ∧
      o + n * es ≤ e.cells.length ∧
      opsW P s l K (put σ d (.int .i64 (min m n : Nat))) F (M.upd b ⟨e.cells.take o ++ ys.take (min m n * es) ++ e.cells.drop (o + min m n * es), e.elem, e.size⟩)
end

section
variable {P : Program} {s : Bool} {d : Option Nat} {t : Nat} {l : List SO} {K : Env → Fz → Hp → Prop} {σ : Env} {F : Fz} {M : Hp}
@[go_sem] theorem w_nil : opsW P s [] K σ F M = K σ F M := rfl
@[go_sem] theorem w_o {q : PK} : opsW P s (N.o t q :: l) K σ F M = oK P s (some t) l K σ F M (q.val σ F M) := rfl
@[go_sem] theorem w_og {q : PK} {g : Nat} {w : Bool} : opsW P s (N.og t g w q :: l) K σ F M = gK P s (some t) l K σ F M w (.p q) (look σ g) := rfl
@[go_sem] theorem w_k {k : SK} : opsW P s (N.k t k :: l) K σ F M = stepW P s (some t) l K σ F M k := rfl
@[go_sem] theorem w_kn {k : SK} : opsW P s (N.kn k :: l) K σ F M = stepW P s none l K σ F M k := rfl
@[go_sem] theorem w_g {g : Nat} {w : Bool} {k : SK} : opsW P s (⟨d, some (g, w), k⟩ :: l) K σ F M = gK P s d l K σ F M w k (look σ g) := rfl
@[go_sem] theorem w_n {k : SK} : opsW P s (⟨none, none, k⟩ :: l) K σ F M = stepW P s none l K σ F M k := rfl
@[go_sem] theorem oK_some {v : Value} : oK P s d l K σ F M (some v) = opsW P s l K (put σ d v) F M := by simp [oK]
@[go_sem] theorem gK_tt {k : SK} : gK P s d l K σ F M true k (some (.bool true)) = stepW P s d l K σ F M k := by simp [gK]
@[go_sem] theorem gK_ff {k : SK} : gK P s d l K σ F M false k (some (.bool false)) = stepW P s d l K σ F M k := by simp [gK]
@[go_sem] theorem gK_tf {k : SK} : gK P s d l K σ F M true k (some (.bool false)) = opsW P s l K (put σ d undef) F M := by simp [gK]
@[go_sem] theorem gK_ft {k : SK} : gK P s d l K σ F M false k (some (.bool true)) = opsW P s l K (put σ d undef) F M := by simp [gK]
theorem gK_of {w b : Bool} {k : SK} (h1 : b = w → stepW P s d l K σ F M k) (h2 : b = (!w) → opsW P s l K (put σ d undef) F M) : gK P s d l K σ F M w k (some (.bool b)) :=
  ⟨_, rfl, fun h => h1 (by simpa using h), fun h => h2 (by cases b <;> cases w <;> simp_all)⟩
@[go_sem] theorem s_p {q : PK} : stepW P s d l K σ F M (.p q) = oK P s d l K σ F M (q.val σ F M) := rfl
@[go_sem] theorem s_al {e : Nat} {z : List Value} : stepW P s d l K σ F M (.al e z) = nK P s d l K σ F M none ⟨z, e, z.length⟩ := rfl
@[go_sem] theorem s_bx {e : Nat} {x : Operand} : stepW P s d l K σ F M (.bx e x) = bxK P s d l K σ F M e (ev σ x) := rfl
@[go_sem] theorem bxK_some {e : Nat} {v : Value} : bxK P s d l K σ F M e (some v) = nK P s d l K σ F M none ⟨v.cells.toList, e, v.cells.toList.length⟩ := by simp [bxK]
@[go_sem] theorem s_bs {e len : Nat} {z : List Value} {parts : List (Nat × Nat × Operand)} : stepW P s d l K σ F M (.bs e len z parts) = bsK P s d l K σ F M e len ((evParts σ parts).bind fun ps => fillV z ps) := by
  apply propext
  simp only [stepW, stepK, bsK, nK, mkR]
  constructor
  · rintro ⟨ps, h1, cs, h2, h3⟩; exact ⟨cs, by rw [h1]; exact h2, h3⟩
  · rintro ⟨cs, h1, h3⟩
    cases hp : evParts σ parts with
    | none => simp [hp] at h1
    | some ps => exact ⟨ps, rfl, cs, by simpa [hp] using h1, h3⟩
@[go_sem] theorem bsK_some {e len : Nat} {cs : List Value} : bsK P s d l K σ F M e len (some cs) = nK P s d l K σ F M (some len) ⟨cs, e, cs.length⟩ := by simp [bsK]
@[go_sem] theorem s_ca {f : Operand} {args : List Operand} : stepW P s d l K σ F M (.ca f args) = caK P s d l K σ F M args (ev σ f) := rfl
@[go_sem] theorem caK_some {args : List Operand} {g : Nat} {fi ca : Array Value} : caK P s d l K σ F M args (some (.func (.func g) fi ca)) = caK2 P s d l K σ F M g fi ca (evs σ args) := by
  apply propext; constructor
  · rintro ⟨_, _, _, h, hk⟩; cases h; exact hk
  · intro h; exact ⟨_, _, _, rfl, h⟩
@[go_sem] theorem caK2_some {g : Nat} {fi ca : Array Value} {vs : List Value} : caK2 P s d l K σ F M g fi ca (some vs) = callK P s d l K σ F M g (fi.toList ++ vs ++ ca.toList) := by simp [caK2]
@[go_sem] theorem s_cq {f : Operand} {args : List Operand} : stepW P s d l K σ F M (.cq f args) = cqK P s d l K σ F M args (ev σ f) := rfl
@[go_sem] theorem cqK_some {args : List Operand} {g : Nat} {fi ca : Array Value} : cqK P s d l K σ F M args (some (.func (.func g) fi ca)) = cqK2 P s d l K σ F M g fi ca (evs σ args) := by
  apply propext; constructor
  · rintro ⟨_, _, _, h, hk⟩; cases h; exact hk
  · intro h; exact ⟨_, _, _, rfl, h⟩
@[go_sem] theorem cqK2_some {g : Nat} {fi ca : Array Value} {vs : List Value} : cqK2 P s d l K σ F M g fi ca (some vs) = callQ P s d l K σ F M g (fi.toList ++ vs ++ ca.toList) := by simp [cqK2]
theorem callQ_of {g : Nat} {args : List Value} {R : Value → Fz → Hp → Prop} (h : CallsA P g args F M R)
    (hr : ∀ v F' M', R v F' M' → opsW P s l K (put σ d v) F' M') : callQ P s d l K σ F M g args := h.mono hr
@[go_sem] theorem s_st {fl : List Nat} {n : Nat} {a x : Operand} : stepW P s d l K σ F M (.st fl n a x) = stK P s d l K σ F M fl n x (ev σ a) := by
  apply propext
  simp only [stepW, stepK, stK, stK2, stK3, stK4, setH]
  constructor
  · rintro ⟨b, o, h1, v, h2, e, h3, h4, h5, h6, h7, h8⟩; exact ⟨b, o, h1, v, h2, e, h3, ⟨h4, h5, h6, h7⟩, h8⟩
  · rintro ⟨b, o, h1, v, h2, e, h3, ⟨h4, h5, h6, h7⟩, h8⟩; exact ⟨b, o, h1, v, h2, e, h3, h4, h5, h6, h7, h8⟩
@[go_sem] theorem stK_some {fl : List Nat} {n b o : Nat} {x : Operand} : stK P s d l K σ F M fl n x (some (.pointer (some ⟨b, o, none⟩))) = stK2 P s d l K σ F M fl n b o (ev σ x) := by
  apply propext; constructor
  · rintro ⟨_, _, h, hk⟩; cases h; exact hk
  · intro h; exact ⟨_, _, rfl, h⟩
@[go_sem] theorem stK2_some {fl : List Nat} {n b o : Nat} {v : Value} : stK2 P s d l K σ F M fl n b o (some v) = stK3 P s d l K σ F M fl n b o v (M b) := by simp [stK2]
@[go_sem] theorem stK3_some {fl : List Nat} {n b o : Nat} {v : Value} {e : Ent} : stK3 P s d l K σ F M fl n b o v (some e) =
    stK4 P s d l K σ F (setH M b ⟨e.cells.take o ++ v.cells.toList ++ e.cells.drop (o + n), e.elem, e.size⟩)
    (v.cells.size = n ∧ plainCells v.cells.toList ∧ o + n ≤ e.cells.length ∧ ∀ t ∈ fl, ∃ b' o', look σ t = some (.pointer (some ⟨b', o', none⟩)) ∧ b' ≠ b) := by simp [stK3]
@[go_sem] theorem stK4_true {M' : Hp} : stK4 P s d l K σ F M' True = opsW P s l K (put σ d undef) F M' := by simp [stK4]
@[go_sem] theorem s_ap {e es bytes : Nat} {x y : Operand} : stepW P s d l K σ F M (.ap e es bytes x y) = apK P s d l K σ F M e es bytes (ev σ x) (ev σ y) := rfl
@[go_sem] theorem s_ms {e es bytes : Nat} {z : List Value} {x y : Operand} : stepW P s d l K σ F M (.ms e es bytes z x y) = msK P s d l K σ F M e es bytes z (ev σ x) (ev σ y) := rfl
@[go_sem] theorem s_cp {es : Nat} {x y : Operand} : stepW P s d l K σ F M (.cp es x y) = cpK P s d l K σ F M es (ev σ x) (ev σ y) := rfl
@[go_sem] theorem put_some {v : Value} : put σ (some t) v = (t, v) :: σ := rfl
@[go_sem] theorem put_none {v : Value} : put σ none v = σ := rfl
attribute [go_sem] mkR
theorem apK_of {e es bytes : Nat} {v u : Value} {n m : Nat} {xs ys : List Value} (h3 : Own M e es v n xs) (h4 : Src F M es u m ys) (h5 : plainCells ys)
    (h6 : n + m ≤ maxLen) (h7 : (n + m) * bytes ≤ 140737488355328) (h8 : ∀ v' M', ApRes F M e es v n m (xs ++ ys) v' M' → opsW P s l K (put σ d v') F M') : apK P s d l K σ F M e es bytes (some v) (some u) :=
  ⟨v, rfl, u, rfl, n, xs, h3, m, ys, h4, h5, h6, h7, h8⟩
theorem msK_of {e es bytes : Nat} {z : List Value} {k k' : IntKind} {n m : Nat} (h3 : n ≤ m) (h4 : m ≤ maxLen) (h5 : m * bytes ≤ 140737488355328)
    (h6 : ∀ r, F r = none → M r = none → opsW P s l K (put σ d (.slice (some ⟨r, 0, none⟩) n m)) F (M.upd r ⟨(List.replicate m z).flatten, e, m * es⟩)) :
    msK P s d l K σ F M e es bytes z (some (.int k n)) (some (.int k' m)) := ⟨k, n, rfl, k', m, rfl, h3, h4, h5, h6⟩
theorem callK_of {g : Nat} {args : List Value} {R : Value → Fz → Hp → Prop} (h : CallsA P g args F M R)
    (hr : ∀ v F' M', R v F' M' → (s = true → Le F M F' M') ∧ opsW P s l K (put σ d v) F' M') : callK P s d l K σ F M g args := h.mono hr
theorem callK_same {g : Nat} {args : List Value} {r : Value} (h : CallsA P g args F M fun v F' M' => v = r ∧ F' = F ∧ M' = M)
    (hr : opsW P s l K (put σ d r) F M) : callK P s d l K σ F M g args := h.mono fun v F' M' ⟨h1, h2, h3⟩ => by subst h1; subst h2; subst h3; exact ⟨fun _ => Le.refl _ _, hr⟩
end

section
variable (P : Program) (a b : SC) (Q : Post) (σ : Env) (F : Fz) (M : Hp)
def condK (o : Option Value) : Prop := ∃ t, o = some (.bool t) ∧ (t = true → W P a Q σ F M) ∧ (t = false → W P b Q σ F M)
/-- A run ends; less may be told. -/
def endK (R : Value → Fz → Hp → Prop) (v : Value) : Prop := ∃ F' M', Wk F M F' M' ∧ R v F' M'
def retK (R : Value → Fz → Hp → Prop) (o : Option (List Value)) : Prop := ∃ vs, o = some vs ∧ endK F M R (retV vs)
end
section
variable {P : Program} {a b : SC} {Q : Post} {σ : Env} {F : Fz} {M : Hp}
@[go_sem] theorem W_skip : W P .skip Q σ F M = Q .n σ F M := rfl
@[go_sem] theorem W_ret : W P .ret Q σ F M = Q .r σ F M := rfl
@[go_sem] theorem W_exit {i : Nat} : W P (.exit i) Q σ F M = Q (.e i) σ F M := rfl
@[go_sem] theorem W_ops {l : List SO} : W P (.ops l) Q σ F M = opsW P false l (Q .n) σ F M := rfl
@[go_sem] theorem W_opq {l : List SO} : W P (.opq l) Q σ F M = opsW P false l (Q .n) σ F M := rfl
@[go_sem] theorem W_opd {l : List SO} : W P (.opd l) Q σ F M = opsW P true l (Q .n) σ F M := rfl
@[go_sem] theorem W_seq : W P (.seq a b) Q σ F M = W P a (Post.andThen (W P b Q) Q) σ F M := rfl
@[go_sem] theorem W_cond {c : Operand} : W P (.cond c a b) Q σ F M = condK P a b Q σ F M (ev σ c) := rfl
@[go_sem] theorem condK_t : condK P a b Q σ F M (some (.bool true)) = W P a Q σ F M := by simp [condK]
@[go_sem] theorem condK_f : condK P a b Q σ F M (some (.bool false)) = W P b Q σ F M := by simp [condK]
theorem condK_of {t : Bool} (h1 : t = true → W P a Q σ F M) (h2 : t = false → W P b Q σ F M) : condK P a b Q σ F M (some (.bool t)) := ⟨t, rfl, h1, h2⟩
@[go_sem] theorem W_block {i : Nat} : W P (.block i a) Q σ F M = W P a (Q.inBlock i) σ F M := rfl
@[go_sem] theorem then_n {next : Env → Fz → Hp → Prop} : Post.andThen next Q .n σ F M = next σ F M := rfl
@[go_sem] theorem then_r {next : Env → Fz → Hp → Prop} : Post.andThen next Q .r σ F M = Q .r σ F M := rfl
@[go_sem] theorem then_e {next : Env → Fz → Hp → Prop} {i : Nat} : Post.andThen next Q (.e i) σ F M = Q (.e i) σ F M := rfl
@[go_sem] theorem inBlock_n {i : Nat} : Q.inBlock i .n σ F M = Q .n σ F M := rfl
@[go_sem] theorem inBlock_r {i : Nat} : Q.inBlock i .r σ F M = Q .r σ F M := rfl
@[go_sem] theorem inBlock_same {i : Nat} : Q.inBlock i (.e i) σ F M = Q .n σ F M := by simp [Post.inBlock]
@[go_sem] theorem inBlock_ne {i j : Nat} (h : ¬ j = i) : Q.inBlock i (.e j) σ F M = Q (.e j) σ F M := by simp [Post.inBlock, h]
@[go_sem] theorem ret_r {rs : List RS} {R : Value → Fz → Hp → Prop} : RetP rs R .r σ F M = retK F M R (retL σ F M rs) := rfl
@[go_sem] theorem ret_n {rs : List RS} {R : Value → Fz → Hp → Prop} : RetP rs R .n σ F M = retK F M R (retL σ F M rs) := rfl
@[go_sem] theorem retK_some {R : Value → Fz → Hp → Prop} {vs : List Value} : retK F M R (some vs) = endK F M R (retV vs) := by simp [retK]
theorem loop_of {c : SC} (I : Nat → Env → Fz → Hp → Prop) (n : Nat) (h0 : I n σ F M)
    (h : ∀ n σ F M, I n σ F M → W P c (Post.andThen (fun σ F M => ∃ m, m < n ∧ I m σ F M) Q) σ F M) : W P (.loop c) Q σ F M := ⟨I, n, ⟨F, M, Wk.refl F M, h0⟩, h⟩
/-- A loop that is come to with less than is known. -/
theorem loop_wk {c : SC} (I : Nat → Env → Fz → Hp → Prop) (n : Nat) {F' : Fz} {M' : Hp} (hw : Wk F M F' M') (h0 : I n σ F' M')
    (h : ∀ n σ F M, I n σ F M → W P c (Post.andThen (fun σ F M => ∃ m, m < n ∧ I m σ F M) Q) σ F M) : W P (.loop c) Q σ F M := ⟨I, n, ⟨F', M', hw, h0⟩, h⟩
/-- A block of one's own of which less is known. -/
theorem Wk.short {F : Fz} {M : Hp} {r : Nat} {e : Ent} {c : List Value} (h : M r = some e) (hc : c <+: e.cells) : Wk F M F (M.upd r ⟨c, e.elem, e.size⟩) := by
  refine ⟨fun w hw => ⟨hw.fz, fun b n hb => ?_, fun b hb => ?_⟩, fun _ h _ => h, fun b hb => ?_⟩
  · by_cases hbr : b = r
    · subst hbr
      rw [Hp.upd_same] at hb
      cases hb
      obtain ⟨cur, h1, h2, h3⟩ := hw.mu _ _ h
      exact ⟨cur, h1, hc.trans h2, h3⟩
    · rw [Hp.upd_ne hbr] at hb; exact hw.mu b n hb
  · by_cases hbr : b = r
    · subst hbr; exact hw.ap _ (by rw [h]; simp)
    · rw [Hp.upd_ne hbr] at hb; exact hw.ap b hb
  · by_cases hbr : b = r
    · subst hbr; rw [h] at hb; cases hb
    · rw [Hp.upd_ne hbr]; exact hb
end

/-! Variables and operands. -/
@[go_sem] theorem look_same {l : Env} {k : Nat} {v : Value} : look ((k, v) :: l) k = some v := by simp [look]
@[go_sem] theorem look_ne {l : Env} {k t : Nat} {v : Value} (h : ¬ k = t) : look ((k, v) :: l) t = look l t := by simp [look, h]
attribute [go_sem] ev evs evParts env0 retL retV PK.val binV unV fnV fillV rd Option.bind_some Option.map_some

/-! How a run ends. -/
section
variable {F : Fz} {M : Hp} {R : Value → Fz → Hp → Prop} {v : Value}
theorem endK_same (h : R v F M) : endK F M R v := ⟨F, M, Wk.refl F M, h⟩
theorem endK_drop {r : Nat} {e : Ent} (hm : M r = none) (h : endK F M R v) : endK F (M.upd r e) R v := by
  obtain ⟨F', M', h1, h2⟩ := h
  exact ⟨F', M', (Wk.drop hm).trans h1, h2⟩
theorem endK_freeze {r : Nat} {e : Ent} (hm : M r = none) (h : endK (F.upd r e.cells) M R v) : endK F (M.upd r e) R v := by
  obtain ⟨F', M', h1, h2⟩ := h
  exact ⟨F', M', (Wk.freeze hm).trans h1, h2⟩
theorem endK_comm {a b : Nat} {x y : Ent} (hne : ¬ a = b) (h : endK F ((M.upd b y).upd a x) R v) : endK F ((M.upd a x).upd b y) R v := by
  rw [Hp.upd_comm hne]; exact h
end
end Go.Ax
