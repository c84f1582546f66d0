/- Steps that may change places. -/
import Derived.Test.YtplcaoidiohlmaaAx7
namespace Go.Ax
open Go
set_option linter.unusedSimpArgs false

theorem Le.apRes {F : Fz} {M M' : Hp} {e es n m : Nat} {v v' : Value} {xs ys : List Value} (ho : Own M e es v n xs) (h : ApRes F M e es v n m (xs ++ ys) v' M') : Le F M F M' := by
  rcases h with ⟨_, _, _, rfl⟩ | ⟨r, cap, hr, _, _, _, rfl⟩
  · exact Le.refl _ _
  · rcases hr with ⟨c, rfl⟩ | ⟨h1, h2⟩
    · obtain ⟨_, ho⟩ := ho
      rcases ho with ⟨h0, _⟩ | ⟨g, c', hv, hm, _⟩
      · simp at h0
      · simp at hv
        obtain ⟨rfl, rfl⟩ := hv
        exact Le.grow hm (List.prefix_append _ _)
    · exact Le.upd h1 h2

/-- A step goes as it goes, whatever is known besides. -/
theorem stepK_congr {P : Program} {s : Bool} {d : Option Nat} {k : SK} {K K' : Env → Fz → Hp → Prop} {σ σ' : Env} {F : Fz} {M : Hp}
    (ho : ∀ x ∈ k.ops, ∀ v, ev σ x = some v → ev σ' x = some v) (hfl : ∀ t ∈ k.fls, ∀ v, look σ t = some v → look σ' t = some v)
    (h : ∀ v F' M', (k.mono s = true → Le F M F' M') → K (put σ d v) F' M' → K' (put σ' d v) F' M') (hh : stepK P s d k K σ F M) : stepK P s d k K' σ' F M := by
  cases k <;> simp only [stepK] at hh ⊢ <;> simp only [SK.ops] at ho
  case p q => obtain ⟨v, h1, h2⟩ := hh; exact ⟨v, val_congr ho (.inr (Le.refl _ _)) h1, h _ _ _ (fun _ => Le.refl _ _) h2⟩
  case al e z => exact fun r h1 h2 => h _ _ _ (fun _ => Le.upd h1 h2) (hh r h1 h2)
  case bx e x => obtain ⟨v, h1, h2⟩ := hh; exact ⟨v, ho x (by simp) v h1, fun r a b => h _ _ _ (fun _ => Le.upd a b) (h2 r a b)⟩
  case bs e len z parts => obtain ⟨ps, h1, cs, h2, h3⟩ := hh; exact ⟨ps, evParts_congr ho h1, cs, h2, fun r a b => h _ _ _ (fun _ => Le.upd a b) (h3 r a b)⟩
  case ap e es bytes x y =>
    obtain ⟨v, h1, u, h2, n, xs, h3, m, ys, h4, h5, h6, h7, h8⟩ := hh
    exact ⟨v, ho x (by simp) v h1, u, ho y (by simp) u h2, n, xs, h3, m, ys, h4, h5, h6, h7, fun v' M' a => h _ _ _ (fun _ => Le.apRes h3 a) (h8 v' M' a)⟩
  case st fl n a x =>
    obtain ⟨b, o, h1, v, h2, e, h3, h4, h5, h6, h7, h8⟩ := hh
    exact ⟨b, o, ho a (by simp) _ h1, v, ho x (by simp) v h2, e, h3, h4, h5, h6, fun t ht => by
      obtain ⟨b', o', h9, h10⟩ := h7 t ht
      exact ⟨b', o', hfl t ht _ h9, h10⟩, h _ _ _ (fun hm => by simp [SK.mono] at hm) h8⟩
  case ms e es bytes z l c =>
    obtain ⟨k, n, h1, k', m, h2, h3, h4, h5, h6⟩ := hh
    exact ⟨k, n, ho l (by simp) _ h1, k', m, ho c (by simp) _ h2, h3, h4, h5, fun r a b => h _ _ _ (fun _ => Le.upd a b) (h6 r a b)⟩
  case cp es x y =>
    obtain ⟨b, o, n, c, h1, u, h2, m, ys, h3, h4, e, h5, h6, h7⟩ := hh
    exact ⟨b, o, n, c, ho x (by simp) _ h1, u, ho y (by simp) _ h2, m, ys, h3, h4, e, h5, h6, h _ _ _ (fun hm => by simp [SK.mono] at hm) h7⟩
  case ca f args =>
    obtain ⟨g, fi, c, h1, vs, h2, h3⟩ := hh
    exact ⟨g, fi, c, ho f (by simp) _ h1, vs, evs_congr (fun x hx => ho x (by simp [hx])) h2, h3.mono fun v F' M' ⟨a, b⟩ => ⟨a, h _ _ _ (fun hm => a (by simpa [SK.mono] using hm)) b⟩⟩
  case cq f args =>
    obtain ⟨g, fi, c, h1, vs, h2, h3⟩ := hh
    exact ⟨g, fi, c, ho f (by simp) _ h1, vs, evs_congr (fun x hx => ho x (by simp [hx])) h2, h3.mono fun v F' M' b => h _ _ _ (fun hm => by simp [SK.mono] at hm) b⟩

theorem look_put_ne {σ : Env} {d : Option Nat} {t : Nat} {v : Value} (h : d ≠ some t) : look (put σ d v) t = look σ t := by
  cases d with
  | none => rfl
  | some k => have : ¬ k = t := fun e => h (by rw [e]); simp [put, look, this]
theorem ev_put_ne {σ : Env} {d : Option Nat} {x : Operand} {v : Value} (h : ∀ t, x = .tmp t → d ≠ some t) : ev (put σ d v) x = ev σ x := by
  cases x with
  | tmp t => exact look_put_ne (h t rfl)
  | _ => rfl
theorem Env.le_refl (σ : Env) : Env.le σ σ := fun _ _ h => h
theorem Env.le_trans {a b c : Env} (h : Env.le a b) (k : Env.le b c) : Env.le a c := fun t v ht => k t v (h t v ht)
theorem Env.le_put {σ σ' : Env} (h : Env.le σ σ') (d : Option Nat) (v : Value) : Env.le (put σ d v) (put σ' d v) := by
  intro t u hu
  cases d with
  | none => exact h t u hu
  | some k => simp only [put, look] at hu ⊢; split <;> simp_all [h t u]
theorem Env.put_comm {σ : Env} {d e : Option Nat} {u v : Value} (h : ∀ t, d = some t → e ≠ some t) : Env.le (put (put σ d u) e v) (put (put σ e v) d u) := by
  intro t w hw
  cases d with
  | none => cases e <;> exact hw
  | some k => cases e with
    | none => exact hw
    | some j =>
      have hkj : ¬ k = j := fun he => h k rfl (by rw [he])
      simp only [put, look] at hw ⊢
      by_cases h1 : k = t
      · subst h1
        have : ¬ j = k := fun e => hkj e.symm
        simp [this] at hw ⊢; exact hw
      · simpa [h1] using hw
theorem ev_le {σ σ' : Env} (h : Env.le σ σ') {x : Operand} {v : Value} (hv : ev σ x = some v) : ev σ' x = some v := by
  cases x with
  | tmp t => exact h t v hv
  | _ => exact hv

/-- A post that holds with more names known. -/
def up (K : Env → Fz → Hp → Prop) : Env → Fz → Hp → Prop := fun σ' F M => ∃ σ, Env.le σ σ' ∧ K σ F M
theorem up_up {K : Env → Fz → Hp → Prop} {σ : Env} {F : Fz} {M : Hp} (h : up (up K) σ F M) : up K σ F M := by
  obtain ⟨a, h1, b, h2, h3⟩ := h; exact ⟨b, Env.le_trans h2 h1, h3⟩

def GdT (o : SO) (σ : Env) : Prop := match o.g with | none => True | some (t, w) => look σ t = some (.bool w)
def GdF (o : SO) (σ : Env) : Prop := match o.g with | none => False | some (t, w) => ∃ v, look σ t = some v ∧ v ≠ .bool w
theorem stepG_iff {P : Program} {s : Bool} {o : SO} {K : Env → Fz → Hp → Prop} {σ : Env} {F : Fz} {M : Hp} :
    stepG P s o K σ F M ↔ (GdT o σ ∧ stepK P s o.d o.k K σ F M) ∨ (GdF o σ ∧ K (put σ o.d undef) F M) := by
  cases hg : o.g with
  | none => simp [stepG, GdT, GdF, hg]
  | some p =>
    obtain ⟨t, w⟩ := p
    simp only [stepG, GdT, GdF, hg]
    constructor
    · rintro ⟨v, h1, h2, h3⟩
      by_cases hb : v = .bool w
      · subst hb; exact .inl ⟨h1, h2 rfl⟩
      · exact .inr ⟨⟨v, h1, hb⟩, h3 hb⟩
    · rintro (⟨h1, h2⟩ | ⟨⟨v, h1, hb⟩, h2⟩)
      · exact ⟨_, h1, fun _ => h2, fun h => absurd rfl h⟩
      · exact ⟨v, h1, fun h => absurd h hb, fun _ => h2⟩
theorem stepG_al {P : Program} {s : Bool} {o : SO} {K : Env → Fz → Hp → Prop} {σ : Env} {F : Fz} {M : Hp} {e : Nat} {z : List Value} (hg : o.g = none) (hk : o.k = .al e z) :
    stepG P s o K σ F M ↔ ∀ r, F r = none → M r = none → K (put σ o.d (.pointer (some ⟨r, 0, none⟩))) F (M.upd r ⟨z, e, z.length⟩) := by
  simp only [stepG, hg, hk, stepK]

def SO.looks (o : SO) : List Nat := (o.k.ops.filterMap fun | .tmp t => some t | _ => none) ++ (match o.g with | some (t, _) => [t] | none => [])
theorem looks_op {o : SO} {d : Option Nat} (h : ∀ t, d = some t → t ∉ o.looks) : ∀ x ∈ o.k.ops, ∀ t, x = .tmp t → d ≠ some t := by
  rintro x hx t rfl e
  exact h t e (by simp only [SO.looks, List.mem_append, List.mem_filterMap]; exact .inl ⟨_, hx, rfl⟩)
theorem GdT_put {o : SO} {σ : Env} {d : Option Nat} {v : Value} (h : ∀ t, d = some t → t ∉ o.looks) : GdT o (put σ d v) ↔ GdT o σ := by
  cases hg : o.g with
  | none => simp [GdT, hg]
  | some p => simp only [GdT, hg]; rw [look_put_ne]; intro e; exact h p.1 e (by simp [SO.looks, hg])
theorem GdF_put {o : SO} {σ : Env} {d : Option Nat} {v : Value} (h : ∀ t, d = some t → t ∉ o.looks) : GdF o (put σ d v) ↔ GdF o σ := by
  cases hg : o.g with
  | none => simp [GdF, hg]
  | some p => simp only [GdF, hg]; rw [look_put_ne]; intro e; exact h p.1 e (by simp [SO.looks, hg])
theorem GdT_le {o : SO} {σ σ' : Env} (h : Env.le σ σ') (hg : GdT o σ) : GdT o σ' := by
  cases hw : o.g with
  | none => simp [GdT, hw]
  | some p => simp only [GdT, hw] at hg ⊢; exact h _ _ hg
theorem GdF_le {o : SO} {σ σ' : Env} (h : Env.le σ σ') (hg : GdF o σ) : GdF o σ' := by
  cases hw : o.g with
  | none => simp [GdF, hw] at hg
  | some p => simp only [GdF, hw] at hg ⊢; obtain ⟨v, h1, h2⟩ := hg; exact ⟨v, h _ _ h1, h2⟩

theorem stepG_env {P : Program} {s : Bool} {o : SO} {K K' : Env → Fz → Hp → Prop} {σ σ' : Env} {F : Fz} {M : Hp} (hl : Env.le σ σ')
    (h : ∀ v F' M', K (put σ o.d v) F' M' → K' (put σ' o.d v) F' M') (hh : stepG P s o K σ F M) : stepG P s o K' σ' F M := by
  rw [stepG_iff] at hh ⊢
  rcases hh with ⟨h1, h2⟩ | ⟨h1, h2⟩
  · exact .inl ⟨GdT_le hl h1, stepK_congr (fun x _ v hv => ev_le hl hv) (fun t _ v hv => hl t v hv) (fun v F' M' _ hk => h v F' M' hk) h2⟩
  · exact .inr ⟨GdF_le hl h1, h _ _ _ h2⟩

theorem opsW_env {P : Program} {s : Bool} : ∀ {l : List SO} {K : Env → Fz → Hp → Prop} {σ σ' : Env} {F : Fz} {M : Hp}, Env.le σ σ' → opsW P s l K σ F M → opsW P s l (up K) σ' F M := by
  intro l
  induction l with
  | nil => intro K σ σ' F M hl h; exact ⟨σ, hl, h⟩
  | cons o l ih => intro K σ σ' F M hl h; exact stepG_env hl (fun v F' M' hk => ih (Env.le_put hl o.d v) hk) h
theorem opsW_up {P : Program} {s : Bool} {l : List SO} {K : Env → Fz → Hp → Prop} {σ : Env} {F : Fz} {M : Hp} (h : up (opsW P s l K) σ F M) : opsW P s l (up K) σ F M := by
  obtain ⟨σ0, hl, h⟩ := h; exact opsW_env hl h
theorem opsW_mono {P : Program} {s : Bool} : ∀ {l : List SO} {K K' : Env → Fz → Hp → Prop} {σ : Env} {F : Fz} {M : Hp}, (∀ σ F M, K σ F M → K' σ F M) → opsW P s l K σ F M → opsW P s l K' σ F M := by
  intro l
  induction l with
  | nil => intro K K' σ F M h hh; exact h _ _ _ hh
  | cons o l ih => intro K K' σ F M h hh; exact stepG_mono (fun σ F M hk => ih h hk) hh

def apartB (x y : SO) : Bool :=
  (match x.d with | some d => !(y.looks.contains d) && y.d != some d | none => true) && (match y.d with | some d => !(x.looks.contains d) | none => true)
theorem apartB_spec {x y : SO} (h : apartB x y = true) : (∀ t, x.d = some t → t ∉ y.looks) ∧ (∀ t, y.d = some t → t ∉ x.looks) ∧ (∀ t, x.d = some t → y.d ≠ some t) := by
  simp only [apartB, Bool.and_eq_true] at h
  obtain ⟨h1, h2⟩ := h
  refine ⟨fun t ht => ?_, fun t ht => ?_, fun t ht => ?_⟩
  · rw [ht] at h1; simp at h1; exact h1.1
  · rw [ht] at h2; simpa using h2
  · rw [ht] at h1; simp at h1; exact h1.2

/-- A step that makes a block: what lies in it, how it is told. -/
def allocOf : SK → Env → Option (Ent × (Nat → Value))
  | .al e z, _ => some (⟨z, e, z.length⟩, fun r => .pointer (some ⟨r, 0, none⟩))
  | .bx e x, σ => (ev σ x).map fun v => (⟨v.cells.toList, e, v.cells.toList.length⟩, fun r => .pointer (some ⟨r, 0, none⟩))
  | .bs e len z parts, σ => (evParts σ parts).bind fun ps => (fillV z ps).map fun cs => (⟨cs, e, cs.length⟩, fun r => .slice (some ⟨r, 0, none⟩) len len)
  | _, _ => none
def SK.isAlloc : SK → Bool
  | .al .. | .bx .. | .bs .. => true
  | _ => false
theorem stepK_alloc {P : Program} {s : Bool} {d : Option Nat} {k : SK} {K : Env → Fz → Hp → Prop} {σ : Env} {F : Fz} {M : Hp} (hk : k.isAlloc = true) :
    stepK P s d k K σ F M ↔ ∃ p, allocOf k σ = some p ∧ ∀ r, F r = none → M r = none → K (put σ d (p.2 r)) F (M.upd r p.1) := by
  cases k <;> simp only [SK.isAlloc, Bool.false_eq_true] at hk <;> simp only [stepK, allocOf]
  case al e z => simp
  case bx e x =>
    constructor
    · rintro ⟨v, hv, h⟩; exact ⟨_, by rw [hv]; rfl, h⟩
    · rintro ⟨p, hp, h⟩
      cases hv : ev σ x with
      | none => simp [hv] at hp
      | some v => simp [hv] at hp; subst hp; exact ⟨v, rfl, h⟩
  case bs e len z parts =>
    constructor
    · rintro ⟨ps, hp, cs, hc, h⟩; exact ⟨_, by rw [hp]; simp only [Option.bind_some, hc]; rfl, h⟩
    · rintro ⟨p, hp, h⟩
      cases hv : evParts σ parts with
      | none => simp [hv] at hp
      | some ps => cases hc : fillV z ps with
        | none => simp [hv, hc] at hp
        | some cs => simp [hv, hc] at hp; subst hp; exact ⟨ps, rfl, cs, hc, h⟩
theorem evParts_same {σ σ' : Env} : ∀ {l : List (Nat × Nat × Operand)}, (∀ x ∈ l.map (·.2.2), ev σ' x = ev σ x) → evParts σ' l = evParts σ l := by
  intro l
  induction l with
  | nil => intro _; rfl
  | cons x l ih =>
    intro h
    obtain ⟨o, m, x⟩ := x
    simp only [evParts]
    rw [h x (by simp), ih (fun y hy => h y (by simp only [List.map_cons, List.mem_cons]; exact .inr hy))]
theorem allocOf_put {o : SO} {σ : Env} {d : Option Nat} {v : Value} (h : ∀ t, d = some t → t ∉ o.looks) : allocOf o.k (put σ d v) = allocOf o.k σ := by
  have he : ∀ x ∈ o.k.ops, ev (put σ d v) x = ev σ x := fun x hx => ev_put_ne (looks_op h x hx)
  cases hk : o.k <;> rw [hk] at he <;> simp only [allocOf]
  case bx e x => rw [he x (by simp [SK.ops])]
  case bs e len z parts => rw [evParts_same (fun x hx => he x hx)]

theorem stepK_mono_inf {P : Program} {s : Bool} {d : Option Nat} {k : SK} {K K' : Env → Fz → Hp → Prop} {σ : Env} {F : Fz} {M : Hp} (hI : Inf F M)
    (h : ∀ σ F M, Inf F M → K σ F M → K' σ F M) (hh : stepK P s d k K σ F M) : stepK P s d k K' σ F M := by
  cases k <;> simp only [stepK] at hh ⊢
  case p q => obtain ⟨v, h1, h2⟩ := hh; exact ⟨v, h1, h _ _ _ hI h2⟩
  case al e z => exact fun r h1 h2 => h _ _ _ (hI.upd _ _) (hh r h1 h2)
  case bx e x => obtain ⟨v, h1, h2⟩ := hh; exact ⟨v, h1, fun r a b => h _ _ _ (hI.upd _ _) (h2 r a b)⟩
  case bs e len z parts => obtain ⟨ps, h1, cs, h2, h3⟩ := hh; exact ⟨ps, h1, cs, h2, fun r a b => h _ _ _ (hI.upd _ _) (h3 r a b)⟩
  case ap e es bytes x y =>
    obtain ⟨v, h1, u, h2, n, xs, h3, m, ys, h4, h5, h6, h7, h8⟩ := hh
    refine ⟨v, h1, u, h2, n, xs, h3, m, ys, h4, h5, h6, h7, fun v' M' a => h _ _ _ ?_ (h8 v' M' a)⟩
    rcases a with ⟨_, _, _, rfl⟩ | ⟨r, cap, _, _, _, _, rfl⟩
    · exact hI
    · exact hI.upd _ _
  case st fl n a x => obtain ⟨b, o, h1, v, h2, e, h3, h4, h5, h6, h7, h8⟩ := hh; exact ⟨b, o, h1, v, h2, e, h3, h4, h5, h6, h7, h _ _ _ (hI.upd _ _) h8⟩
  case ms e es bytes z l c => obtain ⟨k, n, h1, k', m, h2, h3, h4, h5, h6⟩ := hh; exact ⟨k, n, h1, k', m, h2, h3, h4, h5, fun r a b => h _ _ _ (hI.upd _ _) (h6 r a b)⟩
  case cp es x y => obtain ⟨b, o, n, c, h1, u, h2, m, ys, h3, h4, e, h5, h6, h7⟩ := hh; exact ⟨b, o, n, c, h1, u, h2, m, ys, h3, h4, e, h5, h6, h _ _ _ (hI.upd _ _) h7⟩
  case ca f args => obtain ⟨g, fi, c, h1, vs, h2, h3⟩ := hh; exact ⟨g, fi, c, h1, vs, h2, h3.mono_rel fun v F' M' ⟨w, hw⟩ ⟨a, b⟩ => ⟨a, h _ _ _ hw.inf b⟩⟩
  case cq f args => obtain ⟨g, fi, c, h1, vs, h2, h3⟩ := hh; exact ⟨g, fi, c, h1, vs, h2, h3.mono_rel fun v F' M' ⟨w, hw⟩ b => h _ _ _ hw.inf b⟩
theorem stepG_mono_inf {P : Program} {s : Bool} {o : SO} {K K' : Env → Fz → Hp → Prop} {σ : Env} {F : Fz} {M : Hp} (hI : Inf F M)
    (h : ∀ σ F M, Inf F M → K σ F M → K' σ F M) (hh : stepG P s o K σ F M) : stepG P s o K' σ F M := by
  rw [stepG_iff] at hh ⊢
  rcases hh with ⟨h1, h2⟩ | ⟨h1, h2⟩
  · exact .inl ⟨h1, stepK_mono_inf hI h h2⟩
  · exact .inr ⟨h1, h _ _ _ hI h2⟩

/-- x stands ahead of y; may y go first, too? -/
def canSwap (s : Bool) (x y : SO) : Bool := apartB x y && match x.k with
  | .p q => q.still || y.k.mono s || (match q, y.k with | .ld _ _ (.tmp t), .st fl _ _ _ => fl.contains t && x.d != some t | _, _ => false)
  | .al .. | .bx .. | .bs .. => y.g.isNone && y.k.isAlloc
  | .ca .. => s && y.g.isNone && (match y.k with | .al .. => true | _ => false)
  | _ => false

/-- A store tells less of loads. -/
def SO.drop (y : SO) (d : Option Nat) : SO := { y with k := y.k.withFl (y.k.fls.filter fun t => d != some t) }
theorem SK.withFl_not {k : SK} {fl : List Nat} (h : k.isAlloc = true) : k.withFl fl = k := by cases k <;> first | rfl | (simp [SK.isAlloc] at h)
theorem SK.withFl_ops {k : SK} {fl : List Nat} : (k.withFl fl).ops = k.ops := by cases k <;> first | rfl | (cases fl <;> rfl)
theorem SK.withFl_alloc {k : SK} {fl : List Nat} : (k.withFl fl).isAlloc = k.isAlloc := by cases k <;> first | rfl | (cases fl <;> rfl)
theorem drop_mono {s : Bool} {y : SO} {d : Option Nat} : (y.drop d).k.mono s = y.k.mono s := by cases hk : y.k <;> simp only [SO.drop, hk] <;> rfl
theorem SO.drop_looks {y : SO} {d : Option Nat} : (y.drop d).looks = y.looks := by simp [SO.looks, SO.drop, SK.withFl_ops]
theorem stepK_drop {P : Program} {s : Bool} {e : Option Nat} {d : Option Nat} {k : SK} {K : Env → Fz → Hp → Prop} {σ : Env} {F : Fz} {M : Hp} (h : stepK P s e k K σ F M) :
    stepK P s e (k.withFl (k.fls.filter fun t => d != some t)) K σ F M := by
  cases k <;> try exact h
  obtain ⟨b, o, h1, v, h2, e, h3, h4, h5, h6, h7, h8⟩ := h
  exact ⟨b, o, h1, v, h2, e, h3, h4, h5, h6, fun t ht => h7 t (List.mem_filter.1 ht).1, h8⟩
/-- No redefinition of a load's address. -/
def noRedef (y z : SO) : Bool := match y.k with
  | .p (.ld _ _ (.tmp t)) => z.d != some t
  | _ => true
theorem canSwap_drop {s : Bool} {y x : SO} {z : SO} (h : canSwap s y x = true) (hz : noRedef y z = true) : canSwap s y (x.drop z.d) = true := by
  have e1 : apartB y (x.drop z.d) = apartB y x := by simp only [apartB, SO.drop_looks]; rfl
  simp only [canSwap, Bool.and_eq_true] at h ⊢
  rw [e1]
  refine ⟨h.1, ?_⟩
  have h := h.2
  cases hyk : y.k <;> rw [hyk] at h <;> (try simp only at h ⊢)
  case p q =>
    simp only [Bool.or_eq_true] at h ⊢
    have e2 : (x.drop z.d).k.mono s = x.k.mono s := drop_mono
    rw [e2]
    rcases h with h | h
    · exact .inl h
    refine .inr ?_
    cases q <;> first | (simp at h; done) | skip
    rename_i agg n ad
    cases ad <;> first | (simp at h; done) | skip
    rename_i t
    cases hxk : x.k <;> rw [hxk] at h <;> first | (simp at h; done) | skip
    rename_i fl m b c
    have e3 : (x.drop z.d).k = .st (fl.filter fun t => z.d != some t) m b c := by simp [SO.drop, hxk, SK.withFl, SK.fls]
    rw [e3]
    simp only [noRedef, hyk, bne_iff_ne, ne_eq] at hz
    have h' : (fl.contains t && y.d != some t) = true := h
    show ((fl.filter fun t => z.d != some t).contains t && y.d != some t) = true
    rw [Bool.and_eq_true, List.contains_iff_mem] at h' ⊢
    exact ⟨List.mem_filter.2 ⟨h'.1, by simpa using hz⟩, h'.2⟩
  case al => simp only [SO.drop, SK.withFl_alloc]; exact h
  case bx => simp only [SO.drop, SK.withFl_alloc]; exact h
  case bs => simp only [SO.drop, SK.withFl_alloc]; exact h
  case ca =>
    simp only [Bool.and_eq_true] at h
    obtain ⟨h1, h2⟩ := h
    cases hxk : x.k <;> rw [hxk] at h2 <;> first | (simp at h2; done) | skip
    simp only [SO.drop, hxk, SK.withFl, Bool.and_eq_true]
    exact ⟨h1, trivial⟩
  all_goals first | (simp at h; done) | contradiction

theorem swap {P : Program} {s : Bool} {x y : SO} {K : Env → Fz → Hp → Prop} {σ : Env} {F : Fz} {M : Hp} (hI : Inf F M) (hs : canSwap s x y = true) (h : stepG P s x (stepG P s y K) σ F M) :
    stepG P s (y.drop x.d) (stepG P s x (up K)) σ F M := by
  simp only [canSwap, Bool.and_eq_true] at hs
  obtain ⟨hap, hk⟩ := hs
  obtain ⟨a1, a2, a3⟩ := apartB_spec hap
  have hop : ∀ u : Value, ∀ z ∈ y.k.ops, ∀ v, ev (put σ x.d u) z = some v → ev σ z = some v := fun u z hz v hv => by rwa [ev_put_ne (looks_op a1 z hz)] at hv
  -- x yields u, and leaves memory: then y may go first
  have easy : ∀ u : Value, (∀ v F' M', (y.k.mono s = true → Le F M F' M') → up K (put (put σ y.d v) x.d u) F' M' → stepG P s x (up K) (put σ y.d v) F' M') →
      stepG P s y K (put σ x.d u) F M → stepG P s (y.drop x.d) (stepG P s x (up K)) σ F M := by
    intro u hx hy
    rw [stepG_iff] at hy ⊢
    rcases hy with ⟨h1, h2⟩ | ⟨h1, h2⟩
    · refine .inl ⟨(GdT_put a1).1 h1, stepK_congr (by rw [show (y.drop x.d).k.ops = y.k.ops from SK.withFl_ops]; exact hop u) (fun t ht v hv => ?_)
        (fun v F' M' hl hk => hx v F' M' (by rw [show (y.drop x.d).k.mono s = y.k.mono s from drop_mono] at hl; exact hl) ⟨_, Env.put_comm a3, hk⟩) (stepK_drop h2)⟩
      have hne : x.d ≠ some t := by
        cases hyk : y.k <;> simp only [SO.drop, hyk, SK.withFl, SK.fls, List.filter_nil, List.not_mem_nil] at ht
        simpa using (List.mem_filter.1 ht).2
      rwa [look_put_ne hne] at hv
    · exact .inr ⟨(GdF_put a1).1 h1, hx _ _ _ (fun _ => Le.refl _ _) ⟨_, Env.put_comm a3, h2⟩⟩
  rw [stepG_iff] at h
  rcases h with ⟨hg, h⟩ | ⟨hg, h⟩
  case inr => exact easy undef (fun v F' M' _ hk => stepG_iff.2 (.inr ⟨(GdF_put a2).2 hg, hk⟩)) h
  have hopx : ∀ v : Value, ∀ z ∈ x.k.ops, ∀ u, ev σ z = some u → ev (put σ y.d v) z = some u := fun v z hz u hu => by rwa [ev_put_ne (looks_op a2 z hz)]
  have alloc : x.k.isAlloc = true → y.g.isNone = true → y.k.isAlloc = true → stepG P s (y.drop x.d) (stepG P s x (up K)) σ F M := by
    intro hxa hyg hya
    have hyd : y.drop x.d = y := by simp only [SO.drop]; rw [SK.withFl_not hya]
    rw [hyd]
    have hyg' : y.g = none := by simpa using hyg
    have ystep : ∀ (K : Env → Fz → Hp → Prop) (σ : Env) (F : Fz) (M : Hp), stepG P s y K σ F M ↔ ∃ p, allocOf y.k σ = some p ∧ ∀ r, F r = none → M r = none → K (put σ y.d (p.2 r)) F (M.upd r p.1) := by
      intro K σ F M
      simp only [stepG, hyg']
      exact stepK_alloc hya
    obtain ⟨px, hpx, h⟩ := (stepK_alloc hxa).1 h
    obtain ⟨q0, _, q1, q2⟩ := hI 0
    obtain ⟨py, hpy, _⟩ := (ystep _ _ _ _).1 (h q0 q1 q2)
    rw [allocOf_put a1] at hpy
    refine (ystep _ _ _ _).2 ⟨py, hpy, fun r r1 r2 => ?_⟩
    refine stepG_iff.2 (.inl ⟨(GdT_put a2).2 hg, (stepK_alloc hxa).2 ⟨px, by rw [allocOf_put a2]; exact hpx, fun q q1 q2 => ?_⟩⟩)
    have hne : q ≠ r := by rintro rfl; simp at q2
    rw [Hp.upd_ne hne] at q2
    obtain ⟨py', hpy', hh⟩ := (ystep _ _ _ _).1 (h q q1 q2)
    rw [allocOf_put a1, hpy] at hpy'
    cases hpy'
    have := hh r r1 (by rw [Hp.upd_ne (Ne.symm hne)]; exact r2)
    rw [Hp.upd_comm hne] at this
    exact ⟨_, Env.put_comm a3, this⟩
  cases hxk : x.k with
  | p q =>
    rw [hxk] at h hk hopx
    obtain ⟨u, hu, h⟩ := h
    simp only [Bool.or_eq_true] at hk
    rcases hk with hk | hk
    · refine easy u (fun v F' M' hl hK => stepG_iff.2 (.inl ⟨(GdT_put a2).2 hg, ?_⟩)) h
      rw [hxk]
      exact ⟨u, val_congr (hopx v) (hk.imp id hl) hu, hK⟩
    · -- a load, and a store elsewhere
      cases q <;> first | (simp at hk; done) | skip
      rename_i agg n ad
      cases ad <;> first | (simp at hk; done) | skip
      rename_i t
      cases hyk : y.k <;> rw [hyk] at hk <;> first | (simp at hk; done) | skip
      rename_i fl m b z
      simp only [Bool.and_eq_true, List.contains_iff_mem, bne_iff_ne, ne_eq] at hk
      obtain ⟨hmem, hxd⟩ := hk
      have hld : ∀ (σ' : Env) (M' : Hp), ev σ' (.tmp t) = ev σ (.tmp t) → (∀ b' o', look σ t = some (.pointer (some ⟨b', o', none⟩)) → M' b' = M b') → (PK.ld agg n (.tmp t)).val σ' F M' = some u := by
        intro σ' M' h1 h2
        simp only [PK.val] at hu ⊢
        rw [h1]
        simp only [ev] at hu ⊢
        split at hu
        · rename_i b' o' hb
          have := h2 b' o' hb
          simp only [blk, this] at hu ⊢
          exact hu
        · simp at hu
      rw [stepG_iff] at h ⊢
      rcases h with ⟨h1, h2⟩ | ⟨h1, h2⟩
      · refine .inl ⟨(GdT_put a1).1 h1, ?_⟩
        rw [hyk] at h2
        rw [show (y.drop x.d).k = .st (fl.filter fun t => x.d != some t) m b z by simp [SO.drop, hyk, SK.withFl, SK.fls]]
        rw [hyk] at hop
        obtain ⟨g, o, e1, v, e2, e, e3, e4, e5, e6, e7, e8⟩ := h2
        have hfl : ∀ t' ∈ fl.filter (fun t => x.d != some t), ∃ b' o', look σ t' = some (.pointer (some ⟨b', o', none⟩)) ∧ b' ≠ g := by
          intro t' ht'
          obtain ⟨ht1, ht2⟩ := List.mem_filter.1 ht'
          obtain ⟨b', o', h3, h4⟩ := e7 t' ht1
          rw [look_put_ne (by simpa using ht2)] at h3
          exact ⟨b', o', h3, h4⟩
        refine ⟨g, o, hop u b (by simp [SK.ops]) _ e1, v, hop u z (by simp [SK.ops]) _ e2, e, e3, e4, e5, e6, hfl, ?_⟩
        refine stepG_iff.2 (.inl ⟨(GdT_put a2).2 hg, ?_⟩)
        rw [hxk]
        refine ⟨u, hld _ _ (ev_put_ne (looks_op a2 (.tmp t) (by simp [hxk, SK.ops, PK.ops]))) (fun b' o' hb => ?_), _, Env.put_comm a3, e8⟩
        obtain ⟨b2, o2, h3, h4⟩ := hfl t (List.mem_filter.2 ⟨hmem, by simpa using hxd⟩)
        rw [h3] at hb
        cases hb
        exact Hp.upd_ne h4
      · refine .inr ⟨(GdF_put a1).1 h1, ?_⟩
        refine stepG_iff.2 (.inl ⟨(GdT_put a2).2 hg, ?_⟩)
        rw [hxk]
        exact ⟨u, hld _ _ (ev_put_ne (looks_op a2 (.tmp t) (by simp [hxk, SK.ops, PK.ops]))) (fun b' o' _ => rfl), _, Env.put_comm a3, h2⟩
  | al e z => rw [hxk] at hk; simp only [Bool.and_eq_true] at hk; exact alloc (by rw [hxk]; rfl) hk.1 hk.2
  | bx e z => rw [hxk] at hk; simp only [Bool.and_eq_true] at hk; exact alloc (by rw [hxk]; rfl) hk.1 hk.2
  | bs e len z parts => rw [hxk] at hk; simp only [Bool.and_eq_true] at hk; exact alloc (by rw [hxk]; rfl) hk.1 hk.2
  | ca f args =>
    rw [hxk] at h hk hopx
    simp only [Bool.and_eq_true] at hk
    obtain ⟨⟨hs1, hyg⟩, hyk⟩ := hk
    cases hyk' : y.k <;> simp [hyk'] at hyk
    rename_i e2 z2
    have hyg' : y.g = none := by simpa using hyg
    have hyd : y.drop x.d = y := by simp only [SO.drop]; rw [SK.withFl_not (by rw [hyk']; rfl)]
    rw [hyd, stepG_al hyg' hyk']
    simp only [stepK] at h
    obtain ⟨g, fi, c, hf, vs, hvs, h⟩ := h
    intro r r1 r2
    refine stepG_iff.2 (.inl ⟨(GdT_put a2).2 hg, ?_⟩)
    rw [hxk]
    refine ⟨g, fi, c, hopx _ f (by simp [SK.ops]) _ hf, vs, evs_congr (fun z hz => hopx _ z (by simp [SK.ops, hz])) hvs, (h.frame (e := ⟨z2, e2, z2.length⟩) r1 r2).mono ?_⟩
    rintro v F' M'' ⟨M', rfl, f1, f2, hl, hK⟩
    have hl : Le F M F' M' := hl hs1
    refine ⟨fun _ => ⟨hl.fz, fun b en hb => ?_, fun b b1 b2 => ?_⟩, _, Env.put_comm a3, (stepG_al hyg' hyk').1 hK r f1 f2⟩
    · by_cases hbr : b = r
      · subst hbr; simp at hb; subst hb; exact ⟨_, Hp.upd_same _ _ _, List.prefix_refl _⟩
      · rw [Hp.upd_ne hbr] at hb ⊢; exact hl.mu b en hb
    · have hbr : b ≠ r := by rintro rfl; simp at b2
      rw [Hp.upd_ne hbr] at b2 ⊢; exact hl.ap b b1 b2
  | ap e es b z u => rw [hxk] at hk; simp at hk
  | cq f args => rw [hxk] at hk; simp at hk
  | st fl m z u => rw [hxk] at hk; simp at hk
  | ms e es b z l c => rw [hxk] at hk; simp at hk
  | cp es z u => rw [hxk] at hk; simp at hk

theorem SK.withFl_two (k : SK) (a b : List Nat) : ∃ c, (k.withFl a).withFl b = k.withFl c := by
  cases k
  case ca f args => cases a with
    | nil => exact ⟨b, rfl⟩
    | cons x l => exact ⟨x :: l, rfl⟩
  all_goals exact ⟨b, rfl⟩
/-- Passed by all of these. -/
def dropAll (l1 : List SO) (x : SO) : SO := l1.foldr (fun y x => x.drop y.d) x
theorem dropAll_form : ∀ (l1 : List SO) (x : SO), ∃ fl, dropAll l1 x = { x with k := x.k.withFl fl } := by
  intro l1
  induction l1 with
  | nil => intro x; exact ⟨x.k.fls, by cases x with | mk d g k => cases k <;> rfl⟩
  | cons y l1 ih =>
    intro x
    obtain ⟨fl, h⟩ := ih x
    obtain ⟨c, hc⟩ := SK.withFl_two x.k fl ((x.k.withFl fl).fls.filter (fun t => y.d != some t))
    refine ⟨c, ?_⟩
    show (dropAll l1 x).drop y.d = _
    rw [h]
    simp only [SO.drop, hc]
theorem canSwap_dropAll {s : Bool} {y : SO} : ∀ {l1 : List SO} {x : SO}, canSwap s y x = true → (∀ z ∈ l1, noRedef y z = true) → canSwap s y (dropAll l1 x) = true := by
  intro l1
  induction l1 with
  | nil => intro x h _; exact h
  | cons z l1 ih => intro x h hz; exact canSwap_drop (ih h fun q hq => hz q (by simp [hq])) (hz z (by simp))

/-- What may be moved to the begin. -/
theorem bubble {P : Program} {s : Bool} : ∀ {l1 l2 : List SO} {x : SO} {K : Env → Fz → Hp → Prop} {σ : Env} {F : Fz} {M : Hp}, Inf F M → l1.Pairwise (fun y z => noRedef y z = true) → (∀ y ∈ l1, canSwap s y x = true) →
    opsW P s (l1 ++ x :: l2) K σ F M → stepG P s (dropAll l1 x) (opsW P s (l1 ++ l2) (up K)) σ F M := by
  intro l1
  induction l1 with
  | nil => intro l2 x K σ F M _ _ _ h; exact stepG_mono (fun σ F M hk => opsW_env (Env.le_refl _) hk) h
  | cons y l1 ih =>
    intro l2 x K σ F M hI hp hs h
    obtain ⟨hp1, hp2⟩ := List.pairwise_cons.1 hp
    have h1 : stepG P s y (stepG P s (dropAll l1 x) (opsW P s (l1 ++ l2) (up K))) σ F M := stepG_mono_inf hI (fun σ F M hI hk => ih hI hp2 (fun z hz => hs z (by simp [hz])) hk) h
    have h2 := swap hI (canSwap_dropAll (hs y (by simp)) hp1) h1
    refine stepG_mono (fun σ F M hk => ?_) h2
    exact stepG_mono (fun σ F M hk => opsW_mono (fun σ F M => up_up) (opsW_up hk)) hk

end Go.Ax
