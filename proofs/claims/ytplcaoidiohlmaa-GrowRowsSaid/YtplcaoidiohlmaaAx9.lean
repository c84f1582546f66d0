/- Regions that draw their order: one walk, in an order that serves, serves all. -/
import Derived.Test.YtplcaoidiohlmaaAx8
namespace Go.Ax
open Go
set_option linter.unusedSimpArgs false

def preds (ops : Array Oper) (i : Nat) : List Nat := match ops[i]? with
  | some o => o.after.toList.filterMap fun e => if Region.binds .any e then some e.on else none
  | none => []
inductive Anc (ops : Array Oper) : Nat → Nat → Prop
  | one {y i : Nat} : y ∈ preds ops i → Anc ops y i
  | more {y p i : Nat} : Anc ops y p → p ∈ preds ops i → Anc ops y i

def getM : List (Nat × Nat) → Nat → Nat
  | [], _ => 0
  | (k, m) :: l, i => if k = i then m else getM l i
def maskOf (st : List (Nat × Nat)) : List Nat → Nat
  | [] => 0
  | p :: l => 2 ^ p ||| (getM st p ||| maskOf st l)

def okGo (s : Bool) (ops : Array Oper) : List (Nat × SO) → List (Nat × Nat) → List (Nat × SO) → Bool
  | _, _, [] => true
  | seen, st, (i, x) :: l =>
    (preds ops i).all (fun p => seen.any fun y => y.1 == p) && !(seen.any fun y => y.1 == i) &&
    seen.all (fun y => noRedef y.2 x && (canSwap s y.2 x || (maskOf st (preds ops i)).testBit y.1)) && okGo s ops ((i, x) :: seen) ((i, maskOf st (preds ops i)) :: st) l
def okD (s : Bool) (ops : Array Oper) (l : List (Nat × SO)) : Bool := (okGo s ops [] [] l && (List.range ops.size).all fun i => l.any fun y => y.1 == i) && l.length == ops.size

theorem maskOf_spec {ops : Array Oper} {st : List (Nat × Nat)} {i : Nat} (hst : ∀ j y, (getM st j).testBit y = true → Anc ops y j) : ∀ (l : List Nat), (∀ p ∈ l, p ∈ preds ops i) →
    ∀ y, (maskOf st l).testBit y = true → Anc ops y i := by
  intro l
  induction l with
  | nil => intro _ y h; simp [maskOf] at h
  | cons p l ih =>
    intro hl y h
    simp only [maskOf, Nat.testBit_or, Nat.testBit_two_pow, Bool.or_eq_true, decide_eq_true_eq] at h
    rcases h with h | h | h
    · subst h; exact .one (hl _ (by simp))
    · exact .more (hst p y h) (hl p (by simp))
    · exact ih (fun q hq => hl q (by simp [hq])) y h

structure Inv (s : Bool) (P : Program) (n : Nat) (ops : Array Oper) (listed : Array Bool) (l0 : List (Nat × SO)) : Prop where
  size : listed.size = ops.size
  slim : ∀ p ∈ l0, ∃ o so fl, ops[p.1]? = some o ∧ slimO P n ops o = some so ∧ p.2 = { so with k := so.k.withFl fl }
  mem : ∀ i, i < ops.size → (listed.getD i false = false ↔ ∃ p ∈ l0, p.1 = i)
  pairs : l0.Pairwise fun y x => y.1 ≠ x.1 ∧ noRedef y.2 x.2 = true ∧ (canSwap s y.2 x.2 = true ∨ Anc ops y.1 x.1)
  top : ∀ l1 x l2, l0 = l1 ++ x :: l2 → ∀ p ∈ preds ops x.1, listed.getD p false = true ∨ ∃ y ∈ l1, y.1 = p
  down : ∀ i, listed.getD i false = true → ∀ p ∈ preds ops i, listed.getD p false = true

theorem okGo_spec {s : Bool} {ops : Array Oper} : ∀ {l seen : List (Nat × SO)} {st : List (Nat × Nat)}, (∀ j y, (getM st j).testBit y = true → Anc ops y j) → okGo s ops seen st l = true →
    l.Pairwise (fun y x => y.1 ≠ x.1 ∧ noRedef y.2 x.2 = true ∧ (canSwap s y.2 x.2 = true ∨ Anc ops y.1 x.1)) ∧ (∀ y ∈ seen, ∀ x ∈ l, y.1 ≠ x.1 ∧ noRedef y.2 x.2 = true ∧ (canSwap s y.2 x.2 = true ∨ Anc ops y.1 x.1)) ∧
    ∀ l1 x l2, l = l1 ++ x :: l2 → ∀ p ∈ preds ops x.1, (∃ y ∈ seen, y.1 = p) ∨ ∃ y ∈ l1, y.1 = p := by
  intro l
  induction l with
  | nil => intro seen st _ _; exact ⟨List.Pairwise.nil, by simp, fun l1 x l2 h => by simp at h⟩
  | cons a l ih =>
    intro seen st hst h
    obtain ⟨i, x⟩ := a
    simp only [okGo, Bool.and_eq_true] at h
    obtain ⟨⟨⟨h1, h2⟩, h3⟩, h4⟩ := h
    have hmask := maskOf_spec (i := i) hst (preds ops i) (fun p hp => hp)
    obtain ⟨g1, g2, g3⟩ := ih (seen := (i, x) :: seen) (st := (i, maskOf st (preds ops i)) :: st) (fun j y hy => by
      simp only [getM] at hy
      split at hy
      · rename_i e; subst e; exact hmask y hy
      · exact hst j y hy) h4
    have hne : ∀ y ∈ seen, y.1 ≠ i := by
      intro y hy e
      simp at h2
      exact h2 y.1 y.2 hy e
    have hpr : ∀ y ∈ seen, noRedef y.2 x = true ∧ (canSwap s y.2 x = true ∨ Anc ops y.1 i) := by
      intro y hy
      have := List.all_eq_true.1 h3 y hy
      simp only [Bool.and_eq_true, Bool.or_eq_true] at this
      exact ⟨this.1, this.2.imp id (hmask y.1)⟩
    refine ⟨List.pairwise_cons.2 ⟨fun z hz => g2 (i, x) (by simp) z hz, g1⟩, ?_, ?_⟩
    · intro y hy z hz
      rcases List.mem_cons.1 hz with rfl | hz
      · exact ⟨hne y hy, hpr y hy⟩
      · exact g2 y (by simp [hy]) z hz
    · intro l1 z l2 he p hp
      cases l1 with
      | nil =>
        simp at he
        obtain ⟨rfl, rfl⟩ := he
        have := List.all_eq_true.1 h1 p hp
        simp only [List.any_eq_true, beq_iff_eq] at this
        exact .inl this
      | cons b l1 =>
        simp at he
        obtain ⟨rfl, rfl⟩ := he
        rcases g3 l1 z l2 rfl p hp with ⟨y, hy, hyp⟩ | ⟨y, hy, hyp⟩
        · rcases List.mem_cons.1 hy with rfl | hy
          · exact .inr ⟨_, by simp, hyp⟩
          · exact .inl ⟨y, hy, hyp⟩
        · exact .inr ⟨y, by simp [hy], hyp⟩

theorem getD_set {a : Array Bool} {i j : Nat} (hi : i < a.size) : (a.setIfInBounds i true).getD j false = if i = j then true else a.getD j false := by
  simp only [Array.getD_eq_getD_getElem?, Array.getElem?_setIfInBounds]
  split <;> simp_all

section
variable {P : Program} {s : Bool} {n : Nat} {ops : Array Oper} {Q : Exit → Act → World → Prop}

theorem mem_ready {listed : Array Bool} {i : Nat} (hs : listed.size = ops.size) :
    i ∈ Region.ready .any ops listed ↔ i < ops.size ∧ listed.getD i false = false ∧ ∀ p ∈ preds ops i, listed.getD p false = true := by
  unfold Region.ready preds
  simp only [List.mem_filter, List.mem_range, Bool.and_eq_true, Bool.not_eq_true']
  constructor
  · rintro ⟨h1, h2, h3⟩
    obtain ⟨o, ho⟩ : ∃ o, ops[i]? = some o := ⟨ops[i], by simp [h1]⟩
    refine ⟨h1, ?_, ?_⟩
    · have : i < listed.size := by omega
      simpa [Array.getD_eq_getD_getElem?, this] using h2
    · rw [ho] at h3 ⊢
      intro p hp
      simp only [List.mem_filterMap] at hp
      obtain ⟨e, he, hb⟩ := hp
      split at hb
      · rename_i hbi
        simp at hb; subst hb
        simp only [Option.map_some, Option.getD_some, Array.all_eq_true'] at h3
        have := h3 e (Array.mem_toList_iff.1 he)
        simpa [hbi] using this
      · simp at hb
  · rintro ⟨h1, h2, h3⟩
    obtain ⟨o, ho⟩ : ∃ o, ops[i]? = some o := ⟨ops[i], by simp [h1]⟩
    refine ⟨h1, ?_, ?_⟩
    · have : i < listed.size := by omega
      simpa [Array.getD_eq_getD_getElem?, this] using h2
    · rw [ho] at h3 ⊢
      simp only [Option.map_some, Option.getD_some, Array.all_eq_true']
      intro e he
      by_cases hb : Region.binds .any e = true
      · have := h3 e.on (List.mem_filterMap.2 ⟨e, Array.mem_toList_iff.2 he, by simp [hb]⟩)
        simp [hb, this]
      · simp [hb]

theorem any_sound {K : Env → Fz → Hp → Prop} {F0 : Fz} {M0 : Hp} {w0 : World} (hQ : ∀ a w, St n K F0 M0 w0 a w → Q .normal a w) :
    ∀ (fuel : Nat) {l0 : List (Nat × SO)} {listed : Array Bool} {σ : Env} {F : Fz} {M : Hp} {a : Act} {w : World}, l0.length = fuel → Inv s P n ops listed l0 →
      Agree n σ a → Rel F M w → Fr F0 M0 w0 F M w → opsW P s (l0.map (·.2)) (up K) σ F M → wpAny P .any ops Q fuel listed a w := by
  intro fuel
  induction fuel with
  | zero =>
    intro l0 listed σ F M a w hl hi ha hr hf h
    obtain rfl : l0 = [] := by simpa using hl
    obtain ⟨σ', hle, hk⟩ := h
    refine ⟨?_, hQ a w ⟨σ', F, M, ha.mono hle, hr, hf, hk⟩⟩
    cases hrd : Region.ready .any ops listed with
    | nil => rfl
    | cons i l =>
      have := (mem_ready hi.size).1 (by rw [hrd]; simp : i ∈ Region.ready .any ops listed)
      have := (hi.mem i this.1).1 this.2.1
      simp at this
  | succ fuel ih =>
    intro l0 listed σ F M a w hl hi ha hr hf h
    refine ⟨fun hnil => ?_, fun i hri => ?_⟩
    · -- the first one is ready
      exfalso
      cases l0 with
      | nil => simp at hl
      | cons x l =>
        obtain ⟨o, _, _, ho, _⟩ := hi.slim x (by simp)
        have hlt : x.1 < ops.size := (Array.getElem?_eq_some_iff.1 ho).1
        have : x.1 ∈ Region.ready .any ops listed := (mem_ready hi.size).2 ⟨hlt, (hi.mem x.1 hlt).2 ⟨x, by simp, rfl⟩, fun p hp => by
          rcases hi.top [] x l rfl p hp with h | ⟨y, hy, _⟩
          · exact h
          · simp at hy⟩
        rw [hnil] at this; simp at this
    · obtain ⟨hlt, hnl, hpl⟩ := (mem_ready hi.size).1 hri
      obtain ⟨x, hx, rfl⟩ := (hi.mem i hlt).1 hnl
      obtain ⟨l1, l2, rfl⟩ := List.append_of_mem hx
      obtain ⟨o, so, fl, ho, hso, hxe⟩ := hi.slim x (by simp)
      -- nothing ahead of it is an ancestor
      have hup : ∀ y i, Anc ops y i → (∀ p ∈ preds ops i, listed.getD p false = true) → listed.getD y false = true := by
        intro y i hy
        induction hy with
        | one h => exact fun hp => hp _ h
        | more h1 h2 ih1 => exact fun hp => ih1 (hi.down _ (hp _ h2))
      have hsw : ∀ y ∈ l1.map (·.2), canSwap s y x.2 = true := by
        intro y hy
        obtain ⟨z, hz, rfl⟩ := List.mem_map.1 hy
        have hpw := (List.pairwise_append.1 hi.pairs).2.2 z hz x (by simp)
        rcases hpw.2.2 with h | h
        · exact h
        · exfalso
          have h1 := hup _ _ h hpl
          obtain ⟨oz, _, _, hoz, _⟩ := hi.slim z (by simp [hz])
          have hzl : z.1 < ops.size := (Array.getElem?_eq_some_iff.1 hoz).1
          have h2 := (hi.mem z.1 hzl).2 ⟨z, by simp [hz], rfl⟩
          rw [h1] at h2; simp at h2
      rw [List.map_append, List.map_cons] at h
      have hred : (l1.map (·.2)).Pairwise (fun y z => noRedef y z = true) := by
        rw [List.pairwise_map]
        exact (List.pairwise_append.1 hi.pairs).1.imp fun h => h.2.1
      have hb := bubble hr.inf hred hsw h
      obtain ⟨fl2, hdr⟩ := dropAll_form (l1.map (·.2)) x.2
      have hnew : Inv s P n ops (listed.setIfInBounds x.1 true) (l1 ++ l2) := by
        have hxs : x.1 < listed.size := by rw [hi.size]; exact hlt
        have hpw := hi.pairs
        have hne1 : ∀ y ∈ l1, y.1 ≠ x.1 := fun y hy => ((List.pairwise_append.1 hpw).2.2 y hy x (by simp)).1
        have hne2 : ∀ y ∈ l2, y.1 ≠ x.1 := fun y hy => ((List.pairwise_cons.1 (List.pairwise_append.1 hpw).2.1).1 y hy).1.symm
        refine ⟨by simp [hi.size], fun p hp => hi.slim p (by simp at hp ⊢; exact hp.imp id .inr), fun i hi' => ?_, ?_, ?_, ?_⟩
        · rw [getD_set hxs]
          by_cases hxi : x.1 = i
          · subst hxi
            simp only [if_true, Bool.true_eq_false, false_iff]
            rintro ⟨p, hp, hpe⟩
            rcases List.mem_append.1 hp with hp | hp
            · exact hne1 p hp hpe
            · exact hne2 p hp hpe
          · rw [if_neg hxi, hi.mem i hi']
            constructor
            · rintro ⟨p, hp, rfl⟩
              refine ⟨p, ?_, rfl⟩
              simp at hp ⊢
              rcases hp with hp | rfl | hp
              · exact .inl hp
              · exact absurd rfl hxi
              · exact .inr hp
            · rintro ⟨p, hp, rfl⟩
              exact ⟨p, by simp at hp ⊢; exact hp.imp id .inr, rfl⟩
        · refine hpw.sublist ?_
          exact List.Sublist.append (List.Sublist.refl _) (List.sublist_cons_self _ _)
        · intro m1 z m2 he p hp
          rw [getD_set hxs]
          by_cases hxp : x.1 = p
          · exact .inl (by simp [hxp])
          · rw [if_neg hxp]
            -- where z stands in the whole
            rcases List.append_eq_append_iff.1 he with ⟨c, h1, h2⟩ | ⟨c, h1, h2⟩
            · -- l1 ++ c = m1, l2 = c ++ z :: m2
              rcases hi.top (l1 ++ x :: c) z m2 (by rw [h2]; simp) p hp with h | ⟨y, hy, hyp⟩
              · exact .inl h
              · refine .inr ⟨y, ?_, hyp⟩
                rw [h1]
                simp at hy ⊢
                rcases hy with hy | rfl | hy
                · exact .inl hy
                · exact absurd hyp hxp
                · exact .inr hy
            · cases c with
              | nil =>
                simp at h1 h2
                rcases hi.top (l1 ++ [x]) z m2 (by rw [← h2]; simp) p hp with h | ⟨y, hy, hyp⟩
                · exact .inl h
                · refine .inr ⟨y, ?_, hyp⟩
                  rw [← h1]
                  simp at hy ⊢
                  rcases hy with hy | rfl
                  · exact hy
                  · exact absurd hyp hxp
              | cons c0 c =>
                simp at h2
                obtain ⟨rfl, h2⟩ := h2
                rcases hi.top m1 z (c ++ x :: l2) (by rw [h1]; simp) p hp with h | ⟨y, hy, hyp⟩
                · exact .inl h
                · exact .inr ⟨y, hy, hyp⟩
        · intro i hi' p hp
          rw [getD_set hxs] at hi' ⊢
          by_cases hxp : x.1 = p
          · simp [hxp]
          · rw [if_neg hxp]
            by_cases hxi : x.1 = i
            · subst hxi; exact hpl p hp
            · rw [if_neg hxi] at hi'; exact hi.down i hi' p hp
      obtain ⟨h1, h2, h3, h4, h5⟩ := wanted_iff ha hso
      have hxd : x.2.d = so.d := by rw [hxe]
      have hxg : x.2.g = so.g := by rw [hxe]
      obtain ⟨fl3, hxk⟩ : ∃ fl3, (dropAll (l1.map (·.2)) x.2).k = so.k.withFl fl3 := by
        rw [hdr, hxe]
        exact SK.withFl_two _ _ _
      have hxg' : (dropAll (l1.map (·.2)) x.2).g = x.2.g := by rw [hdr]
      have hxd' : (dropAll (l1.map (·.2)) x.2).d = x.2.d := by rw [hdr]
      rw [← hxg] at h1 h2
      have next : ∀ a' w', St n (opsW P s (l1.map (·.2) ++ l2.map (·.2)) (up (up K))) F M w a' w' → wpAny P .any ops Q fuel (listed.setIfInBounds x.1 true) a' w' := by
        rintro a' w' ⟨σ', F', M', ha', hr', hf', h'⟩
        refine ih (by simp at hl ⊢; omega) hnew ha' hr' (hf.trans hf') ?_
        rw [List.map_append]
        exact opsW_mono (fun _ _ _ => up_up) h'
      unfold wpOp
      rw [ho]
      simp only
      rw [stepG_iff] at hb
      have run : stepK P s (dropAll (l1.map (·.2)) x.2).d (dropAll (l1.map (·.2)) x.2).k (opsW P s (l1.map (·.2) ++ l2.map (·.2)) (up (up K))) σ F M → o.wp P a w (wpAny P .any ops Q fuel (listed.setIfInBounds x.1 true)) Q := fun hk => by
        rw [hxd', hxd, h3, hxk] at hk
        exact Oper.wp_mono next (step_sound_fl (s := s) h4 ha hr h5 hk)
      rcases hb with ⟨hg, hk⟩ | ⟨hg, hk⟩
      · have hw : Region.wanted o (yielded ops a.tmps) = true := by
          cases hg' : x.2.g with
          | none => exact h1 hg'
          | some p => obtain ⟨t, want⟩ := p; simp only [GdT, hxg', hg'] at hg; exact (h2 t want _ hg' hg).2 rfl
        rw [if_pos hw]
        exact .inl (run hk)
      · have hw : ¬ Region.wanted o (yielded ops a.tmps) = true := by
          cases hg' : x.2.g with
          | none => simp [GdF, hxg', hg'] at hg
          | some p =>
            obtain ⟨t, want⟩ := p
            simp only [GdF, hxg', hg'] at hg
            obtain ⟨v, hv, hvn⟩ := hg
            exact fun e => hvn ((h2 t want v hg' hv).1 e)
        rw [if_neg hw]
        rw [hxd', hxd, h3] at hk
        exact next _ _ ⟨_, F, M, ha.put h4, hr, Fr.refl _ _ _, hk⟩

theorem region_any {K : Env → Fz → Hp → Prop} {id : Nat} {l : List (Nat × SO)} {σ : Env} {F : Fz} {M : Hp} {a : Act} {w : World} (hm : P.follows .mixedOrders = true)
    (hQ : ∀ a' w', St n K F M w a' w' → Q .normal a' w') (hs : ∀ p ∈ l, ∃ o so fl, ops[p.1]? = some o ∧ slimO P n ops o = some so ∧ p.2 = { so with k := so.k.withFl fl }) (hok : okD s ops l = true)
    (ha : Agree n σ a) (hr : Rel F M w) (h : opsW P s (l.map (·.2)) K σ F M) : (Code.region id ops true).wp P Q a w := by
  simp only [okD, Bool.and_eq_true] at hok
  obtain ⟨⟨h1, h2⟩, h3⟩ := hok
  obtain ⟨g1, _, g3⟩ := okGo_spec (seen := []) (st := []) (fun j y hy => by simp [getM] at hy) h1
  have hall : ∀ i, i < ops.size → ∃ p ∈ l, p.1 = i := fun i hi => by
    have := List.all_eq_true.1 h2 i (List.mem_range.2 hi)
    simpa only [List.any_eq_true, beq_iff_eq] using this
  have hfalse : ∀ i, (Array.replicate ops.size false).getD i false = false := fun i => by simp [Array.getD_eq_getD_getElem?, Array.getElem?_replicate]; split <;> rfl
  have hlen : l.length = ops.size := by simpa using h3
  refine wp_region_any hm ?_
  refine any_sound (n := n) (K := K) (F0 := F) (M0 := M) (w0 := w) hQ ops.size (l0 := l) hlen ⟨by simp, hs, fun i hi => ?_, g1, fun l1 x l2 he p hp => ?_, fun i hi => ?_⟩ ha (hr.like ⟨rfl, rfl, rfl, rfl⟩) (Fr.like ⟨rfl, rfl, rfl, rfl⟩)
    (opsW_env (Env.le_refl _) h)
  · rw [hfalse]; simp only [true_iff]; exact hall i hi
  · rcases g3 l1 x l2 he p hp with ⟨y, hy, _⟩ | hy
    · simp at hy
    · exact .inr hy
  · rw [hfalse] at hi; simp at hi
end

end Go.Ax
