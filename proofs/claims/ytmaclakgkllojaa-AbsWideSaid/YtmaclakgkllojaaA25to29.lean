/- Parts A25to29: the machine's runs of small codes, contracts of functions, plain facts. -/
import Derived.Test.YtmaclakgkllojaaA20to24
/- Cutting a walk: what is known between two places is all that the rest is told. -/
namespace Go.Ax
open Go
section
variable {P : Program} {s : Bool} {d : Option Nat} {l : List SO} {K : Env → Fz → Hp → Prop} {σ : Env} {F : Fz} {M : Hp} {c : SC} {Q : Post}
/-- The variables are forgotten, but for what is said of them. -/
theorem forget (h : ∀ σ', (∀ k v, look σ k = some v → look σ' k = some v) → opsW P s l K σ' F M) : opsW P s l K σ F M := h σ fun _ _ h => h
theorem forgetW (h : ∀ σ', (∀ k v, look σ k = some v → look σ' k = some v) → W P c Q σ' F M) : W P c Q σ F M := h σ fun _ _ h => h
/-- A region is walked up to its end, where I is known. -/
theorem ops_cut (I : Env → Fz → Hp → Prop) (h : opsW P s l I σ F M) (hk : ∀ σ F M, I σ F M → K σ F M) : opsW P s l K σ F M := opsW_mono hk h
def cutQ (I : Env → Fz → Hp → Prop) (Q : Post) : Post
  | .n => I
  | x => Q x
@[go_sem] theorem cut_n {I : Env → Fz → Hp → Prop} : cutQ I Q .n σ F M = I σ F M := rfl
@[go_sem] theorem cut_r {I : Env → Fz → Hp → Prop} : cutQ I Q .r σ F M = Q .r σ F M := rfl
@[go_sem] theorem cut_e {I : Env → Fz → Hp → Prop} {i : Nat} : cutQ I Q (.e i) σ F M = Q (.e i) σ F M := rfl
/-- The first of two is walked up to its end, where I is known. -/
theorem cut {a b : SC} (I : Env → Fz → Hp → Prop) (h : W P a (cutQ I (Post.andThen (W P b Q) Q)) σ F M) (hn : ∀ σ F M, I σ F M → W P b Q σ F M) : W P (.seq a b) Q σ F M := by
  rw [W_seq]
  exact W_mono (fun x σ F M hx => by
    cases x
    · exact hn _ _ _ hx
    · exact hx
    · exact hx) h
/-- A code is walked up to its end, where I is known. -/
theorem cutW (I : Env → Fz → Hp → Prop) (h : W P c (cutQ I Q) σ F M) (hn : ∀ σ F M, I σ F M → Q .n σ F M) : W P c Q σ F M :=
  W_mono (fun x σ F M hx => by
    cases x
    · exact hn _ _ _ hx
    · exact hx
    · exact hx) h
end
end Go.Ax

/- What a set grows to, and how often it is another one; rows of sets as they are read. -/
namespace Go.Ax
open Go
set_option linter.unusedVariables false
set_option linter.unusedSimpArgs false

def V.span (w l h : Int) : V := if l = h then V.just w l else ⟨w, false, l, h, mostV w, 0⟩
def stepPair (w n : Int) : List V := [V.span w 0 (2 ^ n.toNat - 1), V.span w ((-(2 ^ n.toNat)) % 2 ^ w.toNat) (2 ^ n.toNat - 1)]
def growNs : List Int := [4, 7, 8, 15, 16, 31, 32]
def growL (w : Int) : Nat → List V
  | 0 => []
  | k + 1 => growL w k ++ stepPair w (growNs.getD k 0)
/-- How many of the numbers are below the width. -/
def growK (w : Int) : Nat := if w = 8 then 2 else if w = 16 then 4 else 6
def growSteps (w : Int) : List V := growL w (growK w) ++ [V.whole w]
def V.out (a b : V) : V := if b.under a = true then a else if a.nextR 0 < 0 then b else ((growSteps a.w).find? fun x => a.under x && b.under x).getD (V.whole a.w)

theorem isW_cases {w : Int} (h : isW w = true) : w = 8 ∨ w = 16 ∨ w = 32 := by
  simp [isW] at h; omega
theorem steps_ok {w : Int} (h : isW w = true) : ∀ x ∈ growSteps w, x.ok = true ∧ x.w = w := by
  rcases isW_cases h with rfl | rfl | rfl <;> decide +kernel
theorem whole_mem (w : Int) : V.whole w ∈ growSteps w := by simp [growSteps]
theorem out_find {a b : V} (ha : a.ok = true) (hb : b.ok = true) (hw : b.w = a.w) (h1 : ¬ b.under a = true) (h2 : ¬ a.nextR 0 < 0) :
    ∃ x ∈ growSteps a.w, a.out b = x ∧ a.under x = true ∧ b.under x = true := by
  unfold V.out
  rw [if_neg h1, if_neg h2]
  cases hf : (growSteps a.w).find? fun x => a.under x && b.under x with
  | none =>
    have := List.find?_eq_none.1 hf _ (whole_mem a.w)
    have e1 : a.under (V.whole a.w) = true := under_all rfl
    have e2 : b.under (V.whole a.w) = true := under_all rfl
    rw [e1, e2] at this; simp at this
  | some x =>
    have h := List.find?_some hf
    simp at h
    exact ⟨x, List.mem_of_find?_eq_some hf, rfl, h.1, h.2⟩
structure OutR (a b z : V) : Prop where
  ok : z.ok = true
  w : z.w = a.w
  left : Sub a z
  right : Sub b z
theorem sub_refl (a : V) : Sub a a := fun n _ _ h => h
theorem sub_void {a b : V} (ha : a.ok = true) (h : a.nextR 0 < 0) : Sub a b := fun n h0 h1 hn => by
  rw [void_has ha h n h0 h1] at hn; cases hn
theorem sub_trans {a b c : V} (hw : b.w = a.w) (h : Sub a b) (k : Sub b c) : Sub a c := fun n h0 h1 hn => k n h0 (by rw [hw]; exact h1) (h n h0 h1 hn)
theorem out_spec {a b : V} (ha : a.ok = true) (hb : b.ok = true) (hw : b.w = a.w) : OutR a b (a.out b) := by
  by_cases h1 : b.under a = true
  · have e : a.out b = a := by unfold V.out; rw [if_pos h1]
    rw [e]
    exact ⟨ha, rfl, sub_refl a, under_sound hb ha hw h1⟩
  by_cases h2 : a.nextR 0 < 0
  · have e : a.out b = b := by unfold V.out; rw [if_neg h1, if_pos h2]
    rw [e]
    exact ⟨hb, hw, sub_void ha h2, sub_refl b⟩
  obtain ⟨x, hx, e, h3, h4⟩ := out_find ha hb hw h1 h2
  obtain ⟨ox, wx⟩ := steps_ok (ok_in ha).w x hx
  rw [e]
  exact ⟨ox, wx, under_sound ha ox wx.symm h3, under_sound hb ox (by rw [wx, hw]) h4⟩

/-! How often. -/
def growRk : List Nat := [2, 3, 3, 4, 4, 5, 5, 6, 6, 7, 7, 8]
def V.rank (v : V) : Nat := if v.nextR 0 < 0 then 0 else if v = V.whole v.w then 9 else ((((growSteps v.w).zip growRk).find? fun p => decide (p.1 = v)).map (·.2)).getD 1
def stepsTest (w : Int) : Bool := (growSteps w).all fun p => decide (2 ≤ p.rank) && (growSteps w).all fun q =>
  decide (p = V.whole w) || decide (p = q) || decide (p.rank < q.rank) || (p.has p.low && decide (0 ≤ p.low) && decide (p.low ≤ mostV w) && !q.has p.low) || (p.has p.high && decide (0 ≤ p.high) && decide (p.high ≤ mostV w) && !q.has p.high)
theorem steps_test {w : Int} (h : isW w = true) : stepsTest w = true := by
  rcases isW_cases h with rfl | rfl | rfl <;> decide +kernel
theorem rank_steps {w : Int} (h : isW w = true) {p : V} (hp : p ∈ growSteps w) : 2 ≤ p.rank := by
  have := List.all_eq_true.1 (steps_test h) p hp
  simp only [Bool.and_eq_true, decide_eq_true_eq] at this
  exact this.1
theorem rank_lt {w : Int} (h : isW w = true) {p q : V} (hp : p ∈ growSteps w) (hq : q ∈ growSteps w) (hu : p.under q = true) (hne : ¬ p = q) (hw : ¬ p = V.whole w) : p.rank < q.rank := by
  have := List.all_eq_true.1 (steps_test h) p hp
  simp only [Bool.and_eq_true, decide_eq_true_eq] at this
  have := List.all_eq_true.1 this.2 q hq
  obtain ⟨op, wp⟩ := steps_ok h p hp
  obtain ⟨oq, wq⟩ := steps_ok h q hq
  have hs := under_sound op oq (by rw [wp, wq]) hu
  simp only [Bool.or_eq_true, Bool.and_eq_true, decide_eq_true_eq, Bool.not_eq_true', or_assoc] at this
  rcases this with k | k | k | ⟨⟨⟨k1, k2⟩, k3⟩, k4⟩ | ⟨⟨⟨k1, k2⟩, k3⟩, k4⟩
  · exact absurd k hw
  · exact absurd k hne
  · exact k
  · rw [hs _ k2 (by rw [wp]; exact k3) k1] at k4; cases k4
  · rw [hs _ k2 (by rw [wp]; exact k3) k1] at k4; cases k4
theorem rk_of {v : V} {p : V × Nat} (h : ((growSteps v.w).zip growRk).find? (fun p => decide (p.1 = v)) = some p) : v ∈ growSteps v.w ∧ 2 ≤ p.2 ∧ p.2 ≤ 8 := by
  have h1 := List.find?_some h
  have h2 := List.mem_of_find?_eq_some h
  simp at h1
  obtain ⟨a, b⟩ := p
  simp only at h1
  subst h1
  have h3 := List.of_mem_zip h2
  refine ⟨h3.1, ?_⟩
  have : ∀ b ∈ growRk, 2 ≤ b ∧ b ≤ 8 := by decide
  exact this b h3.2
theorem rank_le (v : V) : v.rank ≤ 9 := by
  unfold V.rank
  split
  · omega
  split
  · omega
  cases h : ((growSteps v.w).zip growRk).find? (fun p => decide (p.1 = v)) with
  | none => simp
  | some p => have := rk_of h; simp; omega
theorem rank_pos {v : V} (h : ¬ v.nextR 0 < 0) : 1 ≤ v.rank := by
  unfold V.rank
  rw [if_neg h]
  split
  · omega
  cases h : ((growSteps v.w).zip growRk).find? (fun p => decide (p.1 = v)) with
  | none => simp
  | some p => have := rk_of h; simp; omega
theorem rank_other {v : V} (h : ¬ v ∈ growSteps v.w) : v.rank ≤ 1 := by
  unfold V.rank
  split
  · omega
  split
  · rename_i hv
    exact absurd (by rw [hv]; exact whole_mem v.w) h
  cases h : ((growSteps v.w).zip growRk).find? (fun p => decide (p.1 = v)) with
  | none => simp
  | some p => exact absurd (rk_of h).1 (by assumption)
theorem out_rank {a b : V} (ha : a.ok = true) (hb : b.ok = true) (hw : b.w = a.w) (hne : ¬ a.out b = a) : a.rank < (a.out b).rank := by
  have h1 : ¬ b.under a = true := fun h => hne (by unfold V.out; rw [if_pos h])
  by_cases h2 : a.nextR 0 < 0
  · have e : a.out b = b := by unfold V.out; rw [if_neg h1, if_pos h2]
    have : ¬ b.nextR 0 < 0 := fun h => h1 (under_none h)
    have := rank_pos this
    have r0 : a.rank = 0 := by unfold V.rank; rw [if_pos h2]
    rw [e]; omega
  obtain ⟨x, hx, e, h3, h4⟩ := out_find ha hb hw h1 h2
  rw [e] at hne ⊢
  have isw := (ok_in ha).w
  by_cases hm : a ∈ growSteps a.w
  · exact rank_lt isw hm hx h3 (fun h => hne h.symm) (fun h => h1 (under_all h))
  · have := rank_other hm
    have := rank_steps isw hx
    omega

/-- Behind a row, and how often it was another one. -/
def V.rows : V → List V → V × Nat
  | a, [] => (a, 0)
  | a, x :: l => ((V.rows (a.out x) l).1, (if a.out x = a then 0 else 1) + (V.rows (a.out x) l).2)
theorem rows_spec : ∀ (l : List V) (a : V), a.ok = true → (∀ x ∈ l, x.ok = true ∧ x.w = a.w) →
    (a.rows l).1.ok = true ∧ (a.rows l).1.w = a.w ∧ Sub a (a.rows l).1 ∧ (∀ x ∈ l, Sub x (a.rows l).1) ∧ a.rank + (a.rows l).2 ≤ (a.rows l).1.rank
  | [], a, ha, _ => ⟨ha, rfl, sub_refl a, by simp, by simp [V.rows]⟩
  | x :: l, a, ha, hl => by
    obtain ⟨ox, wx⟩ := hl x (by simp)
    have o := out_spec ha ox wx
    obtain ⟨i1, i2, i3, i4, i5⟩ := rows_spec l (a.out x) o.ok (fun y hy => by rw [o.w]; exact hl y (by simp [hy]))
    refine ⟨i1, by rw [← o.w]; exact i2, sub_trans o.w o.left i3, ?_, ?_⟩
    · intro y hy
      rcases List.mem_cons.1 hy with rfl | hy
      · exact sub_trans (by rw [o.w, wx]) o.right i3
      · exact i4 y hy
    · show a.rank + ((if a.out x = a then 0 else 1) + (V.rows (a.out x) l).2) ≤ (V.rows (a.out x) l).1.rank
      by_cases e : a.out x = a
      · rw [if_pos e]
        have : (a.out x).rank = a.rank := by rw [e]
        omega
      · have := out_rank ha ox wx e
        rw [if_neg e]; omega
theorem rows_few {l : List V} {a : V} (ha : a.ok = true) (hl : ∀ x ∈ l, x.ok = true ∧ x.w = a.w) : (a.rows l).2 ≤ 9 := by
  have := (rows_spec l a ha hl).2.2.2.2
  have := rank_le (a.rows l).1
  omega
theorem rows_app : ∀ (l k : List V) (a : V), a.rows (l ++ k) = (((a.rows l).1.rows k).1, (a.rows l).2 + ((a.rows l).1.rows k).2)
  | [], k, a => by simp [V.rows]
  | x :: l, k, a => by
    simp only [List.cons_append, V.rows]
    rw [rows_app l k (a.out x)]
    simp only [Nat.add_assoc]

attribute [go_sem] Option.map_none
theorem V.drop_app {v : V} {n : Nat} {l : List Value} : (v.cs ++ l).drop (n + 6) = l.drop n := rfl
theorem V.take_app {v : V} {n : Nat} {l : List Value} : (v.cs ++ l).take (n + 6) = v.cs ++ l.take n := rfl
/-! Rows of sets, read. -/
theorem blk_ne {F : Fz} {M : Hp} {b r : Nat} {c : List Value} (h : blk F M b = some c) (hF : F r = none) (hM : M r = none) : ¬ b = r := by
  rintro rfl; simp [blk, hM, hF] at h
def RdV (F : Fz) (M : Hp) (u : Value) (l : List V) : Prop :=
  l.length ≤ 4611686018427387904 ∧ ∃ ad cap, l.length ≤ cap ∧ u = .slice ad l.length cap ∧ (l = [] ∨ ∃ b o cs, ad = some ⟨b, o, none⟩ ∧ blk F M b = some cs ∧ ∀ i (hi : i < l.length), o + i * 6 + 6 ≤ cs.length ∧ (cs.drop (o + i * 6)).take 6 = (l[i]).cs)
theorem flat_len (l : List V) : (l.flatMap V.cs).length = l.length * 6 := by
  induction l with
  | nil => rfl
  | cons x l ih => rw [List.flatMap_cons, List.length_append, ih, V.cs_len, List.length_cons]; omega
theorem flat_get : ∀ (l : List V) (i : Nat) (hi : i < l.length), ((l.flatMap V.cs).drop (i * 6)).take 6 = (l[i]).cs
  | [], i, hi => by simp at hi
  | x :: l, 0, hi => by simp [List.flatMap_cons, V.cs]
  | x :: l, i + 1, hi => by
    have := flat_get l i (by simpa using hi)
    rw [List.flatMap_cons, List.drop_append]
    have e : (i + 1) * 6 - x.cs.length = i * 6 := by rw [V.cs_len]; omega
    rw [e]
    have e2 : x.cs.drop ((i + 1) * 6) = [] := List.drop_eq_nil_of_le (by rw [V.cs_len]; omega)
    rw [e2]
    simpa using this
theorem rdV_flat {F : Fz} {M : Hp} {g : Nat} {l : List V} {cap : Nat} (hl : l.length ≤ 4611686018427387904) (hlc : l.length ≤ cap) (h : blk F M g = some (l.flatMap V.cs)) : RdV F M (.slice (some ⟨g, 0, none⟩) l.length cap) l :=
  ⟨hl, _, _, hlc, rfl, .inr ⟨g, 0, _, rfl, h, fun i hi => ⟨by rw [flat_len]; omega, by rw [Nat.zero_add]; exact flat_get l i hi⟩⟩⟩
theorem RdV.new {F : Fz} {M : Hp} {u : Value} {l : List V} (h : RdV F M u l) {r : Nat} {e : Ent} (hF : F r = none) (hM : M r = none) : RdV F (M.upd r e) u l := by
  obtain ⟨hl, ad, cap, hlc, rfl, h⟩ := h
  refine ⟨hl, ad, cap, hlc, rfl, ?_⟩
  rcases h with h | ⟨b, o, cs, h1, h2, h3⟩
  · exact .inl h
  · refine .inr ⟨b, o, cs, h1, ?_, h3⟩
    rw [blk_upd_ne]
    · exact h2
    · rintro rfl
      simp [blk, hM, hF] at h2
/-- A row of sets that the call made itself. -/
def OwnV (e : TypeId) (F : Fz) (M : Hp) (u : Value) (l : List V) : Prop :=
  u = .slice none 0 0 ∧ l = [] ∨ ∃ g cap, u = .slice (some ⟨g, 0, none⟩) l.length cap ∧ F g = none ∧ M g = some ⟨l.flatMap V.cs, e, cap * 6⟩ ∧ l.length ≤ cap ∧ cap ≤ maxLen
theorem OwnV.own {e : TypeId} {F : Fz} {M : Hp} {u : Value} {l : List V} (h : OwnV e F M u l) : Own M e 6 u l.length (l.flatMap V.cs) := by
  refine ⟨flat_len l, ?_⟩
  rcases h with ⟨h1, h2⟩ | ⟨g, cap, h1, h2, h3, h4, h5⟩
  · exact .inl ⟨h1, by rw [h2]; rfl⟩
  · exact .inr ⟨g, cap, h1, h3, h4, h5⟩
theorem OwnV.rd {e : TypeId} {F : Fz} {M : Hp} {u : Value} {l : List V} (h : OwnV e F M u l) (hl : l.length ≤ 4611686018427387904) : RdV F M u l := by
  rcases h with ⟨h1, h2⟩ | ⟨g, cap, h1, h2, h3, h4, h5⟩
  · subst h2; exact ⟨by simp, none, 0, by simp, h1, .inl rfl⟩
  · rw [h1]; exact rdV_flat hl h4 (blk_M h3)
theorem OwnV.new {e : TypeId} {F : Fz} {M : Hp} {u : Value} {l : List V} (h : OwnV e F M u l) {r : Nat} {x : Ent} (hM : M r = none) : OwnV e F (M.upd r x) u l := by
  rcases h with h | ⟨g, cap, h1, h2, h3, h4, h5⟩
  · exact .inl h
  · refine .inr ⟨g, cap, h1, h2, ?_, h4, h5⟩
    rw [Hp.upd_ne' (ne_of_none hM h3).1]; exact h3
theorem plain_flat (l : List V) : plainCells (l.flatMap V.cs) := by
  intro u hu
  obtain ⟨v, _, hv⟩ := List.mem_flatMap.1 hu
  have := V.cs_plain (v := v)
  exact (of_eq_true this) u hv
/-- More sets behind such a row. -/
theorem apV_of {P : Program} {s : Bool} {d : Option Nat} {l : List SO} {K : Env → Fz → Hp → Prop} {σ : Env} {F : Fz} {M : Hp} {e : TypeId} {v u : Value} {xs ys : List V}
    (h : OwnV e F M v xs) (hs : Src F M 6 u ys.length (ys.flatMap V.cs)) (hy : 0 < ys.length) (hb : xs.length + ys.length ≤ 1000000)
    (hk : ∀ g cap M', (M g = none ∨ ∃ c, v = .slice (some ⟨g, 0, none⟩) xs.length c) → M' = M.upd g ⟨(xs ++ ys).flatMap V.cs, e, cap * 6⟩ →
      OwnV e F M' (.slice (some ⟨g, 0, none⟩) (xs ++ ys).length cap) (xs ++ ys) → opsW P s l K (put σ d (.slice (some ⟨g, 0, none⟩) (xs ++ ys).length cap)) F M') :
    apK P s d l K σ F M e 6 48 (some v) (some u) := by
  refine apK_of h.own hs (plain_flat ys) (by simp only [maxLen]; omega) (by omega) ?_
  rintro v' M' (⟨_, h0, _⟩ | ⟨g, cap, hg, rfl, h1, h2, rfl⟩)
  · omega
  rw [← List.length_append, ← List.flatMap_append]
  have key : F g = none ∧ (M g = none ∨ ∃ c, v = .slice (some ⟨g, 0, none⟩) xs.length c) := by
    rcases hg with ⟨c, hx⟩ | ⟨hx, hy⟩
    · rcases h with ⟨h1, _⟩ | ⟨g', cap', h1, h2, _⟩
      · rw [h1] at hx; cases hx
      · rw [h1] at hx; cases hx; exact ⟨h2, .inr ⟨_, h1⟩⟩
    · exact ⟨hx, .inl hy⟩
  exact hk g cap _ key.2 rfl (.inr ⟨g, cap, rfl, key.1, Hp.upd_same _ _ _, by rw [List.length_append]; exact h1, h2⟩)
end Go.Ax

/- Kinds of numbers: widths, what a kind sees, ranges of what is seen. -/
namespace Go.Ax
open Go
set_option linter.unusedVariables false
set_option linter.unusedSimpArgs false

def isK (k : Int) : Bool := decide (1 ≤ k) && decide (k ≤ 6)
def ofW (k : Int) : Int := if k ≤ 2 then 8 else if k ≤ 4 then 16 else 32
def sgn (k : Int) : Bool := decide (k = 2) || decide (k = 4) || decide (k = 6)
/-- The width of a kind; 0 of others. -/
def wK (k : Int) : Int := if isK k then ofW k else 0
def halfV (w : Int) : Int := 2 ^ (w - 1).toNat
def lookV (n w : Int) : Int := if halfV w ≤ n then n - 2 ^ w.toNat else n
def seenV (k n : Int) : Int := if sgn k then lookV n (ofW k) else n
def leastK (k : Int) : Int := if sgn k then -(halfV (ofW k)) else 0
def mostK (k : Int) : Int := if sgn k then halfV (ofW k) - 1 else mostV (ofW k)
theorem isK_cases {k : Int} (h : isK k = true) : k = 1 ∨ k = 2 ∨ k = 3 ∨ k = 4 ∨ k = 5 ∨ k = 6 := by
  simp [isK] at h; omega
theorem ofW_isW (k : Int) : isW (ofW k) = true := by
  unfold ofW; split
  · rfl
  · split <;> rfl
theorem pow_w {w : Int} (h : isW w = true) : w = 8 ∧ (2 : Int) ^ w.toNat = 256 ∧ mostV w = 255 ∧ halfV w = 128 ∨ w = 16 ∧ (2 : Int) ^ w.toNat = 65536 ∧ mostV w = 65535 ∧ halfV w = 32768 ∨
    w = 32 ∧ (2 : Int) ^ w.toNat = 4294967296 ∧ mostV w = 4294967295 ∧ halfV w = 2147483648 := by
  rcases isW_cases h with rfl | rfl | rfl
  · exact .inl (by decide)
  · exact .inr (.inl (by decide))
  · exact .inr (.inr (by decide))
theorem seen_range {k n : Int} (h0 : 0 ≤ n) (h1 : n ≤ mostV (ofW k)) : leastK k ≤ seenV k n ∧ seenV k n ≤ mostK k := by
  have := pow_w (ofW_isW k)
  unfold leastK mostK seenV lookV
  cases sgn k
  · simp; omega
  · simp; split <;> omega
theorem seen_inj {k n m : Int} (h0 : 0 ≤ n) (h1 : n ≤ mostV (ofW k)) (g0 : 0 ≤ m) (g1 : m ≤ mostV (ofW k)) (h : seenV k n = seenV k m) : n = m := by
  have := pow_w (ofW_isW k)
  unfold seenV lookV at h
  cases hs : sgn k
  · rw [hs] at h; simpa using h
  · rw [hs] at h; simp only [if_true] at h
    split at h <;> split at h <;> omega
theorem span_ok {w l h : Int} (hw : isW w = true) (hl : isN l w = true) (hh : isN h w = true) : (V.span w l h).ok = true ∧ (V.span w l h).w = w := by
  unfold V.span
  split
  · exact ⟨just_ok hw hl, rfl⟩
  · have lw := isW_le hw
    have := isN_most lw.1 lw.2
    have := isN_zero lw.1 lw.2
    have eb : band .i64 0 (mostV w) = 0 := by rcases isW_cases hw with rfl | rfl | rfl <;> decide +kernel
    refine ⟨?_, rfl⟩
    simp [V.ok, hw, hl, hh, eb, *]
theorem span_has {w l h n : Int} (hw : isW w = true) (h0 : 0 ≤ n) (h1 : n ≤ mostV w) (hl : isN l w = true) (hh : isN h w = true) : (V.span w l h).has n = true ↔ (l ≤ h ∧ l ≤ n ∧ n ≤ h) ∨ (h < l ∧ (l ≤ n ∨ n ≤ h)) := by
  have lw := isW_le hw
  have hm := mostV_pos lw.2
  simp [isN] at hl hh
  unfold V.span
  split
  · rename_i e
    subst e
    rw [just_has h0 (by omega)]
    simp; omega
  · have hc : bclr .i64 n (mostV w) = 0 := by
      obtain ⟨m, rfl⟩ : ∃ m : Nat, n = m := ⟨n.toNat, by omega⟩
      have e : mostV w = ((2 ^ w.toNat - 1 : Nat) : Int) := mostV_nat
      have hlt : m < 2 ^ w.toNat := by
        have : 0 < 2 ^ w.toNat := Nat.two_pow_pos _
        rw [e] at h1; omega
      have := pow_lt63 lw.2
      rw [e, bclr_nat (by omega) (by omega), clr_most hlt]; rfl
    unfold V.has
    rw [hc]
    have e2 : ∀ x : V, x.low = l → x.high = h → (x.within n = true ↔ (l ≤ h ∧ l ≤ n ∧ n ≤ h) ∨ (h < l ∧ (l ≤ n ∨ n ≤ h))) := by
      intro x e3 e4; rw [within_lin, e3, e4]
    simp only [Bool.not_false, decide_true, Bool.true_and]
    exact e2 _ rfl rfl
theorem mod_isN {x w : Int} (hw : isW w = true) : isN (x % 2 ^ w.toNat) w = true := by
  have := pow_w hw
  have h1 := Int.emod_nonneg x (b := 2 ^ w.toNat) (by omega)
  have h2 := Int.emod_lt_of_pos x (b := 2 ^ w.toNat) (by omega)
  unfold isN
  simp only [Bool.and_eq_true, decide_eq_true_eq]; omega
theorem mod_add {x N : Int} (h0 : -N ≤ x) (h1 : x < 0) : x % N = x + N := by
  rw [← Int.add_emod_right]
  exact Int.emod_eq_of_lt (by omega) (by omega)
/-- A range of what is seen. -/
def rangeV (k lo hi : Int) : V := if hi < lo then V.nothing (ofW k) else V.span (ofW k) (lo % 2 ^ (ofW k).toNat) (hi % 2 ^ (ofW k).toNat)
theorem range_ok (k lo hi : Int) : (rangeV k lo hi).ok = true ∧ (rangeV k lo hi).w = ofW k := by
  have hw := ofW_isW k
  unfold rangeV
  split
  · exact ⟨nothing_ok hw, rfl⟩
  · exact span_ok hw (mod_isN hw) (mod_isN hw)
theorem range_has {k lo hi n : Int} (h0 : 0 ≤ n) (h1 : n ≤ mostV (ofW k)) (hl : leastK k ≤ lo) (hh : hi ≤ mostK k) : (rangeV k lo hi).has n = true ↔ lo ≤ seenV k n ∧ seenV k n ≤ hi := by
  have hw := ofW_isW k
  have hp := pow_w hw
  unfold rangeV
  split
  · constructor
    · intro h; cases h
    · intro h; omega
  · rename_i hlh
    rw [span_has hw h0 h1 (mod_isN hw) (mod_isN hw)]
    have hm : ∀ x, leastK k ≤ x → x ≤ mostK k → (0 ≤ x ∧ x % 2 ^ (ofW k).toNat = x) ∨ (x < 0 ∧ x % 2 ^ (ofW k).toNat = x + 2 ^ (ofW k).toNat) := by
      intro x g0 g1
      unfold leastK at g0; unfold mostK at g1
      by_cases hx : 0 ≤ x
      · refine .inl ⟨hx, Int.emod_eq_of_lt hx ?_⟩
        split at g1 <;> omega
      · refine .inr ⟨by omega, mod_add ?_ (by omega)⟩
        split at g0 <;> omega
    have m1 := hm lo hl (by omega)
    have m2 := hm hi (by omega) hh
    unfold leastK at hl; unfold mostK at hh
    unfold seenV lookV
    cases hs : sgn k
    · rw [hs] at hl hh
      simp only [Bool.false_eq_true, if_false] at hl hh ⊢
      omega
    · rw [hs] at hl hh
      simp only [if_true] at hl hh ⊢
      split <;> omega
/-- All but one. -/
theorem but_has {w n y : Int} (hw : isW w = true) (h0 : 0 ≤ n) (h1 : n ≤ mostV w) (y0 : 0 ≤ y) (y1 : y ≤ mostV w) :
    (V.span w ((n + 1) % 2 ^ w.toNat) ((n - 1) % 2 ^ w.toNat)).has y = true ↔ ¬ y = n := by
  have hp := pow_w hw
  rw [span_has hw y0 y1 (mod_isN hw) (mod_isN hw)]
  have m1 : n + 1 = 2 ^ w.toNat ∧ (n + 1) % 2 ^ w.toNat = 0 ∨ n + 1 < 2 ^ w.toNat ∧ (n + 1) % 2 ^ w.toNat = n + 1 := by
    by_cases e : n + 1 = 2 ^ w.toNat
    · exact .inl ⟨e, by rw [e]; exact Int.emod_self⟩
    · exact .inr ⟨by omega, Int.emod_eq_of_lt (by omega) (by omega)⟩
  have m2 : n = 0 ∧ (n - 1) % 2 ^ w.toNat = 2 ^ w.toNat - 1 ∨ 0 < n ∧ (n - 1) % 2 ^ w.toNat = n - 1 := by
    by_cases e : n = 0
    · refine .inl ⟨e, ?_⟩
      rw [mod_add (by omega) (by omega)]; omega
    · exact .inr ⟨by omega, Int.emod_eq_of_lt (by omega) (by omega)⟩
  omega
/-- What is told of the least and the greatest that are seen. -/
structure SeenR (k : Int) (v : V) (lo hi : Int) : Prop where
  all : ∀ n, 0 ≤ n → n ≤ mostV v.w → v.has n = true → lo ≤ seenV k n ∧ seenV k n ≤ hi
  low : ∃ n, 0 ≤ n ∧ n ≤ mostV v.w ∧ v.has n = true ∧ seenV k n = lo
  high : ∃ n, 0 ≤ n ∧ n ≤ mostV v.w ∧ v.has n = true ∧ seenV k n = hi
/-- The greatest member up to a number. -/
def LastR (v : V) (n z : Int) : Prop := (z = -1 ∧ ∀ y, 0 ≤ y → y ≤ n → v.has y = false) ∨ (0 ≤ z ∧ z ≤ n ∧ v.has z = true ∧ ∀ y, z < y → y ≤ n → v.has y = false)
end Go.Ax

/- What is left behind a question: what must be so. -/
namespace Go.Ax
open Go
set_option linter.unusedVariables false
set_option linter.unusedSimpArgs false

/-- The two questions. -/
def askV (op k a b : Int) : Bool := if op = 18 then decide (a = b) else decide (seenV k a < seenV k b)
structure PreR (op k : Int) (a b : V) (yes : Bool) (x y : V) : Prop where
  okx : x.ok = true
  wx : x.w = a.w
  subx : Sub x a
  oky : y.ok = true
  wy : y.w = b.w
  suby : Sub y b
  keep : ∀ u v, 0 ≤ u → u ≤ mostV a.w → a.has u = true → 0 ≤ v → v ≤ mostV b.w → b.has v = true → askV op k u v = yes → x.has u = true ∧ y.has v = true
  single : a.is1 = true → b.is1 = true → ¬ askV op k (a.nextR 0) (b.nextR 0) = yes → x.nextR 0 < 0 ∨ y.nextR 0 < 0
structure TwoR (op k : Int) (a b : V) (yes : Bool) (x y : V) : Prop where
  okx : x.ok = true
  wx : x.w = a.w
  subx : Sub x a
  oky : y.ok = true
  wy : y.w = b.w
  suby : Sub y b
  keep : ∀ u v, 0 ≤ u → u ≤ mostV a.w → a.has u = true → 0 ≤ v → v ≤ mostV b.w → b.has v = true → askV op k u v = yes → x.has u = true ∧ y.has v = true
  single : a.is1 = true → b.is1 = true → ¬ askV op k (a.nextR 0) (b.nextR 0) = yes → x.nextR 0 < 0 ∧ y.nextR 0 < 0
theorem nothing_sub {w : Int} (a : V) : Sub (V.nothing w) a := fun n _ _ h => by cases h
theorem two_none {op k : Int} {a b : V} {yes : Bool} (ha : a.ok = true) (hb : b.ok = true) (hw : b.w = a.w)
    (h : ∀ u v, 0 ≤ u → u ≤ mostV a.w → a.has u = true → 0 ≤ v → v ≤ mostV b.w → b.has v = true → askV op k u v = yes → False) : TwoR op k a b yes (V.nothing a.w) (V.nothing a.w) :=
  ⟨nothing_ok (ok_in ha).w, rfl, nothing_sub a, nothing_ok (ok_in ha).w, hw.symm, nothing_sub b, fun u v a1 a2 a3 b1 b2 b3 q => (h u v a1 a2 a3 b1 b2 b3 q).elim, fun _ _ _ => ⟨by rw [nothing_next]; decide, by rw [nothing_next]; decide⟩⟩
theorem two_void {op k : Int} {a b : V} {yes : Bool} (ha : a.ok = true) (hb : b.ok = true) (hw : b.w = a.w) (h : a.nextR 0 < 0 ∨ b.nextR 0 < 0) : TwoR op k a b yes (V.nothing a.w) (V.nothing a.w) :=
  two_none ha hb hw fun u v a1 a2 a3 b1 b2 b3 _ => by
    rcases h with h | h
    · rw [void_has ha h u a1 a2] at a3; cases a3
    · rw [void_has hb h v b1 b2] at b3; cases b3
theorem two_pre {op k : Int} {a b x y : V} {yes : Bool} (ha : a.ok = true) (hb : b.ok = true) (hw : b.w = a.w) (p : PreR op k a b yes x y) (h : x.nextR 0 < 0 ∨ y.nextR 0 < 0) : TwoR op k a b yes (V.nothing a.w) (V.nothing a.w) :=
  two_none ha hb hw fun u v a1 a2 a3 b1 b2 b3 q => by
    obtain ⟨k1, k2⟩ := p.keep u v a1 a2 a3 b1 b2 b3 q
    rcases h with h | h
    · rw [void_has p.okx h u a1 (by rw [p.wx]; exact a2)] at k1; cases k1
    · rw [void_has p.oky h v b1 (by rw [p.wy]; exact b2)] at k2; cases k2
theorem two_some {op k : Int} {a b x y : V} {yes : Bool} (p : PreR op k a b yes x y) (h1 : ¬ x.nextR 0 < 0) (h2 : ¬ y.nextR 0 < 0) : TwoR op k a b yes x y :=
  ⟨p.okx, p.wx, p.subx, p.oky, p.wy, p.suby, p.keep, fun q1 q2 q3 => by
    rcases p.single q1 q2 q3 with h | h
    · exact absurd h h1
    · exact absurd h h2⟩
/-- A set of so many members of a single one, but not that one, is empty. -/
theorem void_one {a b x : V} (ha : a.ok = true) (h : MeetR a b x) (h1 : a.is1 = true) (hb : b.has (a.nextR 0) = false) : x.nextR 0 < 0 := by
  obtain ⟨a1, a2, a3, a4⟩ := is1_mem ha h1
  refine void_of h.ok fun n n0 n1 => ?_
  cases hx : x.has n with
  | false => rfl
  | true =>
    have e := a4 n n0 (by rw [← h.w]; exact n1) (h.left n n0 n1 hx)
    have := h.right (.inl h1) n n0 n1 hx
    rw [e, hb] at this; cases this
/-- All but one. -/
def butV (w n : Int) : V := V.span w ((n + 1) % 2 ^ w.toNat) ((n - 1) % 2 ^ w.toNat)
theorem but_ok {w n : Int} (hw : isW w = true) : (butV w n).ok = true ∧ (butV w n).w = w := span_ok hw (mod_isN hw) (mod_isN hw)
theorem pre_eq_yes {k : Int} {a b x y : V} (ha : a.ok = true) (hb : b.ok = true) (hw : b.w = a.w) (hx : MeetR a b x) (hy : MeetR b a y) : PreR 18 k a b true x y := by
  refine ⟨hx.ok, hx.w, hx.left, hy.ok, hy.w, hy.left, fun u v u0 u1 hu v0 v1 hv q => ?_, fun q1 q2 q3 => ?_⟩
  · have e : u = v := by simpa [askV] using q
    subst e
    exact ⟨hx.both u u0 u1 hu hv, hy.both u v0 v1 hv hu⟩
  · obtain ⟨a1, a2, a3, a4⟩ := is1_mem ha q1
    obtain ⟨b1, b2, b3, b4⟩ := is1_mem hb q2
    refine .inl (void_one ha hx q1 ?_)
    cases h : b.has (a.nextR 0) with
    | false => rfl
    | true =>
      have := b4 _ a1 (by rw [hw]; exact a2) h
      exact absurd (by simp [askV, this]) q3
/-- What is left of one, when the other one is not so. -/
def NotR (a b x : V) : Prop := if b.is1 = true then MeetR a (butV a.w (b.nextR 0)) x else x = a
theorem not_spec {a b x : V} (ha : a.ok = true) (hb : b.ok = true) (hw : b.w = a.w) (h : NotR a b x) :
    x.ok = true ∧ x.w = a.w ∧ Sub x a ∧ (∀ u v, 0 ≤ u → u ≤ mostV a.w → a.has u = true → 0 ≤ v → v ≤ mostV b.w → b.has v = true → ¬ u = v → x.has u = true) ∧
    (a.is1 = true → b.is1 = true → a.nextR 0 = b.nextR 0 → x.nextR 0 < 0) := by
  unfold NotR at h
  have isw := (ok_in ha).w
  by_cases h1 : b.is1 = true
  · rw [if_pos h1] at h
    obtain ⟨b1, b2, b3, b4⟩ := is1_mem hb h1
    rw [hw] at b2
    refine ⟨h.ok, h.w, h.left, fun u v u0 u1 hu v0 v1 hv hne => ?_, fun q1 _ q3 => ?_⟩
    · have e := b4 v v0 v1 hv
      exact h.both u u0 u1 hu ((but_has isw b1 b2 u0 u1).2 (by rw [← e]; exact hne))
    · obtain ⟨a1, a2, a3, a4⟩ := is1_mem ha q1
      refine void_one ha h q1 ?_
      cases hc : (butV a.w (b.nextR 0)).has (a.nextR 0) with
      | false => rfl
      | true => exact absurd q3 ((but_has isw b1 b2 a1 a2).1 hc)
  · rw [if_neg h1] at h
    subst h
    exact ⟨ha, rfl, fun n _ _ h => h, fun u v _ _ hu _ _ _ _ => hu, fun _ q => absurd q h1⟩
theorem pre_eq_no {k : Int} {a b x y : V} (ha : a.ok = true) (hb : b.ok = true) (hw : b.w = a.w) (hx : NotR a b x) (hy : NotR b a y) : PreR 18 k a b false x y := by
  obtain ⟨x1, x2, x3, x4, x5⟩ := not_spec ha hb hw hx
  obtain ⟨y1, y2, y3, y4, y5⟩ := not_spec hb ha hw.symm hy
  refine ⟨x1, x2, x3, y1, y2, y3, fun u v u0 u1 hu v0 v1 hv q => ?_, fun q1 q2 q3 => ?_⟩
  · have e : ¬ u = v := by simpa [askV] using q
    exact ⟨x4 u v u0 u1 hu v0 v1 hv e, y4 v u v0 v1 hv u0 u1 hu (fun h => e h.symm)⟩
  · refine .inl (x5 q1 q2 ?_)
    simpa [askV] using q3
theorem pre_less {k : Int} {a b x y : V} (yes : Bool) (ha : a.ok = true) (hb : b.ok = true) (hk : isK k = true) (wa : a.w = ofW k) (wb : b.w = ofW k) {la ha' lb hb' : Int}
    (sa : SeenR k a la ha') (sb : SeenR k b lb hb')
    (hx : MeetR a (if yes then rangeV k (leastK k) (hb' - 1) else rangeV k lb (mostK k)) x) (hy : MeetR b (if yes then rangeV k (la + 1) (mostK k) else rangeV k (leastK k) ha') y) : PreR 19 k a b yes x y := by
  obtain ⟨al, al0, al1, al2, al3⟩ := sa.low
  obtain ⟨ah, ah0, ah1, ah2, ah3⟩ := sa.high
  obtain ⟨bl, bl0, bl1, bl2, bl3⟩ := sb.low
  obtain ⟨bh, bh0, bh1, bh2, bh3⟩ := sb.high
  have r1 := seen_range (k := k) al0 (by rw [← wa]; exact al1)
  have r2 := seen_range (k := k) ah0 (by rw [← wa]; exact ah1)
  have r3 := seen_range (k := k) bl0 (by rw [← wb]; exact bl1)
  have r4 := seen_range (k := k) bh0 (by rw [← wb]; exact bh1)
  refine ⟨hx.ok, hx.w, hx.left, hy.ok, hy.w, hy.left, fun u v u0 u1 hu v0 v1 hv q => ?_, fun q1 q2 q3 => ?_⟩
  · have su := sa.all u u0 u1 hu
    have sv := sb.all v v0 v1 hv
    have ru := seen_range (k := k) u0 (by rw [← wa]; exact u1)
    have rv := seen_range (k := k) v0 (by rw [← wb]; exact v1)
    cases yes
    · have e : ¬ seenV k u < seenV k v := by simpa [askV] using q
      simp only [Bool.false_eq_true, if_false] at hx hy
      refine ⟨hx.both u u0 u1 hu ((range_has u0 (by rw [← wa]; exact u1) (by omega) (by omega)).2 (by omega)), hy.both v v0 v1 hv ((range_has v0 (by rw [← wb]; exact v1) (by omega) (by omega)).2 (by omega))⟩
    · have e : seenV k u < seenV k v := by simpa [askV] using q
      simp only [if_true] at hx hy
      refine ⟨hx.both u u0 u1 hu ((range_has u0 (by rw [← wa]; exact u1) (by omega) (by omega)).2 (by omega)), hy.both v v0 v1 hv ((range_has v0 (by rw [← wb]; exact v1) (by omega) (by omega)).2 (by omega))⟩
  · obtain ⟨a1, a2, a3, a4⟩ := is1_mem ha q1
    obtain ⟨b1, b2, b3, b4⟩ := is1_mem hb q2
    have e1 := b4 bl bl0 bl1 bl2
    have e2 := b4 bh bh0 bh1 bh2
    subst e1
    refine .inl (void_one ha hx q1 ?_)
    cases yes
    · have e : seenV k (a.nextR 0) < seenV k (b.nextR 0) := by simpa [askV] using q3
      simp only [Bool.false_eq_true, if_false]
      cases h : (rangeV k lb (mostK k)).has (a.nextR 0) with
      | false => rfl
      | true =>
        have := (range_has a1 (by rw [← wa]; exact a2) (by omega) (by omega)).1 h
        omega
    · have e : ¬ seenV k (a.nextR 0) < seenV k (b.nextR 0) := by simpa [askV] using q3
      simp only [if_true]
      cases h : (rangeV k (leastK k) (hb' - 1)).has (a.nextR 0) with
      | false => rfl
      | true =>
        have := (range_has a1 (by rw [← wa]; exact a2) (by omega) (by omega)).1 h
        rw [e2] at bh3
        omega
end Go.Ax

/- Rows of numbers that are read, as memory grows. -/
namespace Go.Ax
open Go
set_option linter.unusedVariables false

def RdI (F : Fz) (M : Hp) (u : Value) (l : List Int) : Prop :=
  l.length ≤ 4611686018427387904 ∧ ∃ ad cap, u = .slice ad l.length cap ∧ (l = [] ∨ ∃ b o cs, ad = some ⟨b, o, none⟩ ∧ blk F M b = some cs ∧ ∀ i (hi : i < l.length), cs[o + i]? = some (intV l[i]))
/-- What can be read can be read later. -/
theorem blk_keep {F : Fz} {M M' : Hp} {b : Nat} {c : List Value} (h : blk F M b = some c) (kp : Keep M M') (hold : Old F M') : blk F M' b = some c := by
  unfold blk at h
  cases hm : M b with
  | some e => rw [hm] at h; rw [blk_M (kp _ _ hm)]; exact h
  | none => rw [hm] at h; exact hold.blk h
theorem RdI.keep {F : Fz} {M M' : Hp} {u : Value} {l : List Int} (h : RdI F M u l) (kp : Keep M M') (hold : Old F M') : RdI F M' u l := by
  obtain ⟨hl, ad, cap, rfl, h⟩ := h
  refine ⟨hl, ad, cap, rfl, ?_⟩
  rcases h with h | ⟨b, o, cs, h1, h2, h3⟩
  · exact .inl h
  · exact .inr ⟨b, o, cs, h1, blk_keep h2 kp hold, h3⟩
theorem RdV.keep {F : Fz} {M M' : Hp} {u : Value} {l : List V} (h : RdV F M u l) (kp : Keep M M') (hold : Old F M') : RdV F M' u l := by
  obtain ⟨hl, ad, cap, hc, rfl, h⟩ := h
  refine ⟨hl, ad, cap, hc, rfl, ?_⟩
  rcases h with h | ⟨b, o, cs, h1, h2, h3⟩
  · exact .inl h
  · exact .inr ⟨b, o, cs, h1, blk_keep h2 kp hold, h3⟩
theorem Old.free {F : Fz} {M : Hp} (h : Old F M) {b : Nat} {e : Ent} (hb : M b = some e) : F b = none := by
  cases hf : F b with
  | none => rfl
  | some c => have := h b (by rw [hf]; simp); rw [hb] at this; cases this
/-- A loop that is left is walked up to its end, where I is known. -/
theorem block_cut {P : Program} {c : SC} {Q : Post} {σ : Env} {F : Fz} {M : Hp} {i : Nat} (I : Env → Fz → Hp → Prop) (h : W P c (Post.inBlock i (cutQ I Q)) σ F M) (hn : ∀ σ F M, I σ F M → Q .n σ F M) : W P c (Post.inBlock i Q) σ F M :=
  W_mono (fun x σ F M hx => by
    cases x with
    | n => exact hn _ _ _ hx
    | r => exact hx
    | e j =>
      by_cases hj : j = i
      · subst hj
        rw [inBlock_same] at hx ⊢
        exact hn _ _ _ hx
      · rw [inBlock_ne hj] at hx ⊢
        exact hx) h
end Go.Ax
