/- What a set grows to, and how often it is another one; rows of sets as they are read. -/
import Derived.Test.YtplcaoidiohlmaaAx25
namespace Go.Ax
open Go
set_option linter.unusedVariables false
set_option linter.unusedSimpArgs false

def V.span (w l h : Int) : V := if l = h then V.just w l else ⟨w, false, l, h, mostV w, 0⟩
def stepPair (w n : Int) : List V := [V.span w 0 (2 ^ n.toNat - 1), V.span w ((-(2 ^ n.toNat)) % 2 ^ w.toNat) (2 ^ n.toNat - 1)]
def growNs : List Int := [4, 7, 8, 15, 16, 31, 32]
def growL (w : Int) : Nat → List V
  | 0 => []
  | k + 1 => growL w k ++ stepPair w (growNs.getD k 0)
/-- How many of the numbers are below the width. -/
def growK (w : Int) : Nat := if w = 8 then 2 else if w = 16 then 4 else 6
def growSteps (w : Int) : List V := growL w (growK w) ++ [V.whole w]
def V.out (a b : V) : V := if b.under a = true then a else if a.nextR 0 < 0 then b else ((growSteps a.w).find? fun x => a.under x && b.under x).getD (V.whole a.w)

theorem isW_cases {w : Int} (h : isW w = true) : w = 8 ∨ w = 16 ∨ w = 32 := by
  simp [isW] at h; omega
theorem steps_ok {w : Int} (h : isW w = true) : ∀ x ∈ growSteps w, x.ok = true ∧ x.w = w := by
  rcases isW_cases h with rfl | rfl | rfl <;> decide +kernel
theorem whole_mem (w : Int) : V.whole w ∈ growSteps w := by simp [growSteps]
theorem out_find {a b : V} (ha : a.ok = true) (hb : b.ok = true) (hw : b.w = a.w) (h1 : ¬ b.under a = true) (h2 : ¬ a.nextR 0 < 0) :
    ∃ x ∈ growSteps a.w, a.out b = x ∧ a.under x = true ∧ b.under x = true := by
  unfold V.out
  rw [if_neg h1, if_neg h2]
  cases hf : (growSteps a.w).find? fun x => a.under x && b.under x with
  | none =>
    have := List.find?_eq_none.1 hf _ (whole_mem a.w)
    have e1 : a.under (V.whole a.w) = true := under_all rfl
    have e2 : b.under (V.whole a.w) = true := under_all rfl
    rw [e1, e2] at this; simp at this
  | some x =>
    have h := List.find?_some hf
    simp at h
    exact ⟨x, List.mem_of_find?_eq_some hf, rfl, h.1, h.2⟩
structure OutR (a b z : V) : Prop where
  ok : z.ok = true
  w : z.w = a.w
  left : Sub a z
  right : Sub b z
theorem sub_refl (a : V) : Sub a a := fun n _ _ h => h
theorem sub_void {a b : V} (ha : a.ok = true) (h : a.nextR 0 < 0) : Sub a b := fun n h0 h1 hn => by
  rw [void_has ha h n h0 h1] at hn; cases hn
theorem sub_trans {a b c : V} (hw : b.w = a.w) (h : Sub a b) (k : Sub b c) : Sub a c := fun n h0 h1 hn => k n h0 (by rw [hw]; exact h1) (h n h0 h1 hn)
theorem out_spec {a b : V} (ha : a.ok = true) (hb : b.ok = true) (hw : b.w = a.w) : OutR a b (a.out b) := by
  by_cases h1 : b.under a = true
  · have e : a.out b = a := by unfold V.out; rw [if_pos h1]
    rw [e]
    exact ⟨ha, rfl, sub_refl a, under_sound hb ha hw h1⟩
  by_cases h2 : a.nextR 0 < 0
  · have e : a.out b = b := by unfold V.out; rw [if_neg h1, if_pos h2]
    rw [e]
    exact ⟨hb, hw, sub_void ha h2, sub_refl b⟩
  obtain ⟨x, hx, e, h3, h4⟩ := out_find ha hb hw h1 h2
  obtain ⟨ox, wx⟩ := steps_ok (ok_in ha).w x hx
  rw [e]
  exact ⟨ox, wx, under_sound ha ox wx.symm h3, under_sound hb ox (by rw [wx, hw]) h4⟩

/-! How often. -/
def growRk : List Nat := [2, 3, 3, 4, 4, 5, 5, 6, 6, 7, 7, 8]
def V.rank (v : V) : Nat := if v.nextR 0 < 0 then 0 else if v = V.whole v.w then 9 else ((((growSteps v.w).zip growRk).find? fun p => decide (p.1 = v)).map (·.2)).getD 1
def stepsTest (w : Int) : Bool := (growSteps w).all fun p => decide (2 ≤ p.rank) && (growSteps w).all fun q =>
  decide (p = V.whole w) || decide (p = q) || decide (p.rank < q.rank) || (p.has p.low && decide (0 ≤ p.low) && decide (p.low ≤ mostV w) && !q.has p.low) || (p.has p.high && decide (0 ≤ p.high) && decide (p.high ≤ mostV w) && !q.has p.high)
theorem steps_test {w : Int} (h : isW w = true) : stepsTest w = true := by
  rcases isW_cases h with rfl | rfl | rfl <;> decide +kernel
theorem rank_steps {w : Int} (h : isW w = true) {p : V} (hp : p ∈ growSteps w) : 2 ≤ p.rank := by
  have := List.all_eq_true.1 (steps_test h) p hp
  simp only [Bool.and_eq_true, decide_eq_true_eq] at this
  exact this.1
theorem rank_lt {w : Int} (h : isW w = true) {p q : V} (hp : p ∈ growSteps w) (hq : q ∈ growSteps w) (hu : p.under q = true) (hne : ¬ p = q) (hw : ¬ p = V.whole w) : p.rank < q.rank := by
  have := List.all_eq_true.1 (steps_test h) p hp
  simp only [Bool.and_eq_true, decide_eq_true_eq] at this
  have := List.all_eq_true.1 this.2 q hq
  obtain ⟨op, wp⟩ := steps_ok h p hp
  obtain ⟨oq, wq⟩ := steps_ok h q hq
  have hs := under_sound op oq (by rw [wp, wq]) hu
  simp only [Bool.or_eq_true, Bool.and_eq_true, decide_eq_true_eq, Bool.not_eq_true', or_assoc] at this
  rcases this with k | k | k | ⟨⟨⟨k1, k2⟩, k3⟩, k4⟩ | ⟨⟨⟨k1, k2⟩, k3⟩, k4⟩
  · exact absurd k hw
  · exact absurd k hne
  · exact k
  · rw [hs _ k2 (by rw [wp]; exact k3) k1] at k4; cases k4
  · rw [hs _ k2 (by rw [wp]; exact k3) k1] at k4; cases k4
theorem rk_of {v : V} {p : V × Nat} (h : ((growSteps v.w).zip growRk).find? (fun p => decide (p.1 = v)) = some p) : v ∈ growSteps v.w ∧ 2 ≤ p.2 ∧ p.2 ≤ 8 := by
  have h1 := List.find?_some h
  have h2 := List.mem_of_find?_eq_some h
  simp at h1
  obtain ⟨a, b⟩ := p
  simp only at h1
  subst h1
  have h3 := List.of_mem_zip h2
  refine ⟨h3.1, ?_⟩
  have : ∀ b ∈ growRk, 2 ≤ b ∧ b ≤ 8 := by decide
  exact this b h3.2
theorem rank_le (v : V) : v.rank ≤ 9 := by
  unfold V.rank
  split
  · omega
  split
  · omega
  cases h : ((growSteps v.w).zip growRk).find? (fun p => decide (p.1 = v)) with
  | none => simp
  | some p => have := rk_of h; simp; omega
theorem rank_pos {v : V} (h : ¬ v.nextR 0 < 0) : 1 ≤ v.rank := by
  unfold V.rank
  rw [if_neg h]
  split
  · omega
  cases h : ((growSteps v.w).zip growRk).find? (fun p => decide (p.1 = v)) with
  | none => simp
  | some p => have := rk_of h; simp; omega
theorem rank_other {v : V} (h : ¬ v ∈ growSteps v.w) : v.rank ≤ 1 := by
  unfold V.rank
  split
  · omega
  split
  · rename_i hv
    exact absurd (by rw [hv]; exact whole_mem v.w) h
  cases h : ((growSteps v.w).zip growRk).find? (fun p => decide (p.1 = v)) with
  | none => simp
  | some p => exact absurd (rk_of h).1 (by assumption)
theorem out_rank {a b : V} (ha : a.ok = true) (hb : b.ok = true) (hw : b.w = a.w) (hne : ¬ a.out b = a) : a.rank < (a.out b).rank := by
  have h1 : ¬ b.under a = true := fun h => hne (by unfold V.out; rw [if_pos h])
  by_cases h2 : a.nextR 0 < 0
  · have e : a.out b = b := by unfold V.out; rw [if_neg h1, if_pos h2]
    have : ¬ b.nextR 0 < 0 := fun h => h1 (under_none h)
    have := rank_pos this
    have r0 : a.rank = 0 := by unfold V.rank; rw [if_pos h2]
    rw [e]; omega
  obtain ⟨x, hx, e, h3, h4⟩ := out_find ha hb hw h1 h2
  rw [e] at hne ⊢
  have isw := (ok_in ha).w
  by_cases hm : a ∈ growSteps a.w
  · exact rank_lt isw hm hx h3 (fun h => hne h.symm) (fun h => h1 (under_all h))
  · have := rank_other hm
    have := rank_steps isw hx
    omega

/-- Behind a row, and how often it was another one. -/
def V.rows : V → List V → V × Nat
  | a, [] => (a, 0)
  | a, x :: l => ((V.rows (a.out x) l).1, (if a.out x = a then 0 else 1) + (V.rows (a.out x) l).2)
theorem rows_spec : ∀ (l : List V) (a : V), a.ok = true → (∀ x ∈ l, x.ok = true ∧ x.w = a.w) →
    (a.rows l).1.ok = true ∧ (a.rows l).1.w = a.w ∧ Sub a (a.rows l).1 ∧ (∀ x ∈ l, Sub x (a.rows l).1) ∧ a.rank + (a.rows l).2 ≤ (a.rows l).1.rank
  | [], a, ha, _ => ⟨ha, rfl, sub_refl a, by simp, by simp [V.rows]⟩
  | x :: l, a, ha, hl => by
    obtain ⟨ox, wx⟩ := hl x (by simp)
    have o := out_spec ha ox wx
    obtain ⟨i1, i2, i3, i4, i5⟩ := rows_spec l (a.out x) o.ok (fun y hy => by rw [o.w]; exact hl y (by simp [hy]))
    refine ⟨i1, by rw [← o.w]; exact i2, sub_trans o.w o.left i3, ?_, ?_⟩
    · intro y hy
      rcases List.mem_cons.1 hy with rfl | hy
      · exact sub_trans (by rw [o.w, wx]) o.right i3
      · exact i4 y hy
    · show a.rank + ((if a.out x = a then 0 else 1) + (V.rows (a.out x) l).2) ≤ (V.rows (a.out x) l).1.rank
      by_cases e : a.out x = a
      · rw [if_pos e]
        have : (a.out x).rank = a.rank := by rw [e]
        omega
      · have := out_rank ha ox wx e
        rw [if_neg e]; omega
theorem rows_few {l : List V} {a : V} (ha : a.ok = true) (hl : ∀ x ∈ l, x.ok = true ∧ x.w = a.w) : (a.rows l).2 ≤ 9 := by
  have := (rows_spec l a ha hl).2.2.2.2
  have := rank_le (a.rows l).1
  omega
theorem rows_app : ∀ (l k : List V) (a : V), a.rows (l ++ k) = (((a.rows l).1.rows k).1, (a.rows l).2 + ((a.rows l).1.rows k).2)
  | [], k, a => by simp [V.rows]
  | x :: l, k, a => by
    simp only [List.cons_append, V.rows]
    rw [rows_app l k (a.out x)]
    simp only [Nat.add_assoc]

attribute [go_sem] Option.map_none
theorem V.drop_app {v : V} {n : Nat} {l : List Value} : (v.cs ++ l).drop (n + 6) = l.drop n := rfl
theorem V.take_app {v : V} {n : Nat} {l : List Value} : (v.cs ++ l).take (n + 6) = v.cs ++ l.take n := rfl
/-! Rows of sets, read. -/
def RdV (F : Fz) (M : Hp) (u : Value) (l : List V) : Prop :=
  l.length ≤ 4611686018427387904 ∧ ∃ ad cap, l.length ≤ cap ∧ u = .slice ad l.length cap ∧ (l = [] ∨ ∃ b o cs, ad = some ⟨b, o, none⟩ ∧ blk F M b = some cs ∧ ∀ i (hi : i < l.length), o + i * 6 + 6 ≤ cs.length ∧ (cs.drop (o + i * 6)).take 6 = (l[i]).cs)
theorem flat_len (l : List V) : (l.flatMap V.cs).length = l.length * 6 := by
  induction l with
  | nil => rfl
  | cons x l ih => rw [List.flatMap_cons, List.length_append, ih, V.cs_len, List.length_cons]; omega
theorem flat_get : ∀ (l : List V) (i : Nat) (hi : i < l.length), ((l.flatMap V.cs).drop (i * 6)).take 6 = (l[i]).cs
  | [], i, hi => by simp at hi
  | x :: l, 0, hi => by simp [List.flatMap_cons, V.cs]
  | x :: l, i + 1, hi => by
    have := flat_get l i (by simpa using hi)
    rw [List.flatMap_cons, List.drop_append]
    have e : (i + 1) * 6 - x.cs.length = i * 6 := by rw [V.cs_len]; omega
    rw [e]
    have e2 : x.cs.drop ((i + 1) * 6) = [] := List.drop_eq_nil_of_le (by rw [V.cs_len]; omega)
    rw [e2]
    simpa using this
theorem rdV_flat {F : Fz} {M : Hp} {g : Nat} {l : List V} {cap : Nat} (hl : l.length ≤ 4611686018427387904) (hlc : l.length ≤ cap) (h : blk F M g = some (l.flatMap V.cs)) : RdV F M (.slice (some ⟨g, 0, none⟩) l.length cap) l :=
  ⟨hl, _, _, hlc, rfl, .inr ⟨g, 0, _, rfl, h, fun i hi => ⟨by rw [flat_len]; omega, by rw [Nat.zero_add]; exact flat_get l i hi⟩⟩⟩
theorem RdV.new {F : Fz} {M : Hp} {u : Value} {l : List V} (h : RdV F M u l) {r : Nat} {e : Ent} (hF : F r = none) (hM : M r = none) : RdV F (M.upd r e) u l := by
  obtain ⟨hl, ad, cap, hlc, rfl, h⟩ := h
  refine ⟨hl, ad, cap, hlc, rfl, ?_⟩
  rcases h with h | ⟨b, o, cs, h1, h2, h3⟩
  · exact .inl h
  · refine .inr ⟨b, o, cs, h1, ?_, h3⟩
    rw [blk_upd_ne]
    · exact h2
    · rintro rfl
      simp [blk, hM, hF] at h2
/-- A row of sets that the call made itself. -/
def OwnV (e : TypeId) (F : Fz) (M : Hp) (u : Value) (l : List V) : Prop :=
  u = .slice none 0 0 ∧ l = [] ∨ ∃ g cap, u = .slice (some ⟨g, 0, none⟩) l.length cap ∧ F g = none ∧ M g = some ⟨l.flatMap V.cs, e, cap * 6⟩ ∧ l.length ≤ cap ∧ cap ≤ maxLen
theorem OwnV.own {e : TypeId} {F : Fz} {M : Hp} {u : Value} {l : List V} (h : OwnV e F M u l) : Own M e 6 u l.length (l.flatMap V.cs) := by
  refine ⟨flat_len l, ?_⟩
  rcases h with ⟨h1, h2⟩ | ⟨g, cap, h1, h2, h3, h4, h5⟩
  · exact .inl ⟨h1, by rw [h2]; rfl⟩
  · exact .inr ⟨g, cap, h1, h3, h4, h5⟩
theorem OwnV.rd {e : TypeId} {F : Fz} {M : Hp} {u : Value} {l : List V} (h : OwnV e F M u l) (hl : l.length ≤ 4611686018427387904) : RdV F M u l := by
  rcases h with ⟨h1, h2⟩ | ⟨g, cap, h1, h2, h3, h4, h5⟩
  · subst h2; exact ⟨by simp, none, 0, by simp, h1, .inl rfl⟩
  · rw [h1]; exact rdV_flat hl h4 (blk_M h3)
theorem OwnV.new {e : TypeId} {F : Fz} {M : Hp} {u : Value} {l : List V} (h : OwnV e F M u l) {r : Nat} {x : Ent} (hM : M r = none) : OwnV e F (M.upd r x) u l := by
  rcases h with h | ⟨g, cap, h1, h2, h3, h4, h5⟩
  · exact .inl h
  · refine .inr ⟨g, cap, h1, h2, ?_, h4, h5⟩
    rw [Hp.upd_ne' (ne_of_none hM h3).1]; exact h3
theorem plain_flat (l : List V) : plainCells (l.flatMap V.cs) := by
  intro u hu
  obtain ⟨v, _, hv⟩ := List.mem_flatMap.1 hu
  have := V.cs_plain (v := v)
  exact (of_eq_true this) u hv
/-- More sets behind such a row. -/
theorem apV_of {P : Program} {s : Bool} {d : Option Nat} {l : List SO} {K : Env → Fz → Hp → Prop} {σ : Env} {F : Fz} {M : Hp} {e : TypeId} {v u : Value} {xs ys : List V}
    (h : OwnV e F M v xs) (hs : Src F M 6 u ys.length (ys.flatMap V.cs)) (hy : 0 < ys.length) (hb : xs.length + ys.length ≤ 1000000)
    (hk : ∀ g cap M', (M g = none ∨ ∃ c, v = .slice (some ⟨g, 0, none⟩) xs.length c) → M' = M.upd g ⟨(xs ++ ys).flatMap V.cs, e, cap * 6⟩ →
      OwnV e F M' (.slice (some ⟨g, 0, none⟩) (xs ++ ys).length cap) (xs ++ ys) → opsW P s l K (put σ d (.slice (some ⟨g, 0, none⟩) (xs ++ ys).length cap)) F M') :
    apK P s d l K σ F M e 6 48 (some v) (some u) := by
  refine apK_of h.own hs (plain_flat ys) (by simp only [maxLen]; omega) (by omega) ?_
  rintro v' M' (⟨_, h0, _⟩ | ⟨g, cap, hg, rfl, h1, h2, rfl⟩)
  · omega
  rw [← List.length_append, ← List.flatMap_append]
  have key : F g = none ∧ (M g = none ∨ ∃ c, v = .slice (some ⟨g, 0, none⟩) xs.length c) := by
    rcases hg with ⟨c, hx⟩ | ⟨hx, hy⟩
    · rcases h with ⟨h1, _⟩ | ⟨g', cap', h1, h2, _⟩
      · rw [h1] at hx; cases hx
      · rw [h1] at hx; cases hx; exact ⟨h2, .inr ⟨_, h1⟩⟩
    · exact ⟨hx, .inl hy⟩
  exact hk g cap _ key.2 rfl (.inr ⟨g, cap, rfl, key.1, Hp.upd_same _ _ _, by rw [List.length_append]; exact h1, h2⟩)
end Go.Ax
