/- What two sets have both. -/
import Derived.Test.YtplcaoidiohlmaaAx21
namespace Go.Ax
open Go
set_option linter.unusedVariables false
set_option linter.unusedSimpArgs false
set_option linter.unusedSectionVars false

/-- Where two ranges meet: what is told of it. -/
structure CrossP (a b : V) (l h : Int) : Prop where
  low : 0 ≤ l ∧ l ≤ mostV a.w
  high : 0 ≤ h ∧ h ≤ mostV a.w
  left : ∀ n, 0 ≤ n → n ≤ mostV a.w → (V.mk a.w false l h 0 0).within n = true → a.within n = true
  both : ∀ n, 0 ≤ n → n ≤ mostV a.w → a.within n = true → b.within n = true → (V.mk a.w false l h 0 0).within n = true

theorem inside_lin {a b : V} (ha : a.In) (hb : b.In) (hw : b.w = a.w) : a.inside b = true ↔ ∃ La Lb f : Int,
    (a.low ≤ a.high ∧ La = a.high - a.low ∨ a.high < a.low ∧ La = a.high - a.low + (mostV a.w + 1)) ∧
    (b.low ≤ b.high ∧ Lb = b.high - b.low ∨ b.high < b.low ∧ Lb = b.high - b.low + (mostV a.w + 1)) ∧
    (b.low ≤ a.low ∧ f = a.low - b.low ∨ a.low < b.low ∧ f = a.low - b.low + (mostV a.w + 1)) ∧ (Lb = mostV a.w ∨ f ≤ Lb ∧ La ≤ Lb - f) := by
  have g := ha.big
  have a1 := ha.low
  have a2 := ha.high
  have b1 := hb.low
  have b2 := hb.high
  rw [hw] at b1 b2
  have eL : a.len = if 0 ≤ a.high - a.low then a.high - a.low else a.high - a.low + (mostV a.w + 1) := by
    unfold V.len; rw [← g.1]; exact mod_of (by omega) (by omega) (by omega)
  have eB : b.len = if 0 ≤ b.high - b.low then b.high - b.low else b.high - b.low + (mostV a.w + 1) := by
    unfold V.len; rw [hw, ← g.1]; exact mod_of (by omega) (by omega) (by omega)
  have eF : a.from b = if 0 ≤ a.low - b.low then a.low - b.low else a.low - b.low + (mostV a.w + 1) := by
    unfold V.from; rw [← g.1]; exact mod_of (by omega) (by omega) (by omega)
  have hi : a.inside b = true ↔ b.len = mostV a.w ∨ a.from b ≤ b.len ∧ a.len ≤ b.len - a.from b := by
    unfold V.inside; rw [hw]; simp
  rw [hi]
  constructor
  · intro h
    refine ⟨a.len, b.len, a.from b, ?_, ?_, ?_, h⟩
    · rw [eL]; split <;> omega
    · rw [eB]; split <;> omega
    · rw [eF]; split <;> omega
  · rintro ⟨La, Lb, f, h1, h2, h3, h4⟩
    have k1 : a.len = La := by rw [eL]; split <;> omega
    have k2 : b.len = Lb := by rw [eB]; split <;> omega
    have k3 : a.from b = f := by rw [eF]; split <;> omega
    rw [k1, k2, k3]; exact h4
theorem within_lin {v : V} {n : Int} : v.within n = true ↔ (v.low ≤ v.high ∧ v.low ≤ n ∧ n ≤ v.high) ∨ (v.high < v.low ∧ (v.low ≤ n ∨ n ≤ v.high)) := by
  unfold V.within
  split <;> simp <;> omega
theorem not_inside {a b : V} (ha : a.In) (hb : b.In) (hw : b.w = a.w) (h : a.inside b = false) {La Lb f : Int}
    (h1 : a.low ≤ a.high ∧ La = a.high - a.low ∨ a.high < a.low ∧ La = a.high - a.low + (mostV a.w + 1))
    (h2 : b.low ≤ b.high ∧ Lb = b.high - b.low ∨ b.high < b.low ∧ Lb = b.high - b.low + (mostV a.w + 1))
    (h3 : b.low ≤ a.low ∧ f = a.low - b.low ∨ a.low < b.low ∧ f = a.low - b.low + (mostV a.w + 1)) : ¬ (Lb = mostV a.w ∨ f ≤ Lb ∧ La ≤ Lb - f) := by
  intro h4
  rw [(inside_lin ha hb hw).2 ⟨La, Lb, f, h1, h2, h3, h4⟩] at h
  cases h
theorem arc_ex (l h N : Int) : ∃ L, l ≤ h ∧ L = h - l ∨ h < l ∧ L = h - l + N := by
  by_cases e : l ≤ h
  · exact ⟨_, .inl ⟨e, rfl⟩⟩
  · exact ⟨_, .inr ⟨by omega, rfl⟩⟩

section
variable {a b : V} (ha : a.In) (hb : b.In) (hw : b.w = a.w)
include ha hb hw
theorem cross_a (h : a.inside b = true) : CrossP a b a.low a.high :=
  ⟨ha.low, ha.high, fun n _ _ h => by rw [← h]; exact within_same rfl rfl n, fun n _ _ h _ => by rw [← h]; exact within_same rfl rfl n⟩
theorem cross_b (h : b.inside a = true) : CrossP a b b.low b.high := by
  have b1 := hb.low
  have b2 := hb.high
  rw [hw] at b1 b2
  refine ⟨b1, b2, fun n h0 h1 hn => ?_, fun n _ _ _ hn => by rw [← hn]; exact within_same rfl rfl n⟩
  refine inside_sound hb ha hw h h0 (by rw [hw]; exact h1) ?_
  rw [← hn]; exact within_same rfl rfl n
theorem cross_c : CrossP a b a.low a.high :=
  ⟨ha.low, ha.high, fun n _ _ h => by rw [← h]; exact within_same rfl rfl n, fun n _ _ h _ => by rw [← h]; exact within_same rfl rfl n⟩
theorem cross_d (h1 : b.inside a = false) (h2 : b.within a.low = true) (h3 : b.within a.high = false) : CrossP a b a.low b.high := by
  have a1 := ha.low
  have a2 := ha.high
  have b1 := hb.low
  have b2 := hb.high
  rw [hw] at b1 b2
  have h3' : ¬ b.within a.high = true := by rw [h3]; simp
  rw [within_lin] at h2 h3'
  refine ⟨a1, b2, fun n g0 g1 hn => ?_, fun n g0 g1 hn hn2 => ?_⟩
  · rw [within_lin] at hn ⊢
    simp only at hn
    omega
  · rw [within_lin] at hn hn2 ⊢
    simp only
    omega
theorem cross_e (h1 : b.inside a = false) (h2 : b.within a.low = false) (h3 : b.within a.high = true) : CrossP a b b.low a.high := by
  have a1 := ha.low
  have a2 := ha.high
  have b1 := hb.low
  have b2 := hb.high
  rw [hw] at b1 b2
  have h2' : ¬ b.within a.low = true := by rw [h2]; simp
  rw [within_lin] at h3 h2'
  refine ⟨b1, a2, fun n g0 g1 hn => ?_, fun n g0 g1 hn hn2 => ?_⟩
  · rw [within_lin] at hn ⊢
    simp only at hn
    omega
  · rw [within_lin] at hn hn2 ⊢
    simp only
    omega
theorem cross_f (h1 : b.inside a = false) (h2 : b.within a.low = false) (h3 : b.within a.high = false) : ∀ n, 0 ≤ n → n ≤ mostV a.w → a.within n = true → b.within n = true → False := by
  have a1 := ha.low
  have a2 := ha.high
  have b1 := hb.low
  have b2 := hb.high
  rw [hw] at b1 b2
  have h2' : ¬ b.within a.low = true := by rw [h2]; simp
  have h3' : ¬ b.within a.high = true := by rw [h3]; simp
  rw [within_lin] at h2' h3'
  intro n g0 g1 hn hn2
  rw [within_lin] at hn hn2
  obtain ⟨La, q1⟩ := arc_ex b.low b.high (mostV b.w + 1)
  obtain ⟨Lb, q2⟩ := arc_ex a.low a.high (mostV b.w + 1)
  obtain ⟨f, q3⟩ := arc_ex a.low b.low (mostV b.w + 1)
  have := not_inside hb ha hw.symm h1 q1 q2 (by omega : a.low ≤ b.low ∧ f = b.low - a.low ∨ b.low < a.low ∧ f = b.low - a.low + (mostV b.w + 1))
  rw [hw] at *
  omega
end
end Go.Ax
