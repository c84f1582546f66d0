/- The next member is the least one: what is found, and that none is left out. -/
import Derived.Test.YtplcaoidiohlmaaAx16
namespace Go.Ax
open Go
set_option linter.unusedVariables false
set_option linter.unusedSimpArgs false

theorem hi_bit : ∀ (w n y : Nat), n < y → y < 2 ^ w → ∃ j, j < w ∧ n.testBit j = false ∧ y.testBit j = true ∧ ∀ i, j < i → n.testBit i = y.testBit i
  | 0, n, y, h, hy => by simp at hy; omega
  | w + 1, n, y, h, hy => by
    by_cases hh : n / 2 < y / 2
    · obtain ⟨j, h1, h2, h3, h4⟩ := hi_bit w (n / 2) (y / 2) hh (by rw [Nat.pow_succ] at hy; omega)
      refine ⟨j + 1, by omega, by rw [Nat.testBit_succ]; exact h2, by rw [Nat.testBit_succ]; exact h3, fun i hi => ?_⟩
      obtain ⟨k, rfl⟩ : ∃ k, i = k + 1 := ⟨i - 1, by omega⟩
      rw [Nat.testBit_succ, Nat.testBit_succ]
      exact h4 k (by omega)
    · refine ⟨0, by omega, ?_, ?_, fun i hi => ?_⟩
      · rw [Nat.testBit_zero]; simp; omega
      · rw [Nat.testBit_zero]; simp; omega
      · obtain ⟨k, rfl⟩ : ∃ k, i = k + 1 := ⟨i - 1, by omega⟩
        rw [Nat.testBit_succ, Nat.testBit_succ, show n / 2 = y / 2 by omega]
theorem lt_of_bit : ∀ (j n y : Nat), n.testBit j = false → y.testBit j = true → (∀ i, j < i → n.testBit i = y.testBit i) → n < y
  | 0, n, y, h1, h2, h3 => by
    have e : n / 2 = y / 2 := by
      apply Nat.eq_of_testBit_eq
      intro i
      rw [← Nat.testBit_succ, ← Nat.testBit_succ]
      exact h3 (i + 1) (by omega)
    rw [Nat.testBit_zero] at h1 h2
    simp at h1 h2
    omega
  | j + 1, n, y, h1, h2, h3 => by
    rw [Nat.testBit_succ] at h1 h2
    have := lt_of_bit j (n / 2) (y / 2) h1 h2 (fun i hi => by rw [← Nat.testBit_succ, ← Nat.testBit_succ]; exact h3 (i + 1) (by omega))
    omega
theorem le_of_bits {x y : Nat} (h : ∀ i, x.testBit i = true → y.testBit i = true) : x ≤ y := by
  have e : x &&& y = x := by
    apply Nat.eq_of_testBit_eq
    intro i
    rw [Nat.testBit_and]
    cases hx : x.testBit i
    · rfl
    · rw [h i hx]; rfl
  rw [← e]
  exact Nat.and_le_right

/-- The number that a round at bit j finds. -/
def atBit (b n j : Nat) : Nat := ((n >>> (j + 1)) <<< (j + 1) ||| 2 ^ j) ||| (b &&& (2 ^ j - 1))
theorem atBit_bit (b n j i : Nat) : (atBit b n j).testBit i = if j < i then n.testBit i else if j = i then true else b.testBit i := by
  simp only [atBit, Nat.testBit_or, Nat.testBit_and, Nat.testBit_two_pow_sub_one, Nat.testBit_two_pow, Nat.testBit_shiftLeft, Nat.testBit_shiftRight]
  by_cases h1 : j < i
  · simp [h1, show ¬ j = i by omega, show ¬ i < j by omega, show j + 1 ≤ i by omega, show j + 1 + (i - (j + 1)) = i by omega]
  · by_cases h2 : j = i
    · simp [h2]
    · simp [h1, h2, show i < j by omega, show ¬ j + 1 ≤ i by omega]

def fits (f b x : Nat) : Prop := clr x f = b
theorem fits_bit {f b x : Nat} (h : fits f b x) (i : Nat) : (x.testBit i && !f.testBit i) = b.testBit i := by
  rw [← clr_bit]; exact congrArg (fun y => y.testBit i) h

section
variable {f b : Nat} (hbf : b &&& f = 0)
include hbf
theorem apart_bit (i : Nat) (h : b.testBit i = true) : f.testBit i = false := by
  have := congrArg (fun y => y.testBit i) hbf
  simp only [Nat.testBit_and, h, Bool.true_and, Nat.zero_testBit] at this
  exact this
theorem mS_fits {n j x : Nat} (h : mS f b n j = some x) : x = atBit b n j ∧ fits f b x ∧ n < x := by
  unfold mS at h
  split at h
  · rename_i hc
    obtain ⟨h1, h2, h3⟩ := hc
    have e : x = atBit b n j := by simpa [atBit] using h.symm
    rw [shr_zero] at h1
    refine ⟨e, ?_, ?_⟩
    · apply Nat.eq_of_testBit_eq
      intro i
      rw [clr_bit, e, atBit_bit]
      by_cases g1 : j < i
      · have := h1 i (by omega)
        simp only [Nat.testBit_xor, clr_bit] at this
        simp [g1]
        revert this
        cases (n.testBit i && !f.testBit i) <;> cases b.testBit i <;> simp
      · by_cases g2 : j = i
        · subst g2
          simp
          rcases h3 with h3 | h3
          · cases hb : b.testBit j
            · simp [h3]
            · rw [apart_bit hbf j hb] at h3; cases h3
          · rw [h3, apart_bit hbf j h3]; rfl
        · simp [g1, g2]
          exact apart_bit hbf i
    · refine lt_of_bit j n x h2 ?_ ?_
      · rw [e, atBit_bit]; simp
      · intro i hi
        rw [e, atBit_bit]; simp [hi]
  · cases h
omit hbf in
/-- Whatever fits above n is found at its highest new bit, or lies above what is found there. -/
theorem fits_above {n y w : Nat} (hy : fits f b y) (hn : n < y) (hw : y < 2 ^ w) : ∃ j, j < w ∧ mS f b n j = some (atBit b n j) ∧ atBit b n j ≤ y ∧ n.testBit j = false ∧ y.testBit j = true ∧ ∀ i, j < i → n.testBit i = y.testBit i := by
  obtain ⟨j, h1, h2, h3, h4⟩ := hi_bit w n y hn hw
  refine ⟨j, h1, ?_, ?_, h2, h3, h4⟩
  · unfold mS
    rw [if_pos]
    · rfl
    · refine ⟨shr_zero.2 fun i hi => ?_, h2, ?_⟩
      · have := fits_bit hy i
        rw [← h4 i (by omega)] at this
        rw [Nat.testBit_xor, clr_bit, this]; simp
      · have := fits_bit hy j
        rw [h3] at this
        cases hf : f.testBit j
        · right; rw [hf] at this; simpa using this.symm
        · left; rfl
  · apply le_of_bits
    intro i hi
    rw [atBit_bit] at hi
    by_cases g1 : j < i
    · rw [if_pos g1, h4 i g1] at hi; exact hi
    · by_cases g2 : j = i
      · subst g2; exact h3
      · rw [if_neg g1, if_neg g2] at hi
        have := fits_bit hy i
        rw [hi] at this
        revert this
        cases y.testBit i <;> simp
/-- The least bit's number is the least number. -/
theorem least_bit {n y j j' x : Nat} (h : mS f b n j = some x) (hj : j < j') (h2 : n.testBit j' = false) (h3 : y.testBit j' = true) (h4 : ∀ i, j' < i → n.testBit i = y.testBit i) : x < y := by
  obtain ⟨e, _, _⟩ := mS_fits hbf h
  refine lt_of_bit j' x y ?_ h3 ?_
  · rw [e, atBit_bit, if_pos hj]; exact h2
  · intro i hi
    rw [e, atBit_bit, if_pos (by omega)]; exact h4 i hi
end

theorem matchGo_spec {v : V} {f b n : Nat} (hf : v.free = f) (hb : v.bits = b) (f1 : f < 2 ^ 62) (b1 : b < 2 ^ 62) (n1 : n < 2 ^ 62) : ∀ m j : Nat, m + j ≤ 62 →
    (∃ (x i : Nat), v.matchGo n m j = x ∧ j ≤ i ∧ i < m + j ∧ mS f b n i = some x ∧ ∀ k, j ≤ k → k < i → mS f b n k = none) ∨ (v.matchGo n m j = -1 ∧ ∀ k, j ≤ k → k < m + j → mS f b n k = none)
  | 0, j, _ => .inr ⟨rfl, fun k h1 h2 => by omega⟩
  | m + 1, j, h => by
    simp only [V.matchGo]
    rw [matchStep_nat hf hb f1 b1 n1 (by omega)]
    cases hs : mS f b n j with
    | some x => exact .inl ⟨x, j, rfl, Nat.le_refl _, by omega, hs, fun k h1 h2 => by omega⟩
    | none =>
      rcases matchGo_spec hf hb f1 b1 n1 m (j + 1) (by omega) with ⟨x, i, h1, h2, h3, h4, h5⟩ | ⟨h1, h2⟩
      · refine .inl ⟨x, i, h1, by omega, by omega, h4, fun k g1 g2 => ?_⟩
        by_cases e : k = j
        · subst e; exact hs
        · exact h5 k (by omega) g2
      · refine .inr ⟨h1, fun k g1 g2 => ?_⟩
        by_cases e : k = j
        · subst e; exact hs
        · exact h2 k (by omega) (by omega)

/-- What the page's match finds: the least number from n on that fits, or that there is none. -/
theorem matchF_spec {v : V} {f b n : Nat} (hf : v.free = f) (hb : v.bits = b) (hw : v.w.toNat ≤ 62) (f1 : f < 2 ^ v.w.toNat) (b1 : b < 2 ^ v.w.toNat) (hbf : b &&& f = 0) (n1 : n < 2 ^ v.w.toNat) :
    (∃ x : Nat, v.matchF n = x ∧ n ≤ x ∧ fits f b x ∧ ∀ y, n ≤ y → y < x → ¬ fits f b y) ∨ (v.matchF n = -1 ∧ ∀ y, n ≤ y → y < 2 ^ v.w.toNat → ¬ fits f b y) := by
  have hp : 2 ^ v.w.toNat ≤ 2 ^ 62 := Nat.pow_le_pow_right (by decide) hw
  unfold V.matchF
  rw [hf, hb, bclr_nat (by omega) (by omega)]
  by_cases h0 : clr n f = b
  · rw [if_pos (by rw [h0])]
    exact .inl ⟨n, rfl, Nat.le_refl _, h0, fun y h1 h2 => by omega⟩
  · rw [if_neg (fun e => h0 (Int.ofNat_inj.1 e))]
    rcases matchGo_spec (n := n) hf hb (by omega) (by omega) (by omega) v.w.toNat 0 (by omega) with ⟨x, i, h1, h2, h3, h4, h5⟩ | ⟨h1, h2⟩
    · obtain ⟨e, hx, hlt⟩ := mS_fits hbf h4
      refine .inl ⟨x, h1, by omega, hx, fun y g1 g2 hy => ?_⟩
      have gy : n < y := by
        rcases Nat.lt_or_ge n y with h | h
        · exact h
        · have : n = y := by omega
          subst this; exact absurd hy h0
      have x62 : x < 2 ^ 62 := by
        rw [e, atBit]
        have p1 : 2 ^ i < 2 ^ 62 := Nat.pow_lt_pow_right (by decide) (by omega)
        exact Nat.or_lt_two_pow (Nat.or_lt_two_pow (Nat.lt_of_le_of_lt (shl_shr_le n (i + 1)) (by omega)) p1) (Nat.lt_of_le_of_lt Nat.and_le_left (by omega))
      obtain ⟨j, k1, k2, k3, k4, k5, k6⟩ := fits_above hy gy (w := 62) (by omega)
      by_cases hji : j < i
      · rw [h5 j (by omega) hji] at k2; cases k2
      · by_cases e2 : j = i
        · subst e2; rw [← e] at k3; omega
        · have := least_bit hbf h4 (by omega) k4 k5 k6
          omega
    · refine .inr ⟨h1, fun y g1 g2 hy => ?_⟩
      have gy : n < y := by
        rcases Nat.lt_or_ge n y with h | h
        · exact h
        · have : n = y := by omega
          subst this; exact absurd hy h0
      obtain ⟨j, k1, k2, _⟩ := fits_above hy gy g2
      rw [h2 j (by omega) (by omega)] at k2; cases k2
end Go.Ax
