/- The program's least number that fits is the page's. -/
import Derived.Test.YtplcaoidiohlmaaAx15
namespace Go.Ax
open Go
set_option linter.unusedVariables false
set_option linter.unusedSimpArgs false

theorem natPow (j : Nat) : (2 : Int) ^ j = ((2 ^ j : Nat) : Int) := by simp
theorem natMost (j : Nat) : (2 : Int) ^ j - 1 = ((2 ^ j - 1 : Nat) : Int) := by
  have : 1 ≤ 2 ^ j := Nat.one_le_two_pow
  rw [natPow]
  generalize 2 ^ j = q at *
  omega
theorem pow62 {j : Nat} (hj : j ≤ 62) : 2 ^ j < 2 ^ 63 := Nat.pow_lt_pow_right (by decide) (by omega)
theorem shrv_nat {n j : Nat} (hj : j ≤ 62) : shrv .i64 (n : Int) (j : Int) = ((n >>> j : Nat) : Int) := by
  unfold shrv
  have e : min ((j : Int).toNat) IntKind.i64.bits = j := by simp [IntKind.bits]; omega
  rw [e, natPow, Nat.shiftRight_eq_div_pow, Int.fdiv_eq_ediv_of_nonneg _ (Int.natCast_nonneg _)]
  simp
theorem shlv_nat {n j : Nat} (hj : j ≤ 62) (h : n <<< j < 2 ^ 63) : shlv .i64 (n : Int) (j : Int) = ((n <<< j : Nat) : Int) := by
  unfold shlv
  have e : min ((j : Int).toNat) IntKind.i64.bits = j := by simp [IntKind.bits]; omega
  rw [e, natPow, ← wrap_nat h, Nat.shiftLeft_eq]
  simp

theorem bit_and_one {n j : Nat} : (n >>> j) &&& 1 = 0 ↔ n.testBit j = false := by
  rw [Nat.testBit, Nat.and_comm]; simp
theorem bit_and_one' {n j : Nat} : (n >>> j) &&& 1 = 1 ↔ n.testBit j = true := by
  rw [Nat.and_one_is_mod, Nat.testBit, Nat.and_comm, Nat.and_one_is_mod]; simp
theorem bit_and_pow {n j : Nat} : n &&& 2 ^ j = 0 ↔ n.testBit j = false := by
  constructor
  · intro h
    have := congrArg (fun y => y.testBit j) h
    simpa [Nat.testBit_two_pow] using this
  · intro h
    apply Nat.eq_of_testBit_eq
    intro i
    rw [Nat.testBit_and, Nat.testBit_two_pow, Nat.zero_testBit]
    by_cases e : j = i
    · subst e; simp [h]
    · simp [e]

/-- A round at a bit: the page's, in natural numbers. -/
def mS (f b n j : Nat) : Option Nat :=
  if (clr n f ^^^ b) >>> (j + 1) = 0 ∧ n.testBit j = false ∧ (f.testBit j = true ∨ b.testBit j = true) then
    some (((n >>> (j + 1)) <<< (j + 1) ||| 2 ^ j) ||| (b &&& (2 ^ j - 1)))
  else none

theorem shr_zero {x j : Nat} : x >>> j = 0 ↔ ∀ i, j ≤ i → x.testBit i = false := by
  constructor
  · intro h i hi
    have := congrArg (fun y => y.testBit (i - j)) h
    simp only [Nat.testBit_shiftRight, Nat.zero_testBit] at this
    rw [show j + (i - j) = i by omega] at this
    exact this
  · intro h
    apply Nat.eq_of_testBit_eq
    intro i
    rw [Nat.testBit_shiftRight, Nat.zero_testBit]
    exact h _ (by omega)

theorem shl_shr_le (n j : Nat) : (n >>> j) <<< j ≤ n := by
  rw [Nat.shiftLeft_eq, Nat.shiftRight_eq_div_pow]
  exact Nat.div_mul_le_self _ _

theorem matchStep_nat {v : V} {f b n j : Nat} (hf : v.free = f) (hb : v.bits = b) (f1 : f < 2 ^ 62) (b1 : b < 2 ^ 62) (n1 : n < 2 ^ 62) (hj : j < 62) :
    v.matchStep n j = (mS f b n j).map Int.ofNat := by
  have c1 : clr n f < 2 ^ 62 := Nat.lt_of_le_of_lt (clr_le _ _) n1
  have p1 : 2 ^ j < 2 ^ 62 := Nat.pow_lt_pow_right (by decide) hj
  have s1 := Nat.lt_of_le_of_lt (shl_shr_le n (j + 1)) n1
  have x1 : clr n f ^^^ b < 2 ^ 62 := Nat.xor_lt_two_pow c1 b1
  have r1 := Nat.or_lt_two_pow s1 p1
  unfold V.matchStep mS
  rw [hf, hb, show ((j : Int) + 1) = ((j + 1 : Nat) : Int) by simp, bclr_nat (by omega) (by omega), bxor_nat (by omega) (by omega), shrv_nat (by omega), shrv_nat (by omega),
    shrv_nat (by omega), shrv_nat (by omega), shrv_nat (by omega), natMost, natPow,
    show (1 : Int) = ((1 : Nat) : Int) from rfl,
    band_nat (Nat.lt_of_le_of_lt (Nat.shiftRight_le _ _) (by omega)) (by decide), band_nat (Nat.lt_of_le_of_lt (Nat.shiftRight_le _ _) (by omega)) (by decide),
    band_nat (Nat.lt_of_le_of_lt (Nat.shiftRight_le _ _) (by omega)) (by decide), band_nat (by omega) (by omega),
    shlv_nat (by omega) (by omega), bor_nat (by omega) (by omega), bor_nat (by omega) (Nat.lt_of_le_of_lt Nat.and_le_left (by omega))]
  simp only [Int.natCast_eq_zero, Int.ofNat_inj, bit_and_one, bit_and_one']
  split <;> rfl

theorem high_eq {n j : Nat} (h : n.testBit j = false) : clr n (2 ^ j - 1) ||| 2 ^ j = (n >>> (j + 1)) <<< (j + 1) ||| 2 ^ j := by
  apply Nat.eq_of_testBit_eq
  intro i
  simp only [Nat.testBit_or, clr_bit, Nat.testBit_two_pow_sub_one, Nat.testBit_two_pow, Nat.testBit_shiftLeft, Nat.testBit_shiftRight]
  by_cases h1 : j = i
  · simp [h1]
  · by_cases h2 : i < j
    · simp [h1, h2]; omega
    · have : j + 1 ≤ i := by omega
      simp [h1, h2, this, show j + 1 + (i - (j + 1)) = i by omega]

theorem fill_cond {f b n j : Nat} (hbf : b &&& f = 0) (h : n.testBit j = false) :
    clr (clr (clr n (2 ^ j - 1) ||| 2 ^ j) f) (2 ^ j - 1) = clr b (2 ^ j - 1) ↔ (clr n f ^^^ b) >>> (j + 1) = 0 ∧ (f.testBit j = true ∨ b.testBit j = true) := by
  have hbf' : ∀ i, b.testBit i = true → f.testBit i = false := by
    intro i hi
    have := congrArg (fun y => y.testBit i) hbf
    simp only [Nat.testBit_and, hi, Bool.true_and, Nat.zero_testBit] at this
    exact this
  constructor
  · intro he
    have key : ∀ i, _ := fun i => congrArg (fun y => y.testBit i) he
    simp only [Nat.testBit_or, clr_bit, Nat.testBit_two_pow_sub_one, Nat.testBit_two_pow] at key
    refine ⟨shr_zero.2 fun i hi => ?_, ?_⟩
    · have := key i
      have h1 : ¬ i < j := by omega
      have h2 : ¬ j = i := by omega
      simp [h1, h2] at this
      simp [Nat.testBit_xor, clr_bit, this]
    · have := key j
      simp at this
      cases hf : f.testBit j
      · right; rw [hf] at this; simpa using this.symm
      · left; rfl
  · rintro ⟨h1, h2⟩
    rw [shr_zero] at h1
    apply Nat.eq_of_testBit_eq
    intro i
    simp only [Nat.testBit_or, clr_bit, Nat.testBit_two_pow_sub_one, Nat.testBit_two_pow]
    by_cases a : i < j
    · simp [a]
    by_cases e : j = i
    · subst e
      simp
      rcases h2 with h2 | h2
      · rw [h2]
        cases hb : b.testBit j
        · rfl
        · rw [hbf' j hb] at h2; cases h2
      · rw [h2, hbf' j h2]; rfl
    · have := h1 i (by omega)
      simp only [Nat.testBit_xor, clr_bit] at this
      simp [a, e]
      revert this
      cases (n.testBit i && !f.testBit i) <;> cases b.testBit i <;> simp

theorem fillStep_nat {v : V} {f b n j : Nat} (hf : v.free = f) (hb : v.bits = b) (f1 : f < 2 ^ 62) (b1 : b < 2 ^ 62) (n1 : n < 2 ^ 62) (hj : j < 62) (hbf : b &&& f = 0) :
    v.fillStep n j = (mS f b n j).map Int.ofNat := by
  have p1 : 2 ^ j < 2 ^ 62 := Nat.pow_lt_pow_right (by decide) hj
  have c1 : clr n (2 ^ j - 1) < 2 ^ 62 := Nat.lt_of_le_of_lt (clr_le _ _) n1
  have r1 := Nat.or_lt_two_pow c1 p1
  have r2 := clr_le (clr n (2 ^ j - 1) ||| 2 ^ j) f
  unfold V.fillStep mS
  rw [hf, hb, natMost, natPow, band_nat (by omega) (by omega), bclr_nat (by omega) (by omega), bor_nat (by omega) (by omega), bclr_nat (by omega) (by omega), bclr_nat (by omega) (by omega),
    bclr_nat (by omega) (by omega), band_nat (by omega) (by omega), bor_nat (by omega) (Nat.lt_of_le_of_lt Nat.and_le_left (by omega))]
  simp only [Int.natCast_eq_zero, Int.ofNat_inj, bit_and_pow]
  by_cases hn : n.testBit j = false
  · rw [high_eq hn]
    have := fill_cond hbf hn
    rw [high_eq hn] at this
    simp only [hn, this, true_and]
    split <;> rfl
  · simp [hn]

theorem fillGo_eq {v : V} {f b n : Nat} (hf : v.free = f) (hb : v.bits = b) (f1 : f < 2 ^ 62) (b1 : b < 2 ^ 62) (n1 : n < 2 ^ 62) (hbf : b &&& f = 0) :
    ∀ m j : Nat, m + j ≤ 62 → v.fillGo n m j = v.matchGo n m j
  | 0, _, _ => rfl
  | m + 1, j, h => by
    simp only [V.fillGo, V.matchGo]
    rw [fillStep_nat hf hb f1 b1 n1 (by omega) hbf, matchStep_nat hf hb f1 b1 n1 (by omega), fillGo_eq hf hb f1 b1 n1 hbf m (j + 1) (by omega)]
theorem ok_nat {v : V} (h : v.ok = true) (hno : v.no = false) : ∃ l g f b : Nat, v.low = l ∧ v.high = g ∧ v.free = f ∧ v.bits = b ∧ l < 2 ^ v.w.toNat ∧ g < 2 ^ v.w.toNat ∧ f < 2 ^ v.w.toNat ∧ b < 2 ^ v.w.toNat ∧ b &&& f = 0 ∧ 2 ^ v.w.toNat ≤ 2 ^ 62 := by
  have hw : isW v.w = true := by simp [V.ok] at h; exact h.1
  have hl := isW_le hw
  simp [V.ok, hw, hno] at h
  obtain ⟨⟨⟨⟨h1, h2⟩, h3⟩, h4⟩, h5⟩ := h
  obtain ⟨l, e1, g1⟩ := isN_nat hl.1 h1
  obtain ⟨g, e2, g2⟩ := isN_nat hl.1 h2
  obtain ⟨f, e3, g3⟩ := isN_nat hl.1 h3
  obtain ⟨b, e4, g4⟩ := isN_nat hl.1 h4
  have hp : 2 ^ v.w.toNat ≤ 2 ^ 62 := Nat.pow_le_pow_right (by decide) (by omega)
  refine ⟨l, g, f, b, e1, e2, e3, e4, g1, g2, g3, g4, ?_, hp⟩
  rw [e3, e4, band_nat (by omega) (by omega)] at h5
  omega
theorem fillF_eq {v : V} (h : v.ok = true) (hno : v.no = false) {n : Int} (h0 : 0 ≤ n) (h1 : n ≤ mostV v.w) : v.fillF n = v.matchF n := by
  obtain ⟨l, g, f, b, e1, e2, e3, e4, g1, g2, g3, g4, hbf, hp⟩ := ok_nat h hno
  have hw : isW v.w = true := by simp [V.ok] at h; exact h.1
  have hl := isW_le hw
  obtain ⟨k, rfl, hk⟩ := isN_nat (n := n) hl.1 (by simp [isN, h0, h1])
  unfold V.fillF V.matchF
  rw [fillGo_eq e3 e4 (by omega) (by omega) (by omega) hbf _ _ (by omega)]
theorem tryP_out {v : V} {n : Int} {p : Int × Int} (h : p.2 < n ∨ ¬ 0 ≤ v.matchF (mx n p.1) ∨ ¬ v.matchF (mx n p.1) ≤ p.2) : v.tryP n p = none := by
  unfold V.tryP
  rcases h with h | h | h
  · rw [if_pos (by unfold mx; split <;> omega)]
  · rw [if_neg (c := 0 ≤ _ ∧ _) (by omega)]; simp
  · rw [if_neg (c := 0 ≤ _ ∧ _) (by omega)]; simp
theorem tryP_hit {v : V} {n : Int} {p : Int × Int} (h : mx n p.1 ≤ p.2) (h1 : 0 ≤ v.matchF (mx n p.1)) (h2 : v.matchF (mx n p.1) ≤ p.2) : v.tryP n p = some (v.matchF (mx n p.1)) := by
  rw [V.tryP, if_neg (by omega), if_pos ⟨h1, h2⟩]
theorem tryP_void {v : V} {n : Int} : v.tryP n (0, -1) = none := by
  rw [V.tryP, if_pos]
  unfold mx; simp only; split <;> omega
theorem mx_in {n : Int} {p : Int × Int} (h : ¬ p.2 < n) (hp : p.1 ≤ p.2) : p.1 ≤ mx n p.1 ∧ mx n p.1 ≤ p.2 := by
  unfold mx; split <;> omega
theorem parts_in {v : V} (h : v.ok = true) (hno : v.no = false) : (v.p0.1 ≤ v.p0.2) ∧ (¬ v.low ≤ v.high → v.p1.1 ≤ v.p1.2) ∧ (0 ≤ v.p0.1 ∧ v.p0.2 ≤ mostV v.w) ∧ (0 ≤ v.p1.1 ∧ v.p1.2 ≤ mostV v.w) := by
  have hw : isW v.w = true := by simp [V.ok] at h; exact h.1
  have hm := mostV_pos (isW_le hw).2
  simp [V.ok, hw, hno, isN] at h
  unfold V.p0 V.p1
  split <;> simp <;> omega
end Go.Ax
