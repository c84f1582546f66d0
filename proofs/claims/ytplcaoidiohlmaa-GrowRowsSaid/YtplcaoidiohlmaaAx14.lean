/- Bits of whole numbers that are not below nothing. -/
import Derived.Test.YtplcaoidiohlmaaAx13
namespace Go.Ax
open Go
set_option linter.unusedVariables false

theorem wrap_nat {n : Nat} (h : n < 2 ^ 63) : IntKind.i64.wrap (n : Int) = n := w64 (by omega) (by omega)
theorem ofInt_nat {n : Nat} (h : n < 2 ^ 63) : (BitVec.ofInt 64 (n : Int)) = BitVec.ofNat 64 n := by
  simp
theorem toNat_nat {n : Nat} (h : n < 2 ^ 63) : (BitVec.ofNat 64 n).toNat = n := by
  rw [BitVec.toNat_ofNat, Nat.mod_eq_of_lt (by omega)]
theorem band_nat {a b : Nat} (ha : a < 2 ^ 63) (hb : b < 2 ^ 63) : band .i64 a b = ((a &&& b : Nat) : Int) := by
  unfold band
  rw [show IntKind.i64.bits = 64 from rfl, ofInt_nat ha, ofInt_nat hb, BitVec.toNat_and, toNat_nat ha, toNat_nat hb]
  exact wrap_nat (Nat.lt_of_le_of_lt Nat.and_le_left ha)
theorem bor_nat {a b : Nat} (ha : a < 2 ^ 63) (hb : b < 2 ^ 63) : bor .i64 a b = ((a ||| b : Nat) : Int) := by
  unfold bor
  rw [show IntKind.i64.bits = 64 from rfl, ofInt_nat ha, ofInt_nat hb, BitVec.toNat_or, toNat_nat ha, toNat_nat hb]
  exact wrap_nat (Nat.or_lt_two_pow ha hb)
theorem bxor_nat {a b : Nat} (ha : a < 2 ^ 63) (hb : b < 2 ^ 63) : bxor .i64 a b = ((a ^^^ b : Nat) : Int) := by
  unfold bxor
  rw [show IntKind.i64.bits = 64 from rfl, ofInt_nat ha, ofInt_nat hb, BitVec.toNat_xor, toNat_nat ha, toNat_nat hb]
  exact wrap_nat (Nat.xor_lt_two_pow ha hb)
/-- Bits of one number that another one has not. -/
def clr (a b : Nat) : Nat := a ^^^ (a &&& b)
theorem clr_bit (a b i : Nat) : (clr a b).testBit i = (a.testBit i && !b.testBit i) := by
  simp only [clr, Nat.testBit_xor, Nat.testBit_and]
  cases a.testBit i <;> cases b.testBit i <;> rfl
theorem clr_le (a b : Nat) : clr a b ≤ a := by
  have h : a &&& clr a b = clr a b := by
    apply Nat.eq_of_testBit_eq
    intro i
    rw [Nat.testBit_and, clr_bit]
    cases a.testBit i <;> cases b.testBit i <;> rfl
  rw [← h]
  exact Nat.and_le_left
theorem bclr_nat {a b : Nat} (ha : a < 2 ^ 63) (hb : b < 2 ^ 63) : bclr .i64 a b = ((clr a b : Nat) : Int) := by
  unfold bclr
  have e : (BitVec.ofNat 64 a &&& ~~~ BitVec.ofNat 64 b).toNat = clr a b := by
    apply Nat.eq_of_testBit_eq
    intro i
    rw [BitVec.toNat_and, Nat.testBit_and, toNat_nat ha, clr_bit, ← BitVec.getLsbD, BitVec.getLsbD_not]
    by_cases hi : i < 64
    · simp [hi, BitVec.getElem_eq_testBit_toNat, Nat.mod_eq_of_lt (show b < 18446744073709551616 by omega)]
    · have : a.testBit i = false := Nat.testBit_lt_two_pow (Nat.lt_of_lt_of_le ha (Nat.pow_le_pow_right (by decide) (by omega)))
      simp [this]
  rw [show IntKind.i64.bits = 64 from rfl, ofInt_nat ha, ofInt_nat hb, e]
  refine wrap_nat ?_
  exact Nat.xor_lt_two_pow ha (Nat.lt_of_le_of_lt Nat.and_le_left ha)
theorem clr_zero (a : Nat) : clr a 0 = a := by simp [clr]
theorem clr_most {a w : Nat} (h : a < 2 ^ w) : clr a (2 ^ w - 1) = 0 := by
  apply Nat.eq_of_testBit_eq
  intro i
  rw [clr_bit, Nat.testBit_two_pow_sub_one, Nat.zero_testBit]
  by_cases hi : i < w
  · simp [hi]
  · rw [Nat.testBit_lt_two_pow (Nat.lt_of_lt_of_le h (Nat.pow_le_pow_right (by decide) (by omega)))]
    rfl

theorem isN_nat {n w : Int} (h0 : 0 ≤ w) (h : isN n w = true) : ∃ k : Nat, n = k ∧ k < 2 ^ w.toNat := by
  have h5 : ((2 ^ w.toNat : Nat) : Int) = (2 : Int) ^ w.toNat := by simp
  simp only [isN, mostV, ← h5, Bool.and_eq_true, decide_eq_true_eq] at h
  generalize 2 ^ w.toNat = q at *
  exact ⟨n.toNat, by omega, by omega⟩
theorem mostV_nat {w : Int} : mostV w = ((2 ^ w.toNat - 1 : Nat) : Int) := by
  have h6 : 1 ≤ 2 ^ w.toNat := Nat.one_le_two_pow
  have h5 : ((2 ^ w.toNat : Nat) : Int) = (2 : Int) ^ w.toNat := by simp
  unfold mostV
  rw [← h5]
  generalize 2 ^ w.toNat = q at *
  omega
theorem pow_lt63 {w : Int} (h : w ≤ 62) : 2 ^ w.toNat < 2 ^ 63 := Nat.pow_lt_pow_right (by decide) (by omega)
theorem mostV_pos {w : Int} (h1 : w ≤ 62) : 0 ≤ mostV w ∧ mostV w ≤ 4611686018427387903 := by
  have := pow_le62 h1
  unfold mostV
  omega
theorem isN_zero {w : Int} (h0 : 0 ≤ w) (h1 : w ≤ 62) : isN 0 w = true := by
  have := mostV_pos h1
  simp [isN, this]
theorem isN_most {w : Int} (h0 : 0 ≤ w) (h1 : w ≤ 62) : isN (mostV w) w = true := by
  have := mostV_pos h1
  simp [isN, this]

theorem isW_le {w : Int} (h : isW w = true) : 0 ≤ w ∧ w ≤ 62 := by
  simp [isW] at h
  omega
theorem whole_ok {w : Int} (h : isW w = true) : (V.whole w).ok = true := by
  have hl := isW_le h
  have hb : band .i64 0 (mostV w) = 0 := by
    rw [mostV_nat]
    exact (band_nat (a := 0) (by decide) (by have := pow_lt63 hl.2; omega)).trans (by simp)
  simp [V.ok, V.whole, h, isN_zero hl.1 hl.2, isN_most hl.1 hl.2, hb]
theorem nothing_ok {w : Int} (h : isW w = true) : (V.nothing w).ok = true := by
  simp [V.ok, V.nothing, h]
theorem just_ok {w n : Int} (h : isW w = true) (hn : isN n w = true) : (V.just w n).ok = true := by
  have hl := isW_le h
  obtain ⟨k, rfl, hk⟩ := isN_nat hl.1 hn
  have hb : band .i64 (k : Int) 0 = 0 := by
    have := pow_lt63 hl.2
    exact (band_nat (a := k) (b := 0) (by omega) (by decide)).trans (by simp)
  simp [V.ok, V.just, h, isN_zero hl.1 hl.2, hn, hb]
theorem whole_has {w n : Int} (h : isW w = true) (hn : isN n w = true) : (V.whole w).has n = true := by
  have hl := isW_le h
  obtain ⟨k, rfl, hk⟩ := isN_nat hl.1 hn
  have hp := pow_lt63 hl.2
  have hb : bclr .i64 (k : Int) (mostV w) = 0 := by
    rw [mostV_nat, bclr_nat (by omega) (by omega), clr_most hk]; rfl
  simp [isN] at hn
  have hm := isN_most hl.1 hl.2
  simp [isN] at hm
  simp [V.has, V.whole, hb, V.within, hm, hn]
theorem just_match {w n : Int} (h : isW w = true) (hn : isN n w = true) : (V.just w n).matchF n = n := by
  have hl := isW_le h
  obtain ⟨k, rfl, hk⟩ := isN_nat hl.1 hn
  have hp := pow_lt63 hl.2
  have hb : bclr .i64 (k : Int) 0 = k := by
    have := bclr_nat (a := k) (b := 0) (by omega) (by decide)
    rw [clr_zero] at this
    exact this
  simp [V.matchF, V.just, hb]
theorem just_next0 {w n : Int} (h : isW w = true) (hn : isN n w = true) : (V.just w n).nextR 0 = n := by
  have hl := isW_le h
  have hm := just_match h hn
  have := pow_le62 hl.2
  simp [isN] at hn
  have e : mx 0 n = n := by unfold mx; split <;> omega
  have hw : (V.just w n).w = w := rfl
  have hp0 : (V.just w n).p0 = (n, n) := by simp [V.p0, V.just]
  have ht : (V.just w n).tryP 0 (n, n) = some n := by
    simp [V.tryP, e, hm, hn]
  rw [V.nextR, if_neg (by simp [V.just]; omega), hp0, ht]
  rfl
theorem just_next1 {w n : Int} (h : isW w = true) (hn : isN n w = true) : (V.just w n).nextR (n + 1) = -1 := by
  have hl := isW_le h
  simp [isN] at hn
  have e : mx (n + 1) n = n + 1 := by unfold mx; split <;> omega
  have e0 : mx (n + 1) 0 = n + 1 := by unfold mx; split <;> omega
  unfold V.nextR
  split
  · rfl
  · have hp0 : (V.just w n).p0 = (n, n) := by simp [V.p0, V.just]
    have hp1 : (V.just w n).p1 = (0, -1) := by simp [V.p1, V.just]
    rw [hp0, hp1]
    have t0 : (V.just w n).tryP (n + 1) (n, n) = none := by simp [V.tryP, e]; omega
    have t1 : (V.just w n).tryP (n + 1) (0, -1) = none := by simp [V.tryP, e0]; omega
    rw [t0, t1]; rfl
theorem tryP_le {v : V} {n x : Int} {p : Int × Int} (h : v.tryP n p = some x) : 0 ≤ x ∧ x ≤ p.2 := by
  unfold V.tryP at h
  split at h
  · cases h
  · split at h
    · rename_i h2; cases h; exact h2
    · cases h
theorem nextR_le {v : V} (hv : v.ok = true) (n : Int) : -1 ≤ v.nextR n ∧ v.nextR n ≤ mostV v.w := by
  have hw : isW v.w = true := by simp [V.ok] at hv; exact hv.1
  have hl := isW_le hw
  have hm := isN_most hl.1 hl.2
  simp [isN] at hm
  unfold V.nextR
  split
  · omega
  · rename_i hc
    have hno : v.no = false := by cases h : v.no <;> simp_all
    simp [V.ok, hw, hno, isN] at hv
    cases h0 : v.tryP n v.p0 with
    | some x =>
      have := tryP_le h0
      have e : v.p0.2 = v.high := by unfold V.p0; split <;> rfl
      simp; omega
    | none =>
      cases h1 : v.tryP n v.p1 with
      | some x =>
        have := tryP_le h1
        have e : v.p1.2 = -1 ∨ v.p1.2 = mostV v.w := by unfold V.p1; split <;> simp
        simp; omega
      | none => simp; omega
end Go.Ax
