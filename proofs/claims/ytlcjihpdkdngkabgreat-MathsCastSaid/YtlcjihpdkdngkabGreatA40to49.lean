/- Parts A40to49: the machine's runs of small codes, contracts of functions, plain facts. -/
import Derived.Test.YtlcjihpdkdngkabGreatA30to39
/- Bits of numbers below nothing: what is left open of a mask. -/
namespace Go.Ax
open Go
set_option linter.unusedVariables false

/-- All bits but a number's. -/
def negN (n : Nat) : Int := -((n : Int) + 1)
theorem ofInt_neg {n : Nat} (h : n < 2 ^ 63) : BitVec.ofInt 64 (negN n) = ~~~ BitVec.ofNat 64 n := by
  apply BitVec.eq_of_toNat_eq
  rw [BitVec.toNat_not, toNat_nat h, BitVec.toNat_ofInt, negN]
  omega
theorem wrap_not {m : Nat} (h : m < 2 ^ 63) : IntKind.i64.wrap ((~~~BitVec.ofNat 64 m).toNat : Int) = negN m := by
  rw [BitVec.toNat_not, toNat_nat h, IntKind.wrap_i64, negN]
  omega
theorem bv_or (p q : Nat) : BitVec.ofNat 64 p ||| BitVec.ofNat 64 q = BitVec.ofNat 64 (p ||| q) := by simp
theorem bv_and (p q : Nat) : BitVec.ofNat 64 p &&& BitVec.ofNat 64 q = BitVec.ofNat 64 (p &&& q) := by simp
theorem bv_xor (p q : Nat) : BitVec.ofNat 64 p ^^^ BitVec.ofNat 64 q = BitVec.ofNat 64 (p ^^^ q) := by simp
theorem bv_clr {p q : Nat} (hp : p < 2 ^ 63) (hq : q < 2 ^ 63) : BitVec.ofNat 64 p &&& ~~~BitVec.ofNat 64 q = BitVec.ofNat 64 (clr p q) := by
  apply BitVec.eq_of_getLsbD_eq
  intro i hi
  rw [BitVec.getLsbD_and, BitVec.getLsbD_not, BitVec.getLsbD_ofNat, BitVec.getLsbD_ofNat, BitVec.getLsbD_ofNat, clr_bit]
  cases p.testBit i <;> cases q.testBit i <;> simp [hi]
theorem or63 {p q : Nat} (hp : p < 2 ^ 63) (hq : q < 2 ^ 63) : p ||| q < 2 ^ 63 := Nat.or_lt_two_pow hp hq
theorem and63 {p q : Nat} (hp : p < 2 ^ 63) : p &&& q < 2 ^ 63 := Nat.lt_of_le_of_lt Nat.and_le_left hp
theorem xor63 {p q : Nat} (hp : p < 2 ^ 63) (hq : q < 2 ^ 63) : p ^^^ q < 2 ^ 63 := Nat.xor_lt_two_pow hp hq
theorem clr63 {p q : Nat} (hp : p < 2 ^ 63) : clr p q < 2 ^ 63 := Nat.lt_of_le_of_lt (clr_le p q) hp
section
variable {p q : Nat} (hp : p < 2 ^ 63) (hq : q < 2 ^ 63)
include hp hq
theorem band_nn : band .i64 (negN p) (negN q) = negN (p ||| q) := by
  unfold band
  rw [show IntKind.i64.bits = 64 from rfl, ofInt_neg hp, ofInt_neg hq, ← BitVec.not_or, bv_or]
  exact wrap_not (or63 hp hq)
theorem bor_nn : bor .i64 (negN p) (negN q) = negN (p &&& q) := by
  unfold bor
  rw [show IntKind.i64.bits = 64 from rfl, ofInt_neg hp, ofInt_neg hq, ← BitVec.not_and, bv_and]
  exact wrap_not (and63 hp)
theorem bor_pn : bor .i64 (p : Int) (negN q) = negN (clr q p) := by
  unfold bor
  have : BitVec.ofNat 64 p ||| ~~~BitVec.ofNat 64 q = ~~~(BitVec.ofNat 64 q &&& ~~~BitVec.ofNat 64 p) := by
    rw [BitVec.not_and, BitVec.not_not, BitVec.or_comm]
  rw [show IntKind.i64.bits = 64 from rfl, ofInt_nat hp, ofInt_neg hq, this, bv_clr hq hp]
  exact wrap_not (clr63 hq)
theorem bclr_np : bclr .i64 (negN p) (q : Int) = negN (p ||| q) := by
  unfold bclr
  rw [show IntKind.i64.bits = 64 from rfl, ofInt_neg hp, ofInt_nat hq, ← BitVec.not_or, bv_or]
  exact wrap_not (or63 hp hq)
theorem band_pn : band .i64 (p : Int) (negN q) = (clr p q : Nat) := by
  unfold band
  rw [show IntKind.i64.bits = 64 from rfl, ofInt_nat hp, ofInt_neg hq, bv_clr hp hq, toNat_nat (clr63 hp)]
  exact wrap_nat (clr63 hp)
end
theorem not_p {p : Nat} (hp : p < 2 ^ 63) : bxor .i64 (-1) (p : Int) = negN p := by
  unfold bxor
  have e : BitVec.ofInt 64 (-1) = ~~~ BitVec.ofNat 64 0 := ofInt_neg (n := 0) (by decide)
  have : ~~~BitVec.ofNat 64 0 ^^^ BitVec.ofNat 64 p = ~~~BitVec.ofNat 64 p := by
    apply BitVec.eq_of_getLsbD_eq
    intro i hi
    rw [BitVec.getLsbD_xor, BitVec.getLsbD_not, BitVec.getLsbD_not, BitVec.getLsbD_ofNat, BitVec.getLsbD_ofNat]
    cases p.testBit i <;> simp [hi]
  rw [show IntKind.i64.bits = 64 from rfl, ofInt_nat hp, e, this]
  exact wrap_not hp
theorem not_n {p : Nat} (hp : p < 2 ^ 63) : bxor .i64 (-1) (negN p) = p := by
  unfold bxor
  have e : BitVec.ofInt 64 (-1) = ~~~ BitVec.ofNat 64 0 := ofInt_neg (n := 0) (by decide)
  have : ~~~BitVec.ofNat 64 0 ^^^ ~~~BitVec.ofNat 64 p = BitVec.ofNat 64 p := by
    apply BitVec.eq_of_getLsbD_eq
    intro i hi
    rw [BitVec.getLsbD_xor, BitVec.getLsbD_not, BitVec.getLsbD_not, BitVec.getLsbD_ofNat, BitVec.getLsbD_ofNat]
    cases p.testBit i <;> simp [hi]
  rw [show IntKind.i64.bits = 64 from rfl, ofInt_neg hp, e, this, toNat_nat hp]
  exact wrap_nat hp
/-- Bits that must be, and bits that may be, of what an operator tells. -/
def bitO (op : Int) (aB aF bB bF : Nat) : Nat := if op = 13 then aB &&& bB else if op = 14 then aB ||| bB else clr (aB ^^^ bB) (aF ||| bF)
def bitM (op : Int) (aB aF bB bF : Nat) : Nat := if op = 13 then (aB ||| aF) &&& (bB ||| bF) else if op = 14 then (aB ||| aF) ||| (bB ||| bF) else (aB ^^^ bB) ||| (aF ||| bF)
def bitR (op : Int) (x y : Nat) : Nat := if op = 13 then x &&& y else if op = 14 then x ||| y else x ^^^ y
theorem bit_sub {op : Int} {aB aF bB bF x y : Nat} (hx : clr x aF = aB) (hy : clr y bF = bB) :
    ∀ i, ((bitO op aB aF bB bF).testBit i = true → (bitR op x y).testBit i = true) ∧ ((bitR op x y).testBit i = true → (bitM op aB aF bB bF).testBit i = true) := by
  intro i
  have h1 := congrArg (fun t => t.testBit i) hx
  have h2 := congrArg (fun t => t.testBit i) hy
  simp only [clr_bit] at h1 h2
  unfold bitO bitM bitR
  split
  · simp only [Nat.testBit_and, Nat.testBit_or]
    revert h1 h2
    cases x.testBit i <;> cases y.testBit i <;> cases aB.testBit i <;> cases bB.testBit i <;> cases aF.testBit i <;> cases bF.testBit i <;> decide
  · split
    · simp only [Nat.testBit_or]
      revert h1 h2
      cases x.testBit i <;> cases y.testBit i <;> cases aB.testBit i <;> cases bB.testBit i <;> cases aF.testBit i <;> cases bF.testBit i <;> decide
    · simp only [Nat.testBit_xor, Nat.testBit_or, clr_bit]
      revert h1 h2
      cases x.testBit i <;> cases y.testBit i <;> cases aB.testBit i <;> cases bB.testBit i <;> cases aF.testBit i <;> cases bF.testBit i <;> decide
theorem mask_bit (n w i : Nat) : (n % 2 ^ w).testBit i = (decide (i < w) && n.testBit i) := Nat.testBit_mod_two_pow n w i
/-- The set of all numbers that have bits that must be and no other ones than may be. -/
def bitV (w : Int) (o m : Nat) : V := ⟨w, false, (o % 2 ^ w.toNat : Nat), (m % 2 ^ w.toNat : Nat), (clr m o % 2 ^ w.toNat : Nat), (o % 2 ^ w.toNat : Nat)⟩
theorem bitV_ok {w : Int} (hw : isW w = true) (o m : Nat) : (bitV w o m).ok = true := by
  have hw' := isW_le hw
  have hp := pow_lt63 hw'.2
  have lt : ∀ n : Nat, n % 2 ^ w.toNat < 2 ^ w.toNat := fun n => Nat.mod_lt _ (Nat.two_pow_pos _)
  have key : ∀ n : Nat, isN ((n % 2 ^ w.toNat : Nat) : Int) w = true := fun n => by
    have := lt n
    unfold isN
    rw [mostV_nat]
    simp only [Bool.and_eq_true, decide_eq_true_eq]
    omega
  have h0 : band .i64 ((o % 2 ^ w.toNat : Nat) : Int) ((clr m o % 2 ^ w.toNat : Nat) : Int) = 0 := by
    rw [band_nat (Nat.lt_trans (lt _) hp) (Nat.lt_trans (lt _) hp)]
    have : o % 2 ^ w.toNat &&& clr m o % 2 ^ w.toNat = 0 := by
      apply Nat.eq_of_testBit_eq
      intro i
      rw [Nat.testBit_and, mask_bit, mask_bit, clr_bit, Nat.zero_testBit]
      cases o.testBit i <;> cases m.testBit i <;> simp
    rw [this]; rfl
  unfold V.ok bitV
  simp only [hw, key, h0]
  simp
theorem bitV_has {w : Int} (hw : isW w = true) {o m r : Nat} (hr : r < 2 ^ w.toNat) (h : ∀ i, (o.testBit i = true → r.testBit i = true) ∧ (r.testBit i = true → m.testBit i = true)) : (bitV w o m).has (r : Int) = true := by
  have hw' := isW_le hw
  have hp := pow_lt63 hw'.2
  have lt : ∀ n : Nat, n % 2 ^ w.toNat < 2 ^ w.toNat := fun n => Nat.mod_lt _ (Nat.two_pow_pos _)
  have hrb : ∀ i, r.testBit i = true → i < w.toNat := fun i hi => by
    by_cases hlt : i < w.toNat
    · exact hlt
    · have : r.testBit i = false := Nat.testBit_lt_two_pow (Nat.lt_of_lt_of_le hr (Nat.pow_le_pow_right (by decide) (by omega)))
      rw [this] at hi; cases hi
  rw [has_split]
  refine ⟨rfl, ?_, ?_⟩
  · show bclr .i64 (r : Int) ((clr m o % 2 ^ w.toNat : Nat) : Int) = ((o % 2 ^ w.toNat : Nat) : Int)
    rw [bclr_nat (Nat.lt_trans hr hp) (Nat.lt_trans (lt _) hp)]
    congr 1
    apply Nat.eq_of_testBit_eq
    intro i
    rw [clr_bit, mask_bit, mask_bit, clr_bit]
    have h1 := (h i).1
    have h2 := (h i).2
    have h3 := hrb i
    cases hri : r.testBit i
    · cases hoi : o.testBit i
      · simp
      · rw [h1 hoi] at hri; cases hri
    · have := h3 hri
      rw [h2 hri]
      cases o.testBit i <;> simp [this]
  · have le1 : o % 2 ^ w.toNat ≤ r := le_of_bits fun i hi => by
      rw [mask_bit] at hi
      simp only [Bool.and_eq_true, decide_eq_true_eq] at hi
      exact (h i).1 hi.2
    have le2 : r ≤ m % 2 ^ w.toNat := le_of_bits fun i hi => by
      rw [mask_bit]
      simp only [Bool.and_eq_true, decide_eq_true_eq]
      exact ⟨hrb i hi, (h i).2 hi⟩
    unfold V.within bitV
    have : ((o % 2 ^ w.toNat : Nat) : Int) ≤ ((m % 2 ^ w.toNat : Nat) : Int) := by omega
    simp only [this, if_true, Bool.and_eq_true, decide_eq_true_eq]
    omega
end Go.Ax

/- What an operator of two numbers tells: the number, and what goes wrong. -/
namespace Go.Ax
open Go
set_option linter.unusedVariables false

def fitK (k v : Int) : Int × Int := if sgn k = true ∧ (v < leastK k ∨ mostK k < v) then (0, 4) else (v % 2 ^ (ofW k).toNat, 0)
def divK (op k u v : Int) : Int × Int := if v = 0 then (0, 6) else if sgn k = true ∧ u = leastK k ∧ v = -1 then (0, 4) else ((if op = 11 then u.tdiv v else u.tmod v) % 2 ^ (ofW k).toNat, 0)
def shiftK (op k a u v : Int) : Int × Int := if v < 0 ∨ ofW k ≤ v then (0, 5) else ((if op = 16 then a * 2 ^ v.toNat else u / 2 ^ v.toNat) % 2 ^ (ofW k).toNat, 0)
def bitK (op a b : Int) : Int := if op = 13 then band .i64 a b else if op = 14 then bor .i64 a b else bxor .i64 a b
def twoK (op k a b : Int) : Int × Int :=
  if op = 8 then fitK k (seenV k a + seenV k b)
  else if op = 9 then fitK k (seenV k a - seenV k b)
  else if op = 10 then fitK k (seenV k a * seenV k b)
  else if op = 11 ∨ op = 12 then divK op k (seenV k a) (seenV k b)
  else if op = 13 ∨ op = 14 ∨ op = 15 then (bitK op a b, 0)
  else if op = 16 ∨ op = 17 then shiftK op k a (seenV k a) (seenV k b)
  else if op = 18 then (if a = b then 1 else 0, 0)
  else (if seenV k a < seenV k b then 1 else 0, 0)
def ansW (op k : Int) : Int := if op = 18 ∨ op = 19 ∨ op = 7 then 32 else ofW k
def canK (op k bad : Int) : Bool :=
  if op = 8 ∨ op = 9 ∨ op = 10 ∨ op = 5 then sgn k && decide (bad = 4)
  else if op = 11 ∨ op = 12 then decide (bad = 6) || (sgn k && decide (bad = 4))
  else if op = 16 ∨ op = 17 then decide (bad = 5) else false
theorem ansW_isW (op k : Int) : isW (ansW op k) = true := by
  unfold ansW
  split
  · decide
  · exact ofW_isW k
theorem kW {k : Int} : (2 : Int) ^ (ofW k).toNat = mostV (ofW k) + 1 := by unfold mostV; omega
theorem kinds {k : Int} (h : isK k = true) :
    (sgn k = false ∧ leastK k = 0 ∧ mostK k = mostV (ofW k) ∨ sgn k = true ∧ leastK k = -(mostK k) - 1 ∧ mostV (ofW k) = 2 * mostK k + 1) ∧ 127 ≤ mostK k ∧ mostK k ≤ 4294967295 ∧ mostV (ofW k) ≤ 4294967295 ∧ 255 ≤ mostV (ofW k) := by
  rcases isK_cases h with rfl | rfl | rfl | rfl | rfl | rfl <;> decide +kernel
theorem fit_in {k v : Int} (h0 : leastK k ≤ v) (h1 : v ≤ mostK k) : fitK k v = (v % 2 ^ (ofW k).toNat, 0) := by
  unfold fitK
  rw [if_neg (by omega)]
theorem wrap_mod (n : Int) {w : Int} (hw : isW w = true) : IntKind.i64.wrap n % 2 ^ w.toNat = n % 2 ^ w.toNat := by
  rw [IntKind.wrap_i64]
  rcases pow_w hw with ⟨_, h, _⟩ | ⟨_, h, _⟩ | ⟨_, h, _⟩ <;> rw [h] <;> omega
theorem mod_self {n w : Int} (h0 : 0 ≤ n) (h1 : n ≤ mostV w) : n % 2 ^ w.toNat = n := Int.emod_eq_of_lt h0 (by unfold mostV at h1; omega)
theorem tdiv_abs (u v : Int) : (u.tdiv v).natAbs = u.natAbs / v.natAbs := Int.natAbs_tdiv u v
theorem tmod_abs (u v : Int) : (u.tmod v).natAbs = u.natAbs % v.natAbs := Int.natAbs_tmod u v
structure DivR (u v : Int) : Prop where
  q : (u.tdiv v).natAbs ≤ u.natAbs
  qs : 0 ≤ u → 0 ≤ v → 0 ≤ u.tdiv v
  r : (u.tmod v).natAbs ≤ u.natAbs
  rv : v ≠ 0 → (u.tmod v).natAbs < v.natAbs
  rs : 0 ≤ u → 0 ≤ u.tmod v
  rn : u ≤ 0 → u.tmod v ≤ 0
  half : 2 ≤ v.natAbs → (u.tdiv v).natAbs ≤ u.natAbs / 2
theorem div_facts (u v : Int) : DivR u v where
  q := by rw [tdiv_abs]; exact Nat.div_le_self _ _
  qs := fun h k => Int.tdiv_nonneg h k
  r := by rw [tmod_abs]; exact Nat.mod_le _ _
  rv := fun h => by rw [tmod_abs]; exact Nat.mod_lt _ (by omega)
  rs := fun h => Int.tmod_nonneg v h
  rn := fun h => by
    have := Int.tmod_nonneg v (show 0 ≤ -u by omega)
    rw [Int.neg_tmod] at this
    omega
  half := fun h => by rw [tdiv_abs]; exact Nat.div_le_div_left h (by decide)
theorem tdiv_range {k u v : Int} (hk : isK k = true) (u0 : leastK k ≤ u) (u1 : u ≤ mostK k) (v0 : leastK k ≤ v) (hv : v ≠ 0) (h : ¬ (sgn k = true ∧ u = leastK k ∧ v = -1)) : leastK k ≤ u.tdiv v ∧ u.tdiv v ≤ mostK k := by
  have d := div_facts u v
  have hq := d.q
  obtain ⟨hs, _⟩ := kinds hk
  rcases hs with ⟨s, l, m⟩ | ⟨s, l, m⟩
  · have := d.qs (by omega) (by omega)
    omega
  · by_cases h1 : v = 1
    · subst h1; rw [Int.tdiv_one]; omega
    · by_cases h2 : v = -1
      · subst h2
        have e : u.tdiv (-1) = -u := by rw [Int.tdiv_neg, Int.tdiv_one]
        have : ¬ u = leastK k := fun e => h ⟨s, e, rfl⟩
        rw [e]; omega
      · have := d.half (by omega)
        omega
theorem tmod_range {k u v : Int} (hk : isK k = true) (u0 : leastK k ≤ u) (u1 : u ≤ mostK k) : leastK k ≤ u.tmod v ∧ u.tmod v ≤ mostK k := by
  have d := div_facts u v
  have hq := d.r
  have h1 := d.rs
  have h2 := d.rn
  obtain ⟨hs, _⟩ := kinds hk
  by_cases h : 0 ≤ u
  · have := h1 h; omega
  · have := h2 (by omega); omega
theorem isN_of {n w : Int} (h0 : 0 ≤ n) (h1 : n ≤ mostV w) : isN n w = true := by simp [isN, h0, h1]
theorem isN_le {n w : Int} (h : isN n w = true) : 0 ≤ n ∧ n ≤ mostV w := by simpa [isN] using h
theorem nat_of {n w : Int} (h0 : 0 ≤ n) (h1 : n ≤ mostV w) : ∃ k : Nat, n = k ∧ k < 2 ^ w.toNat := by
  refine ⟨n.toNat, by omega, ?_⟩
  rw [mostV_nat] at h1
  have : 1 ≤ 2 ^ w.toNat := Nat.one_le_two_pow
  omega
theorem bitK_nat {op : Int} {a b : Nat} (ha : a < 2 ^ 63) (hb : b < 2 ^ 63) : bitK op a b = (bitR op a b : Nat) := by
  unfold bitK bitR
  split
  · rw [band_nat ha hb]
  · split
    · rw [bor_nat ha hb]
    · rw [bxor_nat ha hb]
theorem bitR_lt {op : Int} {a b w : Nat} (ha : a < 2 ^ w) (hb : b < 2 ^ w) : bitR op a b < 2 ^ w := by
  unfold bitR
  split
  · exact Nat.lt_of_le_of_lt Nat.and_le_left ha
  · split
    · exact Nat.or_lt_two_pow ha hb
    · exact Nat.xor_lt_two_pow ha hb
section
variable {op k a b : Int} (hk : isK k = true) (a0 : 0 ≤ a) (a1 : a ≤ mostV (ofW k)) (b0 : 0 ≤ b) (b1 : b ≤ mostV (ofW k))
theorem fit_snd (k v : Int) : (fitK k v).2 = 0 ∨ (sgn k = true ∧ (fitK k v).2 = 4) := by
  unfold fitK; split
  · rename_i h; exact .inr ⟨h.1, rfl⟩
  · exact .inl rfl
theorem div_snd (op k u v : Int) : (divK op k u v).2 = 0 ∨ (divK op k u v).2 = 6 ∨ (sgn k = true ∧ (divK op k u v).2 = 4) := by
  unfold divK; split
  · exact .inr (.inl rfl)
  · split
    · rename_i h; exact .inr (.inr ⟨h.1, rfl⟩)
    · exact .inl rfl
theorem shift_snd (op k a u v : Int) : (shiftK op k a u v).2 = 0 ∨ (shiftK op k a u v).2 = 5 := by
  unfold shiftK; split
  · exact .inr rfl
  · exact .inl rfl
include hk a0 a1 b0 b1
/-- The number is one of the answer's width. -/
theorem two_isN (hz : (twoK op k a b).2 = 0) : isN (twoK op k a b).1 (ansW op k) = true := by
  have hm : ∀ t : Int, isN (t % 2 ^ (ofW k).toNat) (ofW k) = true := fun t => mod_isN (ofW_isW k)
  have hf : ∀ v, isN (fitK k v).1 (ofW k) = true := fun v => by
    unfold fitK; split
    · exact isN_zero (isW_le (ofW_isW k)).1 (isW_le (ofW_isW k)).2
    · exact hm _
  have hans : ¬ (op = 18 ∨ op = 19 ∨ op = 7) → ansW op k = ofW k := fun h => by unfold ansW; rw [if_neg h]
  unfold twoK at hz ⊢
  split
  · rw [hans (by omega)]; exact hf _
  · split
    · rw [hans (by omega)]; exact hf _
    · split
      · rw [hans (by omega)]; exact hf _
      · split
        · rw [hans (by omega)]
          unfold divK
          split
          · exact isN_zero (isW_le (ofW_isW k)).1 (isW_le (ofW_isW k)).2
          · split
            · exact isN_zero (isW_le (ofW_isW k)).1 (isW_le (ofW_isW k)).2
            · exact hm _
        · split
          · rw [hans (by omega)]
            obtain ⟨x, rfl, hx⟩ := nat_of a0 a1
            obtain ⟨y, rfl, hy⟩ := nat_of b0 b1
            have hp := pow_lt63 (isW_le (ofW_isW k)).2
            rw [bitK_nat (Nat.lt_trans hx hp) (Nat.lt_trans hy hp)]
            have := bitR_lt (op := op) hx hy
            refine isN_of (by omega) ?_
            rw [mostV_nat]; omega
          · split
            · rw [hans (by omega)]
              unfold shiftK
              split
              · exact isN_zero (isW_le (ofW_isW k)).1 (isW_le (ofW_isW k)).2
              · exact hm _
            · have : isN 1 (ansW op k) = true ∧ isN 0 (ansW op k) = true := by
                unfold ansW
                split
                · decide
                · have := kinds hk
                  exact ⟨isN_of (by omega) (by omega), isN_of (by omega) (by omega)⟩
              split
              · split
                · exact this.1
                · exact this.2
              · split
                · exact this.1
                · exact this.2
omit hk a0 a1 b0 b1
/-- What goes wrong is what can. -/
theorem two_can : (twoK op k a b).2 = 0 ∨ canK op k (twoK op k a b).2 = true := by
  unfold twoK
  split
  · rename_i h
    rcases fit_snd k (seenV k a + seenV k b) with h1 | ⟨h1, h2⟩
    · exact .inl h1
    · right; unfold canK; rw [if_pos (by omega), h2, h1]; rfl
  · split
    · rcases fit_snd k (seenV k a - seenV k b) with h1 | ⟨h1, h2⟩
      · exact .inl h1
      · right; unfold canK; rw [if_pos (by omega), h2, h1]; rfl
    · split
      · rcases fit_snd k (seenV k a * seenV k b) with h1 | ⟨h1, h2⟩
        · exact .inl h1
        · right; unfold canK; rw [if_pos (by omega), h2, h1]; rfl
      · split
        · rcases div_snd op k (seenV k a) (seenV k b) with h1 | h1 | ⟨h1, h2⟩
          · exact .inl h1
          · right; unfold canK; rw [if_neg (by omega), if_pos (by omega), h1]; rfl
          · right; unfold canK; rw [if_neg (by omega), if_pos (by omega), h1, h2]; rfl
        · split
          · exact .inl rfl
          · split
            · rcases shift_snd op k a (seenV k a) (seenV k b) with h1 | h1
              · exact .inl h1
              · right; unfold canK; rw [if_neg (by omega), if_neg (by omega), if_pos (by omega), h1]; rfl
            · split <;> exact .inl rfl
end
end Go.Ax

/- What is told of sets with many members. -/
namespace Go.Ax
open Go
set_option linter.unusedVariables false

/-- What is found holds of all pairs of members. -/
structure FoundR (op k : Int) (a b z : V) (l : List Int) : Prop where
  ok : z.ok = true
  w : z.w = ansW op k
  can : ∀ x ∈ l, canK op k x = true
  nd : l.Nodup
  all : ∀ x y, 0 ≤ x → x ≤ mostV a.w → a.has x = true → 0 ≤ y → y ≤ mostV b.w → b.has y = true → if (twoK op k x y).2 = 0 then z.has (twoK op k x y).1 = true else (twoK op k x y).2 ∈ l
def addB (l : List Int) (x : Int) : List Int := if x ∈ l then l else l ++ [x]
theorem addB_mem {l : List Int} {x : Int} : x ∈ addB l x := by
  unfold addB; split
  · assumption
  · simp
theorem addB_sub {l : List Int} {x y : Int} (h : y ∈ l) : y ∈ addB l x := by
  unfold addB; split
  · exact h
  · simp [h]
theorem addB_nd {l : List Int} {x : Int} (h : l.Nodup) : (addB l x).Nodup := by
  unfold addB; split
  · exact h
  · rename_i hx
    rw [List.nodup_append]
    refine ⟨h, by simp, fun a ha b hb => ?_⟩
    simp at hb
    rintro rfl
    exact hx (hb ▸ ha)
theorem addB_of {l : List Int} {x y : Int} (h : y ∈ addB l x) : y ∈ l ∨ y = x := by
  unfold addB at h; split at h
  · exact .inl h
  · simpa using h
/-- Such classes are two at most. -/
theorem can_len {op k : Int} {l : List Int} (hc : ∀ x ∈ l, canK op k x = true) (hn : l.Nodup) : l.length ≤ 2 := by
  have h3 : ∀ x ∈ l, x = 4 ∨ x = 6 ∨ x = 5 := fun x hx => by
    have := hc x hx
    unfold canK at this
    split at this
    · simp at this; omega
    · split at this
      · simp at this; omega
      · split at this
        · simp at this; omega
        · cases this
  have h5 : (5 ∈ l) → ∀ x ∈ l, x = 5 := fun h x hx => by
    have h1 := hc 5 h
    have h2 := hc x hx
    unfold canK at h1 h2
    split at h1
    · simp at h1
    · rename_i c1
      rw [if_neg c1] at h2
      split at h1
      · simp at h1
      · rename_i c2
        rw [if_neg c2] at h2
        split at h1
        · rename_i c3
          rw [if_pos c3] at h2
          simpa using h2
        · cases h1
  match l, h3, h5, hn with
  | [], _, _, _ => simp
  | [a], _, _, _ => simp
  | [a, b], _, _, _ => simp
  | a :: b :: c :: l, h3, h5, hn =>
    exfalso
    have ha := h3 a (by simp)
    have hb := h3 b (by simp)
    have hc' := h3 c (by simp)
    simp only [List.nodup_cons, List.mem_cons, not_or] at hn
    obtain ⟨⟨n1, n2, _⟩, ⟨n3, _⟩, _⟩ := hn
    have e5 : ∀ x, x = 5 → (x = a ∨ x = b ∨ x = c) → False := fun x h hx => by
      subst h
      have : (5 : Int) ∈ a :: b :: c :: l := by rcases hx with h | h | h <;> simp [← h]
      have g := h5 this
      have := g a (by simp)
      have := g b (by simp)
      omega
    rcases ha with h1 | h1 | h1 <;> rcases hb with h2 | h2 | h2 <;> rcases hc' with h4 | h4 | h4 <;>
      first | exact n1 (h1.trans h2.symm) | exact n2 (h1.trans h4.symm) | exact n3 (h2.trans h4.symm) | exact e5 a h1 (.inl rfl) | exact e5 b h2 (.inr (.inl rfl)) | exact e5 c h4 (.inr (.inr rfl))
theorem nothing_can (op k : Int) : ∀ x ∈ ([] : List Int), canK op k x = true := fun x h => by cases h
/-- A row of numbers from one up to another, as so many bits. -/
theorem span_mod {w lo hi t : Int} (hw : isW w = true) (h0 : lo ≤ t) (h1 : t ≤ hi) (h2 : hi - lo < mostV w) : (V.span w (lo % 2 ^ w.toNat) (hi % 2 ^ w.toNat)).has (t % 2 ^ w.toNat) = true := by
  have hn := isN_le (mod_isN (x := t) hw)
  rw [span_has hw hn.1 hn.2 (mod_isN hw) (mod_isN hw)]
  rcases pow_w hw with ⟨_, h, m, _⟩ | ⟨_, h, m, _⟩ | ⟨_, h, m, _⟩ <;> rw [h] <;> rw [m] at h2 <;> omega
def lowS (k low : Int) : Int := if sgn k = true ∧ low < leastK k then leastK k else low
def highS (k high : Int) : Int := if sgn k = true ∧ mostK k < high then mostK k else high
structure SpanR (k low high : Int) (z0 : V) (l0 : List Int) (z : V) (l : List Int) : Prop where
  ok : z.ok = true
  w : z.w = ofW k
  all : ∀ t, low ≤ t → t ≤ high → (fitK k t).2 = 0 → z.has (fitK k t).1 = true
  bads : l = if sgn k = true ∧ (low < leastK k ∨ mostK k < high) then addB l0 4 else l0
/-- The row after what is too great is left out. -/
theorem span_cases {k low high : Int} (hk : isK k = true) {z0 z : V} {l0 l : List Int} (hz0 : z0.ok = true) (hw0 : z0.w = ofW k)
    (hl : l = if sgn k = true ∧ (low < leastK k ∨ mostK k < high) then addB l0 4 else l0)
    (hz : (highS k high < lowS k low ∧ z = z0) ∨ (mostV (ofW k) ≤ highS k high - lowS k low ∧ z = V.whole (ofW k)) ∨
      (highS k high - lowS k low < mostV (ofW k) ∧ BothR z0 (V.span (ofW k) (lowS k low % 2 ^ (ofW k).toNat) (highS k high % 2 ^ (ofW k).toNat)) z)) : SpanR k low high z0 l0 z l := by
  have hW := ofW_isW k
  have key : ∀ t, low ≤ t → t ≤ high → (fitK k t).2 = 0 → lowS k low ≤ t ∧ t ≤ highS k high ∧ (fitK k t).1 = t % 2 ^ (ofW k).toNat := by
    intro t h0 h1 hf
    unfold fitK at hf ⊢
    split at hf
    · cases hf
    · rename_i hn
      rw [if_neg hn]
      unfold lowS highS
      refine ⟨?_, ?_, rfl⟩
      · split
        · rename_i h; have : ¬ (t < leastK k) := fun e => hn ⟨h.1, .inl e⟩
          omega
        · exact h0
      · split
        · rename_i h; have : ¬ (mostK k < t) := fun e => hn ⟨h.1, .inr e⟩
          omega
        · exact h1
  rcases hz with ⟨h, rfl⟩ | ⟨h, rfl⟩ | ⟨h, hb⟩
  · refine ⟨hz0, hw0, fun t h0 h1 hf => ?_, hl⟩
    have := key t h0 h1 hf
    omega
  · refine ⟨whole_ok hW, rfl, fun t h0 h1 hf => ?_, hl⟩
    obtain ⟨_, _, e⟩ := key t h0 h1 hf
    rw [e]
    exact whole_has hW (mod_isN hW)
  · refine ⟨hb.ok, hb.w.trans hw0, fun t h0 h1 hf => ?_, hl⟩
    obtain ⟨k0, k1, e⟩ := key t h0 h1 hf
    rw [e]
    have hn := isN_le (mod_isN (x := t) hW)
    exact hb.right _ hn.1 (by rw [(span_ok hW (mod_isN hW) (mod_isN hW)).2]; exact hn.2) (span_mod hW k0 k1 h)
theorem mx_le (a b : Int) : a ≤ mx a b ∧ b ≤ mx a b ∧ (mx a b = a ∨ mx a b = b) := by unfold mx; split <;> omega
def mn2 (a b : Int) : Int := if b < a then b else a
theorem mn2_le (a b : Int) : mn2 a b ≤ a ∧ mn2 a b ≤ b ∧ (mn2 a b = a ∨ mn2 a b = b) := by unfold mn2; split <;> omega
theorem mul_low {a b c d u v m : Int} (h1 : a ≤ u) (h2 : u ≤ b) (h3 : c ≤ v) (h4 : v ≤ d) (m1 : m ≤ a * c) (m2 : m ≤ a * d) (m3 : m ≤ b * c) (m4 : m ≤ b * d) : m ≤ u * v := by
  by_cases hv : 0 ≤ v
  · have e1 : a * v ≤ u * v := Int.mul_le_mul_of_nonneg_right h1 hv
    by_cases ha : 0 ≤ a
    · have : a * c ≤ a * v := Int.mul_le_mul_of_nonneg_left h3 ha
      omega
    · have : a * d ≤ a * v := Int.mul_le_mul_of_nonpos_left (by omega) h4
      omega
  · have e1 : b * v ≤ u * v := Int.mul_le_mul_of_nonpos_right h2 (by omega)
    by_cases hb : 0 ≤ b
    · have : b * c ≤ b * v := Int.mul_le_mul_of_nonneg_left h3 hb
      omega
    · have : b * d ≤ b * v := Int.mul_le_mul_of_nonpos_left (by omega) h4
      omega
theorem mul_high {a b c d u v m : Int} (h1 : a ≤ u) (h2 : u ≤ b) (h3 : c ≤ v) (h4 : v ≤ d) (m1 : a * c ≤ m) (m2 : a * d ≤ m) (m3 : b * c ≤ m) (m4 : b * d ≤ m) : u * v ≤ m := by
  have := mul_low (a := -b) (b := -a) (c := c) (d := d) (u := -u) (v := v) (m := -m) (by omega) (by omega) h3 h4 (by rw [Int.neg_mul]; omega) (by rw [Int.neg_mul]; omega) (by rw [Int.neg_mul]; omega) (by rw [Int.neg_mul]; omega)
  rw [Int.neg_mul] at this
  omega
theorem shr_mono {x y : Int} {e : Nat} (h : x ≤ y) : x / 2 ^ e ≤ y / 2 ^ e := Int.ediv_le_ediv (Int.pow_pos (by decide)) h
theorem shr_pos {x : Int} {e f : Nat} (hx : 0 ≤ x) (h : e ≤ f) : x / 2 ^ f ≤ x / 2 ^ e ∧ 0 ≤ x / 2 ^ f := by
  have p1 : (0 : Int) < 2 ^ e := Int.pow_pos (by decide)
  have p2 : (0 : Int) < 2 ^ (f - e) := Int.pow_pos (by decide)
  have : (2 : Int) ^ f = 2 ^ e * 2 ^ (f - e) := by rw [← Int.pow_add]; congr 1; omega
  rw [this, ← Int.ediv_ediv_of_nonneg (by omega)]
  have h0 : 0 ≤ x / 2 ^ e := Int.ediv_nonneg hx (by omega)
  exact ⟨Int.ediv_le_self _ h0, Int.ediv_nonneg h0 (by omega)⟩
theorem shr_neg {x : Int} {e f : Nat} (hx : x < 0) (h : e ≤ f) : x / 2 ^ e ≤ x / 2 ^ f ∧ x / 2 ^ f ≤ -1 := by
  have p1 : (0 : Int) < 2 ^ e := Int.pow_pos (by decide)
  have p2 : (0 : Int) < 2 ^ (f - e) := Int.pow_pos (by decide)
  have : (2 : Int) ^ f = 2 ^ e * 2 ^ (f - e) := by rw [← Int.pow_add]; congr 1; omega
  rw [this, ← Int.ediv_ediv_of_nonneg (by omega)]
  have h0 : x / 2 ^ e < 0 := Int.ediv_neg_of_neg_of_pos hx p1
  generalize x / 2 ^ e = y at *
  constructor
  · refine Int.le_ediv_of_mul_le p2 ?_
    have : y * 2 ^ (f - e) ≤ y * 1 := Int.mul_le_mul_of_nonpos_left (by omega) (by omega)
    omega
  · have := Int.ediv_neg_of_neg_of_pos h0 p2
    omega
end Go.Ax

/- What is told of sets with few members, one by one; what an operator of two sets tells. -/
namespace Go.Ax
open Go
set_option linter.unusedVariables false

/-- What was found of some results. -/
structure AddI (wd : Int) (R : List (Int × Int)) (z : V) (l : List Int) : Prop where
  ok : z.ok = true
  w : z.w = wd
  rng : ∀ r ∈ R, r.2 = 0 → isN r.1 wd = true
  num : ∀ r ∈ R, r.2 = 0 → z.has r.1 = true
  bad : ∀ r ∈ R, r.2 ≠ 0 → r.2 ∈ l
  of : ∀ x ∈ l, ∃ r ∈ R, r.2 = x ∧ x ≠ 0
  nd : l.Nodup
  one : ∀ n, (∀ r ∈ R, r.2 = 0 → r.1 = n) → ∀ y, 0 ≤ y → y ≤ mostV wd → z.has y = true → y = n
theorem AddI.nil {w : Int} (hw : isW w = true) : AddI w [] (V.nothing w) [] :=
  ⟨nothing_ok hw, rfl, by simp, by simp, by simp, by simp, by simp, fun n _ y _ _ h => by rw [nothing_has] at h; cases h⟩
theorem AddI.addNum {w : Int} {R : List (Int × Int)} {z z' : V} {l : List Int} (s : AddI w R z l) {n : Int} (hn : isN n w = true) (hb : BothR z (V.just w n) z') : AddI w (R ++ [(n, 0)]) z' l := by
  have hn' := isN_le hn
  have hmw : mostV w ≤ 4294967295 := by
    have := (ok_in s.ok).big
    rw [s.w] at this; omega
  refine ⟨hb.ok, hb.w.trans s.w, fun r hr h0 => ?_, fun r hr h0 => ?_, fun r hr h0 => ?_, fun x hx => ?_, s.nd, fun m hm => ?_⟩
  · rcases List.mem_append.1 hr with hr | hr
    · exact s.rng r hr h0
    · simp at hr
      subst hr
      exact hn
  · rcases List.mem_append.1 hr with hr | hr
    · have hr' := isN_le (s.rng r hr h0)
      exact hb.left _ hr'.1 (by rw [s.w]; exact hr'.2) (s.num r hr h0)
    · simp at hr
      subst hr
      exact hb.right _ hn'.1 hn'.2 (by rw [just_has hn'.1 (by omega)]; simp)
  · rcases List.mem_append.1 hr with hr | hr
    · exact s.bad r hr h0
    · simp at hr
      subst hr
      exact absurd rfl h0
  · obtain ⟨r, hr, h⟩ := s.of x hx
    exact ⟨r, List.mem_append_left _ hr, h⟩
  · have e := hm (n, 0) (by simp) rfl
    simp at e
    subst e
    have := hb.one n (fun y y0 y1 hy => ?_)
    · rw [s.w] at this; exact this
    · rw [s.w] at y1
      rcases hy with hy | hy
      · exact s.one n (fun r hr => hm r (List.mem_append_left _ hr)) y y0 y1 hy
      · rw [just_has y0 (by omega)] at hy
        simpa using hy
theorem AddI.addBad {w : Int} {R : List (Int × Int)} {z : V} {l : List Int} (s : AddI w R z l) {n bad : Int} (hb : bad ≠ 0) : AddI w (R ++ [(n, bad)]) z (addB l bad) := by
  refine ⟨s.ok, s.w, fun r hr h0 => ?_, fun r hr h0 => ?_, fun r hr h0 => ?_, fun x hx => ?_, addB_nd s.nd, fun m hm => s.one m fun r hr => hm r (List.mem_append_left _ hr)⟩
  · rcases List.mem_append.1 hr with hr | hr
    · exact s.rng r hr h0
    · simp at hr
      subst hr
      exact absurd h0 hb
  · rcases List.mem_append.1 hr with hr | hr
    · exact s.num r hr h0
    · simp at hr
      subst hr
      exact absurd h0 hb
  · rcases List.mem_append.1 hr with hr | hr
    · exact addB_sub (s.bad r hr h0)
    · simp at hr
      subst hr
      exact addB_mem
  · rcases addB_of hx with hx | rfl
    · obtain ⟨r, hr, h⟩ := s.of x hx
      exact ⟨r, List.mem_append_left _ hr, h⟩
    · exact ⟨(n, x), by simp, rfl, hb⟩
theorem AddI.can {w : Int} {R : List (Int × Int)} {z : V} {l : List Int} (s : AddI w R z l) {op k : Int} (h : ∀ r ∈ R, r.2 = 0 ∨ canK op k r.2 = true) : ∀ x ∈ l, canK op k x = true := fun x hx => by
  obtain ⟨r, hr, rfl, h0⟩ := s.of x hx
  rcases h r hr with h | h
  · exact absurd h h0
  · exact h
/-- What an operator of two sets tells. -/
structure DoR (op k : Int) (a b z : V) (l : List Int) : Prop extends FoundR op k a b z l where
  void : (a.nextR 0 < 0 ∨ b.nextR 0 < 0) → z.nextR 0 < 0 ∧ l = []
  one : a.is1 = true → b.is1 = true → if (twoK op k (a.nextR 0) (b.nextR 0)).2 = 0 then z.nextR 0 = (twoK op k (a.nextR 0) (b.nextR 0)).1 ∧ z.is1 = true ∧ l = [] else z.nextR 0 < 0 ∧ l = [(twoK op k (a.nextR 0) (b.nextR 0)).2]
theorem members_one {v : V} (h : v.is1 = true) : v.members 16 = [v.nextR 0] := by
  simp [V.is1] at h
  unfold V.members V.mem
  rw [if_neg (by omega)]
  unfold V.mem
  rw [if_pos h.2]
def pairsL (op k : Int) (x y : List Int) : List (Int × Int) := x.flatMap fun u => y.map fun v => twoK op k u v
theorem do_void {op k : Int} {a b : V} (ha : a.ok = true) (hb : b.ok = true) (h : a.nextR 0 < 0 ∨ b.nextR 0 < 0) : DoR op k a b (V.nothing (ansW op k)) [] := by
  refine ⟨⟨nothing_ok (ansW_isW op k), rfl, nothing_can op k, by simp, fun x y x0 x1 hx y0 y1 hy => ?_⟩, fun _ => ⟨by rw [nothing_next]; decide, rfl⟩, fun h1 h2 => ?_⟩
  · exfalso
    rcases h with h | h
    · rw [void_has ha h x x0 x1] at hx; cases hx
    · rw [void_has hb h y y0 y1] at hy; cases hy
  · exfalso
    simp only [V.is1, Bool.and_eq_true, decide_eq_true_eq] at h1 h2
    omega
theorem do_few {op k : Int} {a b z : V} {l : List Int} (hk : isK k = true) (ha : a.ok = true) (hb : b.ok = true) (wa : a.w = ofW k) (wb : b.w = ofW k) (h1 : (a.members 16).length ≤ 16) (h2 : (b.members 16).length ≤ 16)
    (na : ¬ a.nextR 0 < 0) (nb : ¬ b.nextR 0 < 0) (s : AddI (ansW op k) (pairsL op k (a.members 16) (b.members 16)) z l) : DoR op k a b z l := by
  have mem : ∀ u v, u ∈ a.members 16 → v ∈ b.members 16 → twoK op k u v ∈ pairsL op k (a.members 16) (b.members 16) := fun u v hu hv => by
    unfold pairsL
    rw [List.mem_flatMap]
    exact ⟨u, hu, List.mem_map.2 ⟨v, hv, rfl⟩⟩
  refine ⟨⟨s.ok, s.w, s.can fun r hr => ?_, s.nd, fun x y x0 x1 hx y0 y1 hy => ?_⟩, fun h => by omega, fun i1 i2 => ?_⟩
  · unfold pairsL at hr
    rw [List.mem_flatMap] at hr
    obtain ⟨u, _, hr⟩ := hr
    rw [List.mem_map] at hr
    obtain ⟨v, _, rfl⟩ := hr
    exact two_can
  · have hu : x ∈ a.members 16 := mem_all ha 17 0 (by omega) (Nat.lt_succ_of_le h1) x x0 x1 hx
    have hv : y ∈ b.members 16 := mem_all hb 17 0 (by omega) (Nat.lt_succ_of_le h2) y y0 y1 hy
    have hm := mem x y hu hv
    split
    · rename_i h0; exact s.num _ hm h0
    · rename_i h0; exact s.bad _ hm h0
  · have e : pairsL op k (a.members 16) (b.members 16) = [twoK op k (a.nextR 0) (b.nextR 0)] := by
      rw [members_one i1, members_one i2]; rfl
    rw [e] at s
    have ma := is1_mem ha i1
    have mb := is1_mem hb i2
    split
    · rename_i h0
      have hn := two_isN hk ma.1 (by rw [← wa]; exact ma.2.1) mb.1 (by rw [← wb]; exact mb.2.1) h0
      have hn' := isN_le hn
      obtain ⟨g1, g2⟩ := single_of s.ok hn'.1 (by rw [s.w]; exact hn'.2) (s.num _ (by simp) h0) (by rw [s.w]; exact s.one _ (fun r hr _ => by simp at hr; rw [hr]))
      refine ⟨g1, g2, List.eq_nil_iff_forall_not_mem.2 fun x hx => ?_⟩
      obtain ⟨r, hr, rfl, hne⟩ := s.of x hx
      simp at hr
      rw [hr] at hne
      exact hne h0
    · rename_i h0
      refine ⟨void_of s.ok fun n n0 n1 => ?_, ?_⟩
      · cases hz : z.has n
        · rfl
        · rw [s.w] at n1
          have vac : ∀ m : Int, ∀ r ∈ [twoK op k (a.nextR 0) (b.nextR 0)], r.2 = 0 → r.1 = m := fun m r hr hr0 => by
            simp at hr
            rw [hr] at hr0
            exact absurd hr0 h0
          have e0 := s.one 0 (vac 0) n n0 n1 hz
          have e1 := s.one 1 (vac 1) n n0 n1 hz
          omega
      · have hm := s.bad _ (by simp) h0
        have hall : ∀ x ∈ l, x = (twoK op k (a.nextR 0) (b.nextR 0)).2 := fun x hx => by
          obtain ⟨r, hr, rfl, hne⟩ := s.of x hx
          simp at hr
          rw [hr]
        generalize (twoK op k (a.nextR 0) (b.nextR 0)).2 = t at *
        have hnd := s.nd
        match l, hm, hall, hnd with
        | [x], hm, hall, _ => rw [hall x (by simp)]
        | x :: y :: l, _, hall, hnd =>
          have e1 := hall x (by simp)
          have e2 := hall y (by simp)
          subst e1
          simp [e2] at hnd
theorem do_many {op k : Int} {a b z : V} {l : List Int} (s : FoundR op k a b z l) (na : ¬ a.nextR 0 < 0) (nb : ¬ b.nextR 0 < 0) (h : ¬ ((a.members 16).length ≤ 16 ∧ (b.members 16).length ≤ 16)) : DoR op k a b z l := by
  refine ⟨s, fun h => by omega, fun i1 i2 => ?_⟩
  exact absurd ⟨by rw [members_one i1]; simp, by rw [members_one i2]; simp⟩ h
/-- The classes in another order. -/
theorem DoR.perm {op k : Int} {a b z : V} {l l' : List Int} (s : DoR op k a b z l) (p : l'.Perm l) : DoR op k a b z l' := by
  refine ⟨⟨s.ok, s.w, fun x hx => s.can x (p.mem_iff.1 hx), (p.nodup_iff).2 s.nd, fun x y x0 x1 hx y0 y1 hy => ?_⟩, fun h => ?_, fun i1 i2 => ?_⟩
  · have := s.all x y x0 x1 hx y0 y1 hy
    split
    · rename_i h0; rw [if_pos h0] at this; exact this
    · rename_i h0; rw [if_neg h0] at this; exact p.mem_iff.2 this
  · obtain ⟨h1, h2⟩ := s.void h
    rw [h2] at p
    exact ⟨h1, p.eq_nil⟩
  · have := s.one i1 i2
    split
    · rename_i h0
      rw [if_pos h0] at this
      obtain ⟨h1, h2, h3⟩ := this
      rw [h3] at p
      exact ⟨h1, h2, p.eq_nil⟩
    · rename_i h0
      rw [if_neg h0] at this
      obtain ⟨h1, h2⟩ := this
      rw [h2] at p
      exact ⟨h1, p.eq_singleton⟩
end Go.Ax

/- Of sets with many members: each operator's answer holds. -/
namespace Go.Ax
open Go
set_option linter.unusedVariables false

theorem seen_least {k : Int} {v : V} {lo hi : Int} (hv : v.w = ofW k) (s : SeenR k v lo hi) : leastK k ≤ lo ∧ lo ≤ mostK k ∧ leastK k ≤ hi ∧ hi ≤ mostK k ∧ lo ≤ hi := by
  obtain ⟨n, n0, n1, nh, e⟩ := s.low
  obtain ⟨m, m0, m1, mh, f⟩ := s.high
  rw [hv] at n1 m1
  have h1 := seen_range n0 n1
  have h2 := seen_range m0 m1
  have h3 := s.all n n0 (by rw [hv]; exact n1) nh
  omega
theorem addB_nil (x : Int) : addB [] x = [x] := rfl
theorem found_span {op k low high : Int} {a b z0 z : V} {l : List Int} {g : Int → Int → Int} (hk : isK k = true) (hans : ansW op k = ofW k) (hc : sgn k = true → canK op k 4 = true) (ht : ∀ x y, twoK op k x y = fitK k (g (seenV k x) (seenV k y)))
    (hs : SpanR k low high z0 [] z l)
    (hg : ∀ x y, 0 ≤ x → x ≤ mostV a.w → a.has x = true → 0 ≤ y → y ≤ mostV b.w → b.has y = true → low ≤ g (seenV k x) (seenV k y) ∧ g (seenV k x) (seenV k y) ≤ high) : FoundR op k a b z l := by
  have hl := hs.bads
  refine ⟨hs.ok, hs.w.trans hans.symm, fun x hx => ?_, ?_, fun x y x0 x1 hx y0 y1 hy => ?_⟩
  · rw [hl] at hx
    split at hx
    · rename_i h
      rw [addB_nil] at hx
      simp at hx
      subst hx
      exact hc h.1
    · cases hx
  · rw [hl]
    split
    · simp [addB_nil]
    · simp
  · obtain ⟨g1, g2⟩ := hg x y x0 x1 hx y0 y1 hy
    rw [ht]
    split
    · rename_i h0; exact hs.all _ g1 g2 h0
    · rename_i h0
      have h4 : (fitK k (g (seenV k x) (seenV k y))).2 = 4 ∧ sgn k = true ∧ (g (seenV k x) (seenV k y) < leastK k ∨ mostK k < g (seenV k x) (seenV k y)) := by
        unfold fitK at h0 ⊢
        split
        · rename_i h; exact ⟨rfl, h⟩
        · rename_i h; rw [if_neg h] at h0; exact absurd rfl h0
      rw [h4.1, hl, if_pos ⟨h4.2.1, by omega⟩, addB_nil]
      simp
theorem found_whole {op k : Int} {a b : V} (hk : isK k = true) (hans : ansW op k = ofW k) (ha : a.w = ofW k) (hb : b.w = ofW k)
    (h : ∀ x y, 0 ≤ x → x ≤ mostV (ofW k) → a.has x = true → 0 ≤ y → y ≤ mostV (ofW k) → b.has y = true → (twoK op k x y).2 = 0) : FoundR op k a b (V.whole (ofW k)) [] := by
  refine ⟨whole_ok (ofW_isW k), hans.symm, nothing_can op k, by simp, fun x y x0 x1 hx y0 y1 hy => ?_⟩
  rw [ha] at x1
  rw [hb] at y1
  have h0 := h x y x0 x1 hx y0 y1 hy
  rw [if_pos h0]
  have := two_isN hk x0 x1 y0 y1 h0
  rw [hans] at this
  exact whole_has (ofW_isW k) this
section
variable {k : Int} {a b : V} {pa pb pc pd : Int} (hk : isK k = true) (sa : SeenR k a pa pb) (sb : SeenR k b pc pd)
include hk sa sb
theorem found_add {z0 z : V} {l : List Int} (hs : SpanR k (pa + pc) (pb + pd) z0 [] z l) : FoundR 8 k a b z l :=
  found_span (g := fun u v => u + v) hk rfl (fun h => by simp [canK, h]) (fun x y => rfl) hs fun x y x0 x1 hx y0 y1 hy => by
    have h1 := sa.all x x0 x1 hx
    have h2 := sb.all y y0 y1 hy
    omega
theorem found_sub {z0 z : V} {l : List Int} (hs : SpanR k (pa - pd) (pb - pc) z0 [] z l) : FoundR 9 k a b z l :=
  found_span (g := fun u v => u - v) hk rfl (fun h => by simp [canK, h]) (fun x y => rfl) hs fun x y x0 x1 hx y0 y1 hy => by
    have h1 := sa.all x x0 x1 hx
    have h2 := sb.all y y0 y1 hy
    omega
theorem found_mul {z0 z : V} {l : List Int} {low high : Int} (m1 : low ≤ pa * pc) (m2 : low ≤ pa * pd) (m3 : low ≤ pb * pc) (m4 : low ≤ pb * pd) (n1 : pa * pc ≤ high) (n2 : pa * pd ≤ high) (n3 : pb * pc ≤ high) (n4 : pb * pd ≤ high)
    (hs : SpanR k low high z0 [] z l) : FoundR 10 k a b z l :=
  found_span (g := fun u v => u * v) hk rfl (fun h => by simp [canK, h]) (fun x y => rfl) hs fun x y x0 x1 hx y0 y1 hy => by
    have h1 := sa.all x x0 x1 hx
    have h2 := sb.all y y0 y1 hy
    exact ⟨mul_low h1.1 h1.2 h2.1 h2.2 m1 m2 m3 m4, mul_high h1.1 h1.2 h2.1 h2.2 n1 n2 n3 n4⟩
end
theorem found_mul_whole {k : Int} {a b : V} {pa pb : Int} (hk : isK k = true) (wa : a.w = ofW k) (wb : b.w = ofW k) (sa : SeenR k a pa pb) (h : 2147483648 < pb) : FoundR 10 k a b (V.whole (ofW k)) [] := by
  refine found_whole hk rfl wa wb fun x y x0 x1 hx y0 y1 hy => ?_
  have hb := seen_least wa sa
  have hs : sgn k = false := by
    cases hq : sgn k
    · rfl
    · have : mostK k ≤ 2147483647 := by
        rcases isK_cases hk with rfl | rfl | rfl | rfl | rfl | rfl <;> first | (revert hq; decide +kernel) | decide +kernel
      omega
  show (fitK k _).2 = 0
  unfold fitK
  rw [if_neg (by rw [hs]; simp)]
def farV (op pa pb pc pd : Int) : Int := if op = 12 then mn2 (mx (mx (mx pa (-pa)) pb) (-pb)) (mx (mx (mx pc (-pc)) pd) (-pd) - 1) else mx (mx (mx pa (-pa)) pb) (-pb)
def lowD (op k pa pc far : Int) : Int := if 0 ≤ pa ∧ (op = 12 ∨ 0 ≤ pc) then 0 else mx (leastK k) (-far)
def highD (op k pb far : Int) : Int := if pb ≤ 0 ∧ op = 12 then 0 else mn2 (mostK k) far
theorem far_pos (pa pb : Int) : 0 ≤ mx (mx (mx pa (-pa)) pb) (-pb) := by
  have h1 := mx_le pa (-pa)
  have h2 := mx_le (mx pa (-pa)) pb
  have h3 := mx_le (mx (mx pa (-pa)) pb) (-pb)
  omega
theorem far_abs {pa pb u : Int} (h0 : pa ≤ u) (h1 : u ≤ pb) : (u.natAbs : Int) ≤ mx (mx (mx pa (-pa)) pb) (-pb) := by
  have h1 := mx_le pa (-pa)
  have h2 := mx_le (mx pa (-pa)) pb
  have h3 := mx_le (mx (mx pa (-pa)) pb) (-pb)
  omega
theorem div_in {op k pa pb pc pd u v : Int} (hk : isK k = true) (hop : op = 11 ∨ op = 12) (u0 : pa ≤ u) (u1 : u ≤ pb) (v0 : pc ≤ v) (v1 : v ≤ pd) (ul : leastK k ≤ u) (um : u ≤ mostK k) (vl : leastK k ≤ v) (hv : v ≠ 0) (h : ¬ (sgn k = true ∧ u = leastK k ∧ v = -1)) :
    0 ≤ farV op pa pb pc pd ∧ lowD op k pa pc (farV op pa pb pc pd) ≤ (if op = 11 then u.tdiv v else u.tmod v) ∧ (if op = 11 then u.tdiv v else u.tmod v) ≤ highD op k pb (farV op pa pb pc pd) := by
  have d := div_facts u v
  have f1 := far_abs u0 u1
  have f2 := far_abs v0 v1
  rcases hop with rfl | rfl
  · have r := tdiv_range hk ul um vl hv h
    have hq := d.q
    simp only [if_true, farV, lowD, highD, show ((11 : Int) = 12) = False from by simp, false_or, and_false, if_false]
    generalize mx (mx (mx pa (-pa)) pb) (-pb) = f at *
    refine ⟨by omega, ?_, ?_⟩
    · split
      · exact d.qs (by omega) (by omega)
      · have := mx_le (leastK k) (-f); omega
    · have := mn2_le (mostK k) f; omega
  · have r := tmod_range (v := v) hk ul um
    have hq := d.r
    have hr := d.rv hv
    have hs := d.rs
    have hn := d.rn
    simp only [if_true, farV, lowD, highD, if_neg (show ¬ (12 : Int) = 11 by decide), true_or, and_true]
    generalize mx (mx (mx pa (-pa)) pb) (-pb) = f at *
    generalize mx (mx (mx pc (-pc)) pd) (-pd) = g at *
    have hm := mn2_le f (g - 1)
    generalize mn2 f (g - 1) = far at *
    refine ⟨by omega, ?_, ?_⟩
    · split
      · exact hs (by omega)
      · have := mx_le (leastK k) (-far); omega
    · split
      · exact hn (by omega)
      · have := mn2_le (mostK k) far; omega
def badD (k pa pc pd : Int) : List Int :=
  if sgn k = true ∧ pa = leastK k ∧ pc ≤ -1 ∧ -1 ≤ pd then addB (if pc ≤ 0 ∧ 0 ≤ pd then addB [] 6 else []) 4 else if pc ≤ 0 ∧ 0 ≤ pd then addB [] 6 else []
theorem low_high {op k pa pb pc far : Int} (hk : isK k = true) (h : 0 ≤ far) : leastK k ≤ lowD op k pa pc far ∧ lowD op k pa pc far ≤ highD op k pb far ∧ highD op k pb far ≤ mostK k := by
  obtain ⟨hs, _⟩ := kinds hk
  have h1 := mx_le (leastK k) (-far)
  have h2 := mn2_le (mostK k) far
  unfold lowD highD
  split <;> split <;> omega
theorem found_div {op k : Int} {a b : V} {pa pb pc pd : Int} (hk : isK k = true) (hop : op = 11 ∨ op = 12) (wa : a.w = ofW k) (wb : b.w = ofW k) (sa : SeenR k a pa pb) (sb : SeenR k b pc pd) {z0 z : V} {l : List Int} (hz0 : z0.ok = true) (hw0 : z0.w = ofW k)
    (h : (farV op pa pb pc pd < 0 ∧ z = z0 ∧ l = badD k pa pc pd) ∨ (0 ≤ farV op pa pb pc pd ∧ SpanR k (lowD op k pa pc (farV op pa pb pc pd)) (highD op k pb (farV op pa pb pc pd)) z0 (badD k pa pc pd) z l)) : FoundR op k a b z l := by
  have hans : ansW op k = ofW k := by unfold ansW; rw [if_neg (by omega)]
  have ht : ∀ x y, twoK op k x y = divK op k (seenV k x) (seenV k y) := fun x y => by
    unfold twoK
    rcases hop with rfl | rfl <;> rfl
  have hl : l = badD k pa pc pd := by
    rcases h with ⟨_, _, h⟩ | ⟨h0, h⟩
    · exact h
    · have := low_high (op := op) (pa := pa) (pb := pb) (pc := pc) hk h0
      rw [h.bads, if_neg (by omega)]
  have h4 : sgn k = true ∧ pa = leastK k ∧ pc ≤ -1 ∧ -1 ≤ pd → (4 : Int) ∈ l := fun h => by rw [hl]; unfold badD; rw [if_pos h]; exact addB_mem
  have h6 : pc ≤ 0 ∧ 0 ≤ pd → (6 : Int) ∈ l := fun h => by
    rw [hl]; unfold badD
    rw [if_pos h]
    split
    · exact addB_sub addB_mem
    · exact addB_mem
  have hcan : ∀ x ∈ l, canK op k x = true := fun x hx => by
    rw [hl] at hx
    have h6c : canK op k 6 = true := by unfold canK; rw [if_neg (by omega), if_pos (by omega)]; rfl
    have in6 : ∀ y ∈ (if pc ≤ 0 ∧ 0 ≤ pd then addB [] 6 else []), y = (6 : Int) := fun y hy => by
      split at hy
      · simpa [addB_nil] using hy
      · cases hy
    unfold badD at hx
    split at hx
    · rename_i hc
      rcases addB_of hx with hx | rfl
      · rw [in6 x hx]; exact h6c
      · unfold canK; rw [if_neg (by omega), if_pos (by omega), hc.1]; rfl
    · rw [in6 x hx]; exact h6c
  have hnd : l.Nodup := by
    rw [hl]; unfold badD
    have : (if pc ≤ 0 ∧ 0 ≤ pd then addB [] 6 else []).Nodup := by
      split
      · exact addB_nd (by simp)
      · simp
    split
    · exact addB_nd this
    · exact this
  refine ⟨?_, ?_, hcan, hnd, fun x y x0 x1 hx y0 y1 hy => ?_⟩
  · rcases h with ⟨_, rfl, _⟩ | ⟨_, h⟩
    · exact hz0
    · exact h.ok
  · rw [hans]
    rcases h with ⟨_, rfl, _⟩ | ⟨_, h⟩
    · exact hw0
    · exact h.w
  · have hu := sa.all x x0 x1 hx
    have hv := sb.all y y0 y1 hy
    have hul := seen_range x0 (by rw [← wa]; exact x1) (k := k)
    have hvl := seen_range y0 (by rw [← wb]; exact y1) (k := k)
    have hla := seen_least wa sa
    rw [ht]
    by_cases c0 : seenV k y = 0
    · have e : divK op k (seenV k x) (seenV k y) = (0, 6) := by unfold divK; rw [if_pos c0]
      rw [e, if_neg (by decide)]
      exact h6 (by omega)
    by_cases c1 : sgn k = true ∧ seenV k x = leastK k ∧ seenV k y = -1
    · have e : divK op k (seenV k x) (seenV k y) = (0, 4) := by unfold divK; rw [if_neg c0, if_pos c1]
      rw [e, if_neg (by decide)]
      exact h4 ⟨c1.1, by omega, by omega, by omega⟩
    have e : divK op k (seenV k x) (seenV k y) = ((if op = 11 then (seenV k x).tdiv (seenV k y) else (seenV k x).tmod (seenV k y)) % 2 ^ (ofW k).toNat, 0) := by unfold divK; rw [if_neg c0, if_neg c1]
    rw [e, if_pos rfl]
    obtain ⟨k0, k1, k2⟩ := div_in hk hop hu.1 hu.2 hv.1 hv.2 hul.1 hul.2 hvl.1 c0 c1
    rcases h with ⟨hf, _, _⟩ | ⟨_, h⟩
    · omega
    · have lh := low_high (op := op) (pa := pa) (pb := pb) (pc := pc) hk k0
      have fi := fit_in (k := k) (v := if op = 11 then (seenV k x).tdiv (seenV k y) else (seenV k x).tmod (seenV k y)) (by omega) (by omega)
      have := h.all _ k1 k2 (by rw [fi])
      rw [fi] at this
      exact this
/-- What comparing tells. -/
theorem found_cmp {op k : Int} {a b : V} {yes no : Bool} {z : V} (hop : op = 18 ∨ op = 19) (h : AddI 32 ((if yes then [(1, 0)] else []) ++ (if no then [(0, 0)] else [])) z [])
    (hy : ∀ x y, 0 ≤ x → x ≤ mostV a.w → a.has x = true → 0 ≤ y → y ≤ mostV b.w → b.has y = true → (if op = 18 then x = y else seenV k x < seenV k y) → yes = true)
    (hn : ∀ x y, 0 ≤ x → x ≤ mostV a.w → a.has x = true → 0 ≤ y → y ≤ mostV b.w → b.has y = true → ¬ (if op = 18 then x = y else seenV k x < seenV k y) → no = true) : FoundR op k a b z [] := by
  have hans : ansW op k = 32 := by unfold ansW; rw [if_pos (by omega)]
  refine ⟨h.ok, h.w.trans hans.symm, nothing_can op k, by simp, fun x y x0 x1 hx y0 y1 hb => ?_⟩
  have ht : twoK op k x y = (if (if op = 18 then x = y else seenV k x < seenV k y) then 1 else 0, 0) := by
    unfold twoK
    rcases hop with rfl | rfl <;> simp
  rw [ht, if_pos rfl]
  by_cases c : (if op = 18 then x = y else seenV k x < seenV k y)
  · rw [if_pos c]
    have := hy x y x0 x1 hx y0 y1 hb c
    subst this
    exact h.num (1, 0) (by simp) rfl
  · rw [if_neg c]
    have := hn x y x0 x1 hx y0 y1 hb c
    subst this
    exact h.num (0, 0) (by simp) rfl
/-- What bits tell. -/
theorem found_bits {op k : Int} {a b : V} (hk : isK k = true) (hop : op = 13 ∨ op = 14 ∨ op = 15) (ha : a.ok = true) (hb : b.ok = true) (wa : a.w = ofW k) (wb : b.w = ofW k) {aB aF bB bF : Nat} (ea : a.bits = aB) (fa : a.free = aF) (eb : b.bits = bB) (fb : b.free = bF) :
    FoundR op k a b (bitV (ofW k) (bitO op aB aF bB bF) (bitM op aB aF bB bF)) [] := by
  have hans : ansW op k = ofW k := by unfold ansW; rw [if_neg (by omega)]
  have hW := ofW_isW k
  have hp := pow_lt63 (isW_le hW).2
  refine ⟨bitV_ok hW _ _, hans.symm, nothing_can op k, by simp, fun x y x0 x1 hx y0 y1 hy => ?_⟩
  have ht : twoK op k x y = (bitK op x y, 0) := by
    unfold twoK
    rcases hop with rfl | rfl | rfl <;> rfl
  rw [ht, if_pos rfl]
  rw [wa] at x1
  rw [wb] at y1
  obtain ⟨x, rfl, hxl⟩ := nat_of x0 x1
  obtain ⟨y, rfl, hyl⟩ := nat_of y0 y1
  rw [bitK_nat (Nat.lt_trans hxl hp) (Nat.lt_trans hyl hp)]
  refine bitV_has hW (bitR_lt hxl hyl) (bit_sub ?_ ?_)
  · have h := (has_split.1 hx).2.1
    have hF := (ok_in ha).free
    rw [fa, wa] at hF
    obtain ⟨f, hf1, hf2⟩ := nat_of hF.1 hF.2
    have : aF = f := by omega
    subst this
    rw [ea, fa, bclr_nat (Nat.lt_trans hxl hp) (Nat.lt_trans hf2 hp)] at h
    exact_mod_cast h
  · have h := (has_split.1 hy).2.1
    have hF := (ok_in hb).free
    rw [fb, wb] at hF
    obtain ⟨f, hf1, hf2⟩ := nat_of hF.1 hF.2
    have : bF = f := by omega
    subst this
    rw [eb, fb, bclr_nat (Nat.lt_trans hyl hp) (Nat.lt_trans hf2 hp)] at h
    exact_mod_cast h
end Go.Ax

/- Of sets with many members: bits moved. -/
namespace Go.Ax
open Go
set_option linter.unusedVariables false

theorem seen_raw {k y : Int} (hk : isK k = true) (y0 : 0 ≤ y) (y1 : y ≤ mostV (ofW k)) : (seenV k y = y ∨ seenV k y < 0) ∧ (seenV k y < 0 → ofW k ≤ y) := by
  rcases isK_cases hk with rfl | rfl | rfl | rfl | rfl | rfl <;> simp only [seenV, lookV, sgn, ofW, halfV, mostV] at y1 ⊢ <;> simp at y1 ⊢ <;> (try split) <;> omega
theorem ofW_most (k : Int) : 8 ≤ ofW k ∧ ofW k ≤ 32 ∧ ofW k - 1 ≤ mostV (ofW k) ∧ ofW k ≤ mostV (ofW k) := by
  rcases pow_w (ofW_isW k) with ⟨h, _, m, _⟩ | ⟨h, _, m, _⟩ | ⟨h, _, m, _⟩ <;> rw [m] <;> omega
/-- Which places a set has to move by. -/
structure MoveR (k : Int) (b : V) (l : List Int) (c d : Int) : Prop where
  bad : ∀ y, 0 ≤ y → y ≤ mostV (ofW k) → b.has y = true → (seenV k y < 0 ∨ ofW k ≤ seenV k y) → (5 : Int) ∈ l
  only : ∀ x ∈ l, x = (5 : Int)
  nd : l.Nodup
  fine : ∀ y, 0 ≤ y → y ≤ mostV (ofW k) → b.has y = true → ¬ (seenV k y < 0 ∨ ofW k ≤ seenV k y) → seenV k y = y ∧ 0 ≤ d ∧ c ≤ y ∧ y ≤ d
  dw : d < ofW k
theorem move_of {k : Int} {b : V} (hk : isK k = true) (hb : b.ok = true) (wb : b.w = ofW k) {d : Int} (hd : LastR b (ofW k - 1) d) : MoveR k b (if 0 ≤ b.nextR (ofW k) then [5] else []) (b.nextR 0) d := by
  have hw := ofW_most k
  refine ⟨fun y y0 y1 hy h => ?_, fun x hx => ?_, ?_, fun y y0 y1 hy h => ?_, ?_⟩
  · obtain ⟨h1, h2⟩ := seen_raw hk y0 y1
    have hge : ofW k ≤ y := by
      rcases h with h | h
      · exact h2 h
      · rcases h1 with h1 | h1
        · omega
        · exact h2 h1
    have : 0 ≤ b.nextR (ofW k) := by
      rcases nextR_spec hb (n := ofW k) (by omega) with ⟨g1, _⟩ | ⟨_, g2⟩
      · omega
      · rw [g2 y hge (by rw [wb]; exact y1)] at hy; cases hy
    rw [if_pos this]; simp
  · split at hx
    · simpa using hx
    · cases hx
  · split <;> simp
  · obtain ⟨h1, h2⟩ := seen_raw hk y0 y1
    have e : seenV k y = y := by rcases h1 with h1 | h1 <;> omega
    refine ⟨e, ?_⟩
    have hy1 : y ≤ ofW k - 1 := by omega
    rcases hd with ⟨_, hn⟩ | ⟨g1, g2, g3, g4⟩
    · rw [hn y y0 hy1] at hy; cases hy
    · refine ⟨g1, ?_, ?_⟩
      · rcases nextR_spec hb (n := 0) (by omega) with ⟨k1, k2, k3, k4, k5⟩ | ⟨_, k2⟩
        · by_cases hlt : y < b.nextR 0
          · rw [k5 y y0 hlt] at hy; cases hy
          · omega
        · rw [k2 y y0 (by rw [wb]; exact y1)] at hy; cases hy
      · by_cases hgt : d < y
        · rw [g4 y hgt hy1] at hy; cases hy
        · omega
  · rcases hd with ⟨h, _⟩ | ⟨_, h, _⟩ <;> omega
theorem two_shift {op k x y : Int} (hop : op = 16 ∨ op = 17) : twoK op k x y = shiftK op k x (seenV k x) (seenV k y) := by
  unfold twoK
  rcases hop with rfl | rfl <;> rfl
theorem found_shift {op k c d : Int} {a b z : V} {l : List Int} (hk : isK k = true) (hop : op = 16 ∨ op = 17) (wa : a.w = ofW k) (wb : b.w = ofW k) (hm : MoveR k b l c d) (hz : z.ok = true) (hw : z.w = ofW k)
    (h : ∀ x y, 0 ≤ x → x ≤ mostV (ofW k) → a.has x = true → 0 ≤ y → seenV k y = y → 0 ≤ d → c ≤ y → y ≤ d → z.has ((if op = 16 then x * 2 ^ y.toNat else seenV k x / 2 ^ y.toNat) % 2 ^ (ofW k).toNat) = true) : FoundR op k a b z l := by
  have hans : ansW op k = ofW k := by unfold ansW; rw [if_neg (by omega)]
  refine ⟨hz, hw.trans hans.symm, fun x hx => ?_, hm.nd, fun x y x0 x1 hx y0 y1 hy => ?_⟩
  · rw [hm.only x hx]; unfold canK; rw [if_neg (by omega), if_neg (by omega), if_pos (by omega)]; rfl
  · rw [wa] at x1
    rw [wb] at y1
    rw [two_shift hop]
    by_cases c0 : seenV k y < 0 ∨ ofW k ≤ seenV k y
    · have e : shiftK op k x (seenV k x) (seenV k y) = (0, 5) := by unfold shiftK; rw [if_pos c0]
      rw [e, if_neg (by decide)]
      exact hm.bad y y0 y1 hy c0
    · obtain ⟨e1, e2, e3, e4⟩ := hm.fine y y0 y1 hy c0
      have e : shiftK op k x (seenV k x) (seenV k y) = ((if op = 16 then x * 2 ^ y.toNat else seenV k x / 2 ^ y.toNat) % 2 ^ (ofW k).toNat, 0) := by
        unfold shiftK; rw [if_neg c0, e1]
      rw [e, if_pos rfl]
      exact h x y x0 x1 hx y0 e1 e2 e3 e4
theorem found_shift_none {op k c d : Int} {a b z0 : V} {l : List Int} (hk : isK k = true) (hop : op = 16 ∨ op = 17) (wa : a.w = ofW k) (wb : b.w = ofW k) (hm : MoveR k b l c d) (hd : d < 0) (hz : z0.ok = true) (hw : z0.w = ofW k) : FoundR op k a b z0 l :=
  found_shift hk hop wa wb hm hz hw fun x y _ _ _ _ _ h _ _ => by omega
theorem shr_in {a b u c d y low high : Int} (h0 : a ≤ u) (h1 : u ≤ b) (c0 : 0 ≤ c) (hc : c ≤ y) (hd : y ≤ d) (m1 : low ≤ a / 2 ^ c.toNat) (m2 : low ≤ a / 2 ^ d.toNat) (n3 : b / 2 ^ c.toNat ≤ high) (n4 : b / 2 ^ d.toNat ≤ high) : low ≤ u / 2 ^ y.toNat ∧ u / 2 ^ y.toNat ≤ high := by
  have e1 := shr_mono (e := y.toNat) h0
  have e2 := shr_mono (e := y.toNat) h1
  constructor
  · by_cases ha : 0 ≤ a
    · have := shr_pos (e := y.toNat) (f := d.toNat) ha (by omega); omega
    · have := shr_neg (x := a) (e := c.toNat) (f := y.toNat) (by omega) (by omega); omega
  · by_cases hb : 0 ≤ b
    · have := shr_pos (x := b) (e := c.toNat) (f := y.toNat) hb (by omega); omega
    · have := shr_neg (x := b) (e := y.toNat) (f := d.toNat) (by omega) (by omega); omega
theorem shr_range {k u : Int} {e : Nat} (hk : isK k = true) (h0 : leastK k ≤ u) (h1 : u ≤ mostK k) : leastK k ≤ u / 2 ^ e ∧ u / 2 ^ e ≤ mostK k := by
  obtain ⟨hs, _⟩ := kinds hk
  have h : u / 2 ^ 0 = u := by simp
  by_cases hu : 0 ≤ u
  · have := shr_pos (x := u) (e := 0) (f := e) hu (by omega); omega
  · have := shr_neg (x := u) (e := 0) (f := e) (by omega) (by omega); omega
theorem found_shr {k pa pb c d low high : Int} {a b z0 z : V} {l l' : List Int} (hk : isK k = true) (wa : a.w = ofW k) (wb : b.w = ofW k) (sa : SeenR k a pa pb) (hm : MoveR k b l c d) (c0 : 0 ≤ c)
    (m1 : low ≤ pa / 2 ^ c.toNat) (m2 : low ≤ pa / 2 ^ d.toNat) (n3 : pb / 2 ^ c.toNat ≤ high) (n4 : pb / 2 ^ d.toNat ≤ high) (hl : leastK k ≤ low) (hh : high ≤ mostK k)
    (hs : SpanR k low high z0 l z l') : FoundR 17 k a b z l' := by
  have e : l' = l := by rw [hs.bads, if_neg (by omega)]
  rw [e]
  refine found_shift hk (.inr rfl) wa wb hm hs.ok hs.w fun x y x0 x1 hx y0 hy _ hc hd => ?_
  rw [if_neg (by decide)]
  have hu := sa.all x x0 (by rw [wa]; exact x1) hx
  have hr := shr_in hu.1 hu.2 c0 hc hd m1 m2 n3 n4
  have fi := fit_in (k := k) (v := seenV k x / 2 ^ y.toNat) (by omega) (by omega)
  have := hs.all _ hr.1 hr.2 (by rw [fi])
  rw [fi] at this
  exact this
theorem found_shl_whole {k c d : Int} {a b : V} {l : List Int} (hk : isK k = true) (wa : a.w = ofW k) (wb : b.w = ofW k) (hm : MoveR k b l c d) : FoundR 16 k a b (V.whole (ofW k)) l :=
  found_shift hk (.inl rfl) wa wb hm (whole_ok (ofW_isW k)) rfl fun x y _ _ _ _ _ _ _ _ => whole_has (ofW_isW k) (mod_isN (ofW_isW k))
theorem found_shl {k pa pb c d : Int} {a b : V} {l : List Int} (hk : isK k = true) (wa : a.w = ofW k) (wb : b.w = ofW k) (sa : SeenR k a pa pb) (hm : MoveR k b l c d) (c0 : 0 ≤ c) (hcd : c ≤ d) (ha : 0 ≤ pa) (hab : pa ≤ pb) (hb : pb * 2 ^ d.toNat ≤ mostV (ofW k)) :
    FoundR 16 k a b (V.span (ofW k) (pa * 2 ^ c.toNat) (pb * 2 ^ d.toNat)) l := by
  have hW := ofW_isW k
  have pw : ∀ e : Nat, (0 : Int) < 2 ^ e := fun e => Int.pow_pos (by decide)
  have mono : ∀ {u v : Int} {e f : Int}, 0 ≤ u → u ≤ v → 0 ≤ e → e ≤ f → u * 2 ^ e.toNat ≤ v * 2 ^ f.toNat := fun {u v e f} h0 h1 h2 h3 => by
    have p : (2 : Int) ^ e.toNat ≤ 2 ^ f.toNat := by
      have e1 : (2 : Int) ^ f.toNat = 2 ^ e.toNat * 2 ^ (f.toNat - e.toNat) := by rw [← Int.pow_add]; congr 1; omega
      have p1 := pw (f.toNat - e.toNat)
      have p2 := pw e.toNat
      have := Int.mul_le_mul_of_nonneg_left (show 1 ≤ (2 : Int) ^ (f.toNat - e.toNat) by omega) (show 0 ≤ (2 : Int) ^ e.toNat by omega)
      omega
    exact Int.mul_le_mul h1 p (by have := pw e.toNat; omega) (by omega)
  have nn : ∀ {u : Int} {e : Nat}, 0 ≤ u → 0 ≤ u * 2 ^ e := fun {u e} h => Int.mul_nonneg h (by have := pw e; omega)
  have h1 := mono ha hab c0 hcd
  have n1 : isN (pa * 2 ^ c.toNat) (ofW k) = true := isN_of (nn ha) (by omega)
  have n2 : isN (pb * 2 ^ d.toNat) (ofW k) = true := isN_of (nn (by omega)) hb
  obtain ⟨so, sw⟩ := span_ok hW n1 n2
  refine found_shift hk (.inl rfl) wa wb hm so sw fun x y x0 x1 hx y0 hy _ hc hd => ?_
  rw [if_pos rfl]
  have hu := sa.all x x0 (by rw [wa]; exact x1) hx
  have e : seenV k x = x := by rcases (seen_raw hk x0 x1).1 with h | h <;> omega
  rw [e] at hu
  have g1 := mono ha hu.1 c0 hc
  have g2 := mono x0 hu.2 y0 hd
  have g0 := nn (e := y.toNat) x0
  rw [mod_self g0 (by omega), span_has hW g0 (by omega) n1 n2]
  exact .inl ⟨h1, g1, g2⟩
theorem shl_in {a v : Int} (a0 : 0 ≤ a) (a1 : a ≤ 4294967295) (v0 : 0 ≤ v) (v1 : v < 32) : shlv .i64 a v = a * 2 ^ v.toNat := by
  unfold shlv
  have e : min v.toNat IntKind.i64.bits = v.toNat := by
    have : IntKind.i64.bits = 64 := rfl
    omega
  rw [e]
  have p : (2 : Int) ^ v.toNat ≤ 2147483648 := by
    have e1 : (2 : Int) ^ 31 = 2 ^ v.toNat * 2 ^ (31 - v.toNat) := by rw [← Int.pow_add]; congr 1; omega
    have p1 : (0 : Int) < 2 ^ (31 - v.toNat) := Int.pow_pos (by decide)
    have p2 : (0 : Int) < 2 ^ v.toNat := Int.pow_pos (by decide)
    have := Int.mul_le_mul_of_nonneg_left (show 1 ≤ (2 : Int) ^ (31 - v.toNat) by omega) (show 0 ≤ (2 : Int) ^ v.toNat by omega)
    omega
  have p2 : (0 : Int) < 2 ^ v.toNat := Int.pow_pos (by decide)
  have h1 : a * 2 ^ v.toNat ≤ 4294967295 * 2147483648 := Int.mul_le_mul a1 p (by omega) (by omega)
  have h0 : 0 ≤ a * 2 ^ v.toNat := Int.mul_nonneg a0 (by omega)
  exact w64 (by omega) (by omega)
theorem shr_any {u v : Int} (v0 : 0 ≤ v) (v1 : v < 64) : shrv .i64 u v = u / 2 ^ v.toNat := by
  unfold shrv
  have e : min v.toNat IntKind.i64.bits = v.toNat := by
    have : IntKind.i64.bits = 64 := rfl
    omega
  rw [e]
  exact Int.fdiv_eq_ediv_of_nonneg _ (Int.le_of_lt (Int.pow_pos (by decide)))
theorem mul_bound {k u v : Int} (hk : isK k = true) (hs : sgn k = true) (u0 : leastK k ≤ u) (u1 : u ≤ mostK k) (v0 : leastK k ≤ v) (v1 : v ≤ mostK k) : -4611686018427387904 ≤ u * v ∧ u * v ≤ 4611686018427387904 := by
  have h : mostK k ≤ 2147483647 ∧ -2147483648 ≤ leastK k := by
    rcases isK_cases hk with rfl | rfl | rfl | rfl | rfl | rfl <;> first | (revert hs; decide +kernel) | decide +kernel
  constructor
  · exact mul_low (a := -2147483648) (b := 2147483647) (c := -2147483648) (d := 2147483647) (by omega) (by omega) (by omega) (by omega) (by decide) (by decide) (by decide) (by decide)
  · exact mul_high (a := -2147483648) (b := 2147483647) (c := -2147483648) (d := 2147483647) (by omega) (by omega) (by omega) (by omega) (by decide) (by decide) (by decide) (by decide)
theorem fit_uns {k n : Int} (hs : sgn k = false) : fitK k n = (n % 2 ^ (ofW k).toNat, 0) := by simp [fitK, hs]
theorem fit_wrap {k n : Int} (h : sgn k = false ∨ in64 n) : fitK k (IntKind.i64.wrap n) = fitK k n := by
  rcases h with h | h
  · rw [fit_uns h, fit_uns h, wrap_mod n (ofW_isW k)]
  · rw [w64 h.1 h.2]
theorem u64_in {n : Int} (h0 : 0 ≤ n) (h1 : n < 18446744073709551616) : IntKind.u64.wrap n = n := by
  have : IntKind.u64.wrap n = n % 18446744073709551616 := by simp [IntKind.wrap, IntKind.signed, IntKind.bits]
  rw [this]; omega
theorem u64_shl {w : Int} (hw : isW w = true) : shlv .u64 1 w = 2 ^ w.toNat := by
  rcases pow_w hw with ⟨rfl, _⟩ | ⟨rfl, _⟩ | ⟨rfl, _⟩ <;> decide +kernel
theorem u64_and {n : Nat} {w : Int} (hw : isW w = true) (hn : n < 18446744073709551616) : band .u64 (n : Int) (mostV w) = (n : Int) % 2 ^ w.toNat := by
  have hl := isW_le hw
  have hm : (BitVec.ofInt 64 (mostV w)).toNat = 2 ^ w.toNat - 1 := by
    rw [mostV_nat, ofInt_nat (by have := pow_lt63 hl.2; omega), toNat_nat (by have := pow_lt63 hl.2; omega)]
  have hnn : (BitVec.ofInt 64 (n : Int)).toNat = n := by simp; omega
  unfold band
  rw [show IntKind.u64.bits = 64 from rfl, BitVec.toNat_and, hnn, hm, Nat.and_two_pow_sub_one_eq_mod, u64_in (by omega) (by have := Nat.mod_le n (2 ^ w.toNat); omega)]
  simp
/-- Products of what a kind sees, where not both are great. -/
theorem prod_ok {k pa pb pc pd : Int} (hk : isK k = true) (a0 : leastK k ≤ pa) (ab : pa ≤ pb) (b1 : pb ≤ mostK k) (c0 : leastK k ≤ pc) (cd : pc ≤ pd) (d1 : pd ≤ mostK k) (h : ¬ (2147483648 < pb ∧ 2147483648 < pd)) :
    ∃ lo hi : Int, hi - lo ≤ 9223372036854775807 ∧ -9223372036854775808 ≤ lo ∧ hi ≤ 9223372036854775807 ∧ ∀ x y, pa ≤ x → x ≤ pb → pc ≤ y → y ≤ pd → lo ≤ x * y ∧ x * y ≤ hi := by
  have h : (0 ≤ pa ∧ 0 ≤ pc ∧ pb ≤ 4294967295 ∧ pd ≤ 4294967295) ∨ (-2147483648 ≤ pa ∧ pb ≤ 2147483647 ∧ -2147483648 ≤ pc ∧ pd ≤ 2147483647) := by
    rcases isK_cases hk with rfl | rfl | rfl | rfl | rfl | rfl <;> simp only [leastK, mostK, sgn, ofW, halfV, mostV] at * <;> simp at * <;> omega
  rcases h with ⟨h1, h2, h3, h4⟩ | ⟨h1, h2, h3, h4⟩
  · refine ⟨0, 9223372034707292160, by omega, by omega, by omega, fun x y x0 x1 y0 y1 => ⟨Int.mul_nonneg (by omega) (by omega), ?_⟩⟩
    by_cases hb : pb ≤ 2147483648
    · have : x * y ≤ 2147483648 * 4294967295 := Int.mul_le_mul (by omega) (by omega) (by omega) (by omega)
      omega
    · have : x * y ≤ 4294967295 * 2147483648 := Int.mul_le_mul (by omega) (by omega) (by omega) (by omega)
      omega
  · refine ⟨-4611686016279904256, 4611686018427387904, by omega, by omega, by omega, fun x y x0 x1 y0 y1 => ⟨?_, ?_⟩⟩
    · exact mul_low (a := -2147483648) (b := 2147483647) (c := -2147483648) (d := 2147483647) (by omega) (by omega) (by omega) (by omega) (by decide) (by decide) (by decide) (by decide)
    · exact mul_high (a := -2147483648) (b := 2147483647) (c := -2147483648) (d := 2147483647) (by omega) (by omega) (by omega) (by omega) (by decide) (by decide) (by decide) (by decide)
end Go.Ax

/- What an operator of one number tells, and of a set. -/
namespace Go.Ax
open Go
set_option linter.unusedVariables false

def oneK (op k x : Int) : Int × Int := if op = 5 then twoK 9 k 0 x else if op = 6 then ((-x - 1) % 2 ^ (ofW k).toNat, 0) else (if x = 0 then 1 else 0, 0)
structure OneR (op k : Int) (a z : V) (l : List Int) : Prop where
  ok : z.ok = true
  w : z.w = ansW op k
  can : ∀ x ∈ l, canK op k x = true
  nd : l.Nodup
  all : ∀ x, 0 ≤ x → x ≤ mostV a.w → a.has x = true → if (oneK op k x).2 = 0 then z.has (oneK op k x).1 = true else (oneK op k x).2 ∈ l
  void : a.nextR 0 < 0 → z.nextR 0 < 0 ∧ l = []
  one : a.is1 = true → if (oneK op k (a.nextR 0)).2 = 0 then z.nextR 0 = (oneK op k (a.nextR 0)).1 ∧ z.is1 = true ∧ l = [] else z.nextR 0 < 0 ∧ l = [(oneK op k (a.nextR 0)).2]
theorem just_is1 {w n : Int} (h : isW w = true) (hn : isN n w = true) : (V.just w n).is1 = true ∧ (V.just w n).nextR 0 = n := by
  have h0 := just_next0 h hn
  have h1 := just_next1 h hn
  have := isN_le hn
  refine ⟨?_, h0⟩
  simp only [V.is1, h0, h1]
  simp [this.1]
theorem just_in {w n : Int} (h : isW w = true) (hn : isN n w = true) : 0 ≤ n ∧ n ≤ mostV (V.just w n).w ∧ (V.just w n).has n = true := by
  have := isN_le hn
  have hm := pow_w h
  exact ⟨this.1, this.2, by rw [just_has this.1 (by omega)]; simp⟩
theorem xor_most {k x : Int} (x0 : 0 ≤ x) (x1 : x ≤ mostV (ofW k)) : bxor .i64 x (mostV (ofW k)) = (-x - 1) % 2 ^ (ofW k).toNat := by
  obtain ⟨n, rfl, hn⟩ := nat_of x0 x1
  have hp := pow_lt63 (isW_le (ofW_isW k)).2
  rw [mostV_nat, bxor_nat (Nat.lt_trans hn hp) (by omega)]
  have e : n ^^^ (2 ^ (ofW k).toNat - 1) = 2 ^ (ofW k).toNat - (n + 1) := by
    apply Nat.eq_of_testBit_eq
    intro i
    rw [Nat.testBit_xor, Nat.testBit_two_pow_sub_succ hn, Nat.testBit_two_pow_sub_one]
    by_cases hi : i < (ofW k).toNat
    · simp [hi]
    · have : n.testBit i = false := Nat.testBit_lt_two_pow (Nat.lt_of_lt_of_le hn (Nat.pow_le_pow_right (by decide) (by omega)))
      simp [hi, this]
  rw [e]
  generalize hN : 2 ^ (ofW k).toNat = N at *
  have hc : ((2 : Int) ^ (ofW k).toNat) = (N : Int) := by rw [← hN]; simp
  rw [hc]
  have : (-(n : Int) - 1) % (N : Int) = -(n : Int) - 1 + N := by
    rw [← Int.add_emod_right]
    exact Int.emod_eq_of_lt (by omega) (by omega)
  rw [this]
  omega
theorem can_none {op k : Int} {l : List Int} (h : ∀ x ∈ l, canK op k x = true) (hop : op = 15 ∨ op = 18) : l = [] := by
  rw [List.eq_nil_iff_forall_not_mem]
  intro x hx
  have := h x hx
  unfold canK at this
  rw [if_neg (by omega), if_neg (by omega), if_neg (by omega)] at this
  cases this
theorem one_neg {k : Int} {a z : V} {l : List Int} (hk : isK k = true) (s : DoR 9 k (V.just (ofW k) 0) a z l) : OneR 5 k a z l := by
  have hW := ofW_isW k
  have lw := isW_le hW
  have z0 := isN_zero lw.1 lw.2
  obtain ⟨j0, j1, j2⟩ := just_in hW z0
  obtain ⟨i1, i2⟩ := just_is1 hW z0
  refine ⟨s.ok, s.w, fun x hx => ?_, s.nd, fun x x0 x1 hx => s.all 0 x j0 j1 j2 x0 x1 hx, fun h => s.void (.inr h), fun h => ?_⟩
  · have := s.can x hx
    unfold canK at this ⊢
    rw [if_pos (by omega)] at this ⊢
    exact this
  · have := s.one i1 h
    rw [i2] at this
    exact this
theorem one_not {k : Int} {a z : V} {l : List Int} (hk : isK k = true) (ha : a.ok = true) (wa : a.w = ofW k) (s : DoR 15 k a (V.just (ofW k) (mostV (ofW k))) z l) : OneR 6 k a z l := by
  have hW := ofW_isW k
  have lw := isW_le hW
  have z0 := isN_most lw.1 lw.2
  obtain ⟨j0, j1, j2⟩ := just_in hW z0
  obtain ⟨i1, i2⟩ := just_is1 hW z0
  have e : ∀ x, 0 ≤ x → x ≤ mostV (ofW k) → twoK 15 k x (mostV (ofW k)) = oneK 6 k x := fun x x0 x1 => by
    show (bitK 15 x (mostV (ofW k)), 0) = _
    have : bitK 15 x (mostV (ofW k)) = bxor .i64 x (mostV (ofW k)) := rfl
    rw [this, xor_most x0 x1]; rfl
  have hl := can_none s.can (.inl rfl)
  refine ⟨s.ok, s.w, fun x hx => ?_, s.nd, fun x x0 x1 hx => ?_, fun h => s.void (.inl h), fun h => ?_⟩
  · rw [hl] at hx; cases hx
  · have := s.all x _ x0 x1 hx j0 j1 j2
    rw [e x x0 (by rw [← wa]; exact x1)] at this
    exact this
  · have := s.one h i1
    have m := is1_mem ha h
    rw [i2, e _ m.1 (by rw [← wa]; exact m.2.1)] at this
    exact this
theorem one_zero {k : Int} {a z : V} {l : List Int} (hk : isK k = true) (s : DoR 18 k a (V.just (ofW k) 0) z l) : OneR 7 k a z l := by
  have hW := ofW_isW k
  have lw := isW_le hW
  have z0 := isN_zero lw.1 lw.2
  obtain ⟨j0, j1, j2⟩ := just_in hW z0
  obtain ⟨i1, i2⟩ := just_is1 hW z0
  have hl := can_none s.can (.inr rfl)
  refine ⟨s.ok, s.w, fun x hx => ?_, s.nd, fun x x0 x1 hx => s.all x 0 x0 x1 hx j0 j1 j2, fun h => s.void (.inl h), fun h => ?_⟩
  · rw [hl] at hx; cases hx
  · have := s.one h i1
    rw [i2] at this
    exact this
end Go.Ax
