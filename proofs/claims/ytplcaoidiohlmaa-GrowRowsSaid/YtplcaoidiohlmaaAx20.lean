/- Ranges over the end, as arcs; when one set is told to be in another one. -/
import Derived.Test.YtplcaoidiohlmaaAx19
namespace Go.Ax
open Go
set_option linter.unusedVariables false
set_option linter.unusedSimpArgs false

theorem band_most (x : Int) {k : Nat} (hk : k ≤ 62) : band .i64 x (2 ^ k - 1) = x % 2 ^ k := by
  unfold band
  have hp := pow62 hk
  rw [show IntKind.i64.bits = 64 from rfl, natMost, ofInt_nat (by omega), BitVec.toNat_and, toNat_nat (by omega), Nat.and_two_pow_sub_one_eq_mod, BitVec.toNat_ofInt]
  have e : ((((x % ((2 ^ 64 : Nat) : Int)).toNat % 2 ^ k : Nat)) : Int) = x % 2 ^ k := by
    rw [Int.natCast_emod, Int.toNat_of_nonneg (Int.emod_nonneg _ (by decide)), natPow]
    exact Int.emod_emod_of_dvd _ (by exact Int.natCast_dvd_natCast.2 (Nat.pow_dvd_pow 2 (by omega)))
  rw [wrap_nat (Nat.lt_trans (Nat.mod_lt _ (Nat.two_pow_pos k)) hp), e]
theorem band_mostV (x : Int) {w : Int} (h1 : w ≤ 62) : band .i64 x (mostV w) = x % 2 ^ w.toNat := band_most x (by omega)

@[go_sem] theorem V.take6a {v : V} {l : List Value} : (v.cs ++ l).take 6 = v.cs := rfl
@[go_sem] theorem V.drop6a {v : V} {l : List Value} : (v.cs ++ l).drop 6 = l := rfl
@[go_sem] theorem V.drop12 {v : V} {a b c d e f : Value} : (v.cs ++ [a, b, c, d, e, f]).drop 12 = [] := rfl
@[go_sem] theorem V.get6a {v : V} {u : Value} : (v.cs ++ [u])[6]? = some u := rfl
@[go_sem] theorem V.drop7 {v : V} {u : Value} : (v.cs ++ [u]).drop 7 = [] := rfl
@[go_sem] theorem V.take7 {v : V} {u : Value} : (v.cs ++ [u]).take 7 = v.cs ++ [u] := rfl
@[go_sem] theorem drop_seven {a b c d e f g : Value} : [a, b, c, d, e, f, g].drop 7 = [] := rfl
@[go_sem] theorem V.plain_app {v : V} {l : List Value} : plainCells (v.cs ++ l) = plainCells l := by
  apply propext
  constructor
  · intro h u hu; exact h u (List.mem_append_right _ hu)
  · intro h u hu
    rcases List.mem_append.1 hu with hu | hu
    · exact (of_eq_true V.cs_plain) u hu
    · exact h u hu
attribute [go_sem] List.length_append
/-- A set's fields lie in its width. -/
structure V.In (v : V) : Prop where
  w : isW v.w = true
  low : 0 ≤ v.low ∧ v.low ≤ mostV v.w
  high : 0 ≤ v.high ∧ v.high ≤ mostV v.w
  free : 0 ≤ v.free ∧ v.free ≤ mostV v.w
  bits : 0 ≤ v.bits ∧ v.bits ≤ mostV v.w
theorem ok_in {v : V} (h : v.ok = true) : v.In := by
  have hw : isW v.w = true := by simp [V.ok] at h; exact h.1
  have hm := mostV_pos (isW_le hw).2
  cases hno : v.no
  · simp [V.ok, hw, hno, isN] at h
    exact ⟨hw, h.1.1.1.1, h.1.1.1.2, h.1.1.2, h.1.2⟩
  · simp [V.ok, hw, hno] at h
    have e1 : v.low = 0 := by rw [h]
    have e2 : v.high = 0 := by rw [h]
    have e3 : v.free = 0 := by rw [h]
    have e4 : v.bits = 0 := by rw [h]
    exact ⟨hw, by omega, by omega, by omega, by omega⟩
theorem V.In.big {v : V} (h : v.In) : mostV v.w + 1 = 2 ^ v.w.toNat ∧ mostV v.w ≤ 4294967295 ∧ 255 ≤ mostV v.w := by
  have := h.w
  simp [isW] at this
  refine ⟨by unfold mostV; omega, ?_⟩
  rcases this with (e | e) | e <;> rw [e] <;> decide

/-- How long a set's range is, one less. -/
def V.len (v : V) : Int := (v.high - v.low) % 2 ^ v.w.toNat
def V.from (a b : V) : Int := (a.low - b.low) % 2 ^ a.w.toNat
/-- Is a's range told to lie in b's? -/
def V.inside (a b : V) : Bool := decide (b.len = mostV b.w) || (decide (a.from b ≤ b.len) && decide (a.len ≤ b.len - a.from b))

theorem mod_of {x N : Int} (h : -N ≤ x) (h2 : x < N) (hN : 0 < N) : x % N = if 0 ≤ x then x else x + N := by
  split
  · exact Int.emod_eq_of_lt (by omega) h2
  · rw [← Int.add_emod_right, Int.emod_eq_of_lt (by omega) (by omega)]
theorem within_arc {v : V} (h : v.In) {n : Int} (h0 : 0 ≤ n) (h1 : n ≤ mostV v.w) : v.within n = true ↔ (n - v.low) % 2 ^ v.w.toNat ≤ v.len := by
  have hb := h.big
  have := h.low
  have := h.high
  unfold V.within V.len
  rw [← hb.1, mod_of (by omega) (by omega) (by omega), mod_of (by omega) (by omega) (by omega)]
  split <;> split <;> split <;> simp <;> omega
theorem arc_trans {N n la lb La Lb : Int} (hN : 0 < N) (h3 : La ≤ Lb - (la - lb) % N) (hL : Lb < N) (hn : (n - la) % N ≤ La) : (n - lb) % N ≤ Lb := by
  have e : n - lb = (n - la) + (la - lb) := by omega
  have u0 := Int.emod_nonneg (n - la) (show N ≠ 0 by omega)
  have t0 := Int.emod_nonneg (la - lb) (show N ≠ 0 by omega)
  rw [e, Int.add_emod, Int.emod_eq_of_lt (by omega) (by omega)]
  omega
theorem inside_sound {a b : V} (ha : a.In) (hb : b.In) (hw : a.w = b.w) (h : a.inside b = true) {n : Int} (h0 : 0 ≤ n) (h1 : n ≤ mostV a.w) (hn : a.within n = true) : b.within n = true := by
  have ga := ha.big
  have gb := hb.big
  rw [within_arc ha h0 h1] at hn
  rw [within_arc hb h0 (by rw [← hw]; exact h1)]
  simp [V.inside] at h
  rcases h with h | ⟨h2, h3⟩
  · rw [h]
    have := Int.emod_lt_of_pos (n - b.low) (show 0 < (2 : Int) ^ b.w.toNat by omega)
    omega
  · have hlt : b.len < 2 ^ b.w.toNat := Int.emod_lt_of_pos _ (by omega)
    unfold V.from at h3
    rw [hw] at h3 hn
    exact arc_trans (by omega) h3 hlt hn

/-- Each member of one set is one of another. -/
def Sub (a b : V) : Prop := ∀ n, 0 ≤ n → n ≤ mostV a.w → a.has n = true → b.has n = true
theorem has_split {v : V} {n : Int} : v.has n = true ↔ v.no = false ∧ bclr .i64 n v.free = v.bits ∧ v.within n = true := by
  cases h : v.no <;> simp [V.has, h]
theorem V.In.nat {v : V} (h : v.In) : ∃ f b : Nat, v.free = f ∧ v.bits = b ∧ f < 2 ^ 62 ∧ b < 2 ^ 62 := by
  have := h.big
  have := h.free
  have := h.bits
  exact ⟨v.free.toNat, v.bits.toNat, by omega, by omega, by omega, by omega⟩
theorem mask_sound {fa ba fb bb n : Nat} (h1 : clr fa fb = 0) (h2 : clr ba fb = bb) (h : clr n fa = ba) : clr n fb = bb := by
  apply Nat.eq_of_testBit_eq
  intro i
  have e1 := congrArg (fun x => x.testBit i) h1
  have e2 := congrArg (fun x => x.testBit i) h2
  have e3 := congrArg (fun x => x.testBit i) h
  simp only [clr_bit, Nat.zero_testBit] at e1 e2 e3 ⊢
  rw [← e2, ← e3]
  revert e1
  cases fb.testBit i <;> cases fa.testBit i <;> cases n.testBit i <;> simp

/-- No member is left out, where the members are not too many. -/
theorem mem_all {v : V} (h : v.ok = true) : ∀ (k : Nat) (p : Int), 0 ≤ p → (v.mem k p).length < k → ∀ y, p ≤ y → y ≤ mostV v.w → v.has y = true → y ∈ v.mem k p
  | 0, p, _, hl, _, _, _, _ => by simp at hl
  | k + 1, p, hp, hl, y, h1, h2, h3 => by
    rcases nextR_spec h hp with ⟨g1, g2, g3, g4, g5⟩ | ⟨g1, g2⟩
    · have e : v.mem (k + 1) p = v.nextR p :: v.mem k (v.nextR p + 1) := by rw [V.mem, if_neg (by omega)]
      rw [e] at hl ⊢
      by_cases hy : y < v.nextR p
      · rw [g5 y h1 hy] at h3; cases h3
      · by_cases he : y = v.nextR p
        · rw [he]; exact List.mem_cons_self
        · exact List.mem_cons_of_mem _ (mem_all h k _ (by omega) (by simpa using hl) y (by omega) h2 h3)
    · rw [g2 y h1 h2] at h3; cases h3
theorem mem_has {v : V} (h : v.ok = true) : ∀ (k : Nat) (p : Int), 0 ≤ p → ∀ y ∈ v.mem k p, 0 ≤ y ∧ y ≤ mostV v.w ∧ v.has y = true
  | 0, p, _, y, hy => by simp [V.mem] at hy
  | k + 1, p, hp, y, hy => by
    unfold V.mem at hy
    split at hy
    · simp at hy
    · rename_i hx
      rcases nextR_spec h hp with ⟨g1, g2, g3, g4, g5⟩ | ⟨g1, g2⟩
      · rcases List.mem_cons.1 hy with rfl | hy
        · exact ⟨by omega, g3, g4⟩
        · exact mem_has h k _ (by omega) y hy
      · omega

/-- A set of none or of one number is laid as such. -/
def V.tidy (v : V) : V := if v.nextR 0 < 0 then V.nothing v.w else if v.is1 then V.just v.w (v.nextR 0) else v
/-- Is a told to be in b? -/
def V.under (a b : V) : Bool :=
  decide (a = b) || decide (b = V.whole b.w) || (if (a.members 16).length ≤ 16 then (a.members 16).all b.has
    else !b.no && a.inside b && decide (bclr .i64 a.free b.free = 0) && decide (bclr .i64 a.bits b.free = b.bits))
theorem under_sound {a b : V} (ha : a.ok = true) (hb : b.ok = true) (hw : a.w = b.w) (h : a.under b = true) : Sub a b := by
  intro n h0 h1 hn
  unfold V.under at h
  rw [Bool.or_eq_true, Bool.or_eq_true] at h
  rcases h with (h | h) | h
  · have e : a = b := by simpa using h
    rw [← e]; exact hn
  · have e : b = V.whole b.w := by simpa using h
    rw [e]
    exact whole_has (ok_in hb).w (by simp [isN, h0]; rw [← hw]; exact h1)
  · split at h
    · rename_i hl
      have := mem_all ha 17 0 (by omega) (Nat.lt_succ_of_le hl) n h0 h1 hn
      exact List.all_eq_true.1 h n this
    · simp only [Bool.and_eq_true, Bool.not_eq_true', decide_eq_true_eq] at h
      obtain ⟨⟨⟨h2, h3⟩, h4⟩, h5⟩ := h
      obtain ⟨g1, g2, g3⟩ := has_split.1 hn
      obtain ⟨fa, ba, e1, e2, l1, l2⟩ := (ok_in ha).nat
      obtain ⟨fb, bb, e3, e4, l3, l4⟩ := (ok_in hb).nat
      have hbig := (ok_in ha).big
      obtain ⟨k, rfl⟩ : ∃ k : Nat, n = k := ⟨n.toNat, by omega⟩
      rw [e1, e3, bclr_nat (by omega) (by omega)] at h4
      rw [e2, e3, e4, bclr_nat (by omega) (by omega)] at h5
      rw [e1, e2, bclr_nat (by omega) (by omega)] at g2
      refine has_split.2 ⟨h2, ?_, inside_sound (ok_in ha) (ok_in hb) hw h3 h0 h1 g3⟩
      rw [e3, e4, bclr_nat (by omega) (by omega)]
      exact congrArg Int.ofNat (mask_sound (fa := fa) (ba := ba) (Int.ofNat_inj.1 h4) (Int.ofNat_inj.1 h5) (Int.ofNat_inj.1 g2))
/-- A range that both lie in. -/
def Cov (a b : V) (l h : Int) : Prop := (V.mk a.w false l h 0 0).In ∧ a.inside (V.mk a.w false l h 0 0) = true ∧ b.inside (V.mk a.w false l h 0 0) = true
theorem cov_all {a b : V} (ha : a.In) : Cov a b 0 (mostV a.w) := by
  have hb := ha.big
  have e : (V.mk a.w false 0 (mostV a.w) 0 0).len = mostV a.w := by
    unfold V.len
    simp only [Int.sub_zero]
    exact Int.emod_eq_of_lt (by omega) (by omega)
  refine ⟨⟨ha.w, ⟨Int.le_refl _, ?_⟩, ⟨?_, Int.le_refl _⟩, ⟨Int.le_refl _, ?_⟩, ⟨Int.le_refl _, ?_⟩⟩, ?_, ?_⟩
  · show 0 ≤ mostV a.w; omega
  · show 0 ≤ mostV a.w; omega
  · show 0 ≤ mostV a.w; omega
  · show 0 ≤ mostV a.w; omega
  · simp only [V.inside, e, decide_true, Bool.true_or]
  · simp only [V.inside, e, decide_true, Bool.true_or]
theorem span_in {a x y : V} (ha : a.In) (hx : x.In) (hy : y.In) (ex : x.w = a.w) (ey : y.w = a.w) : (V.mk a.w false x.low y.high 0 0).In := by
  have hb := ha.big
  have h1 := hx.low
  have h2 := hy.high
  rw [ex] at h1
  rw [ey] at h2
  refine ⟨ha.w, h1, h2, ⟨Int.le_refl _, ?_⟩, ⟨Int.le_refl _, ?_⟩⟩ <;> show 0 ≤ mostV a.w <;> omega
end Go.Ax
