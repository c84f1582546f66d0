/- Parts A20to24: the machine's runs of small codes, contracts of functions, plain facts. -/
import Derived.Test.YtmaclakgkllojaaA12to19
/- Ranges over the end, as arcs; when one set is told to be in another one. -/
namespace Go.Ax
open Go
set_option linter.unusedVariables false
set_option linter.unusedSimpArgs false

theorem band_most (x : Int) {k : Nat} (hk : k ≤ 62) : band .i64 x (2 ^ k - 1) = x % 2 ^ k := by
  unfold band
  have hp := pow62 hk
  rw [show IntKind.i64.bits = 64 from rfl, natMost, ofInt_nat (by omega), BitVec.toNat_and, toNat_nat (by omega), Nat.and_two_pow_sub_one_eq_mod, BitVec.toNat_ofInt]
  have e : ((((x % ((2 ^ 64 : Nat) : Int)).toNat % 2 ^ k : Nat)) : Int) = x % 2 ^ k := by
    rw [Int.natCast_emod, Int.toNat_of_nonneg (Int.emod_nonneg _ (by decide)), natPow]
    exact Int.emod_emod_of_dvd _ (by exact Int.natCast_dvd_natCast.2 (Nat.pow_dvd_pow 2 (by omega)))
  rw [wrap_nat (Nat.lt_trans (Nat.mod_lt _ (Nat.two_pow_pos k)) hp), e]
theorem band_mostV (x : Int) {w : Int} (h1 : w ≤ 62) : band .i64 x (mostV w) = x % 2 ^ w.toNat := band_most x (by omega)

@[go_sem] theorem V.take6a {v : V} {l : List Value} : (v.cs ++ l).take 6 = v.cs := rfl
@[go_sem] theorem V.drop6a {v : V} {l : List Value} : (v.cs ++ l).drop 6 = l := rfl
@[go_sem] theorem V.drop12 {v : V} {a b c d e f : Value} : (v.cs ++ [a, b, c, d, e, f]).drop 12 = [] := rfl
@[go_sem] theorem V.get6a {v : V} {u : Value} : (v.cs ++ [u])[6]? = some u := rfl
@[go_sem] theorem V.drop7 {v : V} {u : Value} : (v.cs ++ [u]).drop 7 = [] := rfl
@[go_sem] theorem V.take7 {v : V} {u : Value} : (v.cs ++ [u]).take 7 = v.cs ++ [u] := rfl
@[go_sem] theorem drop_seven {a b c d e f g : Value} : [a, b, c, d, e, f, g].drop 7 = [] := rfl
@[go_sem] theorem V.plain_app {v : V} {l : List Value} : plainCells (v.cs ++ l) = plainCells l := by
  apply propext
  constructor
  · intro h u hu; exact h u (List.mem_append_right _ hu)
  · intro h u hu
    rcases List.mem_append.1 hu with hu | hu
    · exact (of_eq_true V.cs_plain) u hu
    · exact h u hu
attribute [go_sem] List.length_append
/-- A set's fields lie in its width. -/
structure V.In (v : V) : Prop where
  w : isW v.w = true
  low : 0 ≤ v.low ∧ v.low ≤ mostV v.w
  high : 0 ≤ v.high ∧ v.high ≤ mostV v.w
  free : 0 ≤ v.free ∧ v.free ≤ mostV v.w
  bits : 0 ≤ v.bits ∧ v.bits ≤ mostV v.w
theorem ok_in {v : V} (h : v.ok = true) : v.In := by
  have hw : isW v.w = true := by simp [V.ok] at h; exact h.1
  have hm := mostV_pos (isW_le hw).2
  cases hno : v.no
  · simp [V.ok, hw, hno, isN] at h
    exact ⟨hw, h.1.1.1.1, h.1.1.1.2, h.1.1.2, h.1.2⟩
  · simp [V.ok, hw, hno] at h
    have e1 : v.low = 0 := by rw [h]
    have e2 : v.high = 0 := by rw [h]
    have e3 : v.free = 0 := by rw [h]
    have e4 : v.bits = 0 := by rw [h]
    exact ⟨hw, by omega, by omega, by omega, by omega⟩
theorem V.In.big {v : V} (h : v.In) : mostV v.w + 1 = 2 ^ v.w.toNat ∧ mostV v.w ≤ 4294967295 ∧ 255 ≤ mostV v.w := by
  have := h.w
  simp [isW] at this
  refine ⟨by unfold mostV; omega, ?_⟩
  rcases this with (e | e) | e <;> rw [e] <;> decide

/-- How long a set's range is, one less. -/
def V.len (v : V) : Int := (v.high - v.low) % 2 ^ v.w.toNat
def V.from (a b : V) : Int := (a.low - b.low) % 2 ^ a.w.toNat
/-- Is a's range told to lie in b's? -/
def V.inside (a b : V) : Bool := decide (b.len = mostV b.w) || (decide (a.from b ≤ b.len) && decide (a.len ≤ b.len - a.from b))

theorem mod_of {x N : Int} (h : -N ≤ x) (h2 : x < N) (hN : 0 < N) : x % N = if 0 ≤ x then x else x + N := by
  split
  · exact Int.emod_eq_of_lt (by omega) h2
  · rw [← Int.add_emod_right, Int.emod_eq_of_lt (by omega) (by omega)]
theorem within_arc {v : V} (h : v.In) {n : Int} (h0 : 0 ≤ n) (h1 : n ≤ mostV v.w) : v.within n = true ↔ (n - v.low) % 2 ^ v.w.toNat ≤ v.len := by
  have hb := h.big
  have := h.low
  have := h.high
  unfold V.within V.len
  rw [← hb.1, mod_of (by omega) (by omega) (by omega), mod_of (by omega) (by omega) (by omega)]
  split <;> split <;> split <;> simp <;> omega
theorem arc_trans {N n la lb La Lb : Int} (hN : 0 < N) (h3 : La ≤ Lb - (la - lb) % N) (hL : Lb < N) (hn : (n - la) % N ≤ La) : (n - lb) % N ≤ Lb := by
  have e : n - lb = (n - la) + (la - lb) := by omega
  have u0 := Int.emod_nonneg (n - la) (show N ≠ 0 by omega)
  have t0 := Int.emod_nonneg (la - lb) (show N ≠ 0 by omega)
  rw [e, Int.add_emod, Int.emod_eq_of_lt (by omega) (by omega)]
  omega
theorem inside_sound {a b : V} (ha : a.In) (hb : b.In) (hw : a.w = b.w) (h : a.inside b = true) {n : Int} (h0 : 0 ≤ n) (h1 : n ≤ mostV a.w) (hn : a.within n = true) : b.within n = true := by
  have ga := ha.big
  have gb := hb.big
  rw [within_arc ha h0 h1] at hn
  rw [within_arc hb h0 (by rw [← hw]; exact h1)]
  simp [V.inside] at h
  rcases h with h | ⟨h2, h3⟩
  · rw [h]
    have := Int.emod_lt_of_pos (n - b.low) (show 0 < (2 : Int) ^ b.w.toNat by omega)
    omega
  · have hlt : b.len < 2 ^ b.w.toNat := Int.emod_lt_of_pos _ (by omega)
    unfold V.from at h3
    rw [hw] at h3 hn
    exact arc_trans (by omega) h3 hlt hn

/-- Each member of one set is one of another. -/
def Sub (a b : V) : Prop := ∀ n, 0 ≤ n → n ≤ mostV a.w → a.has n = true → b.has n = true
theorem has_split {v : V} {n : Int} : v.has n = true ↔ v.no = false ∧ bclr .i64 n v.free = v.bits ∧ v.within n = true := by
  cases h : v.no <;> simp [V.has, h]
theorem V.In.nat {v : V} (h : v.In) : ∃ f b : Nat, v.free = f ∧ v.bits = b ∧ f < 2 ^ 62 ∧ b < 2 ^ 62 := by
  have := h.big
  have := h.free
  have := h.bits
  exact ⟨v.free.toNat, v.bits.toNat, by omega, by omega, by omega, by omega⟩
theorem mask_sound {fa ba fb bb n : Nat} (h1 : clr fa fb = 0) (h2 : clr ba fb = bb) (h : clr n fa = ba) : clr n fb = bb := by
  apply Nat.eq_of_testBit_eq
  intro i
  have e1 := congrArg (fun x => x.testBit i) h1
  have e2 := congrArg (fun x => x.testBit i) h2
  have e3 := congrArg (fun x => x.testBit i) h
  simp only [clr_bit, Nat.zero_testBit] at e1 e2 e3 ⊢
  rw [← e2, ← e3]
  revert e1
  cases fb.testBit i <;> cases fa.testBit i <;> cases n.testBit i <;> simp

/-- No member is left out, where the members are not too many. -/
theorem mem_all {v : V} (h : v.ok = true) : ∀ (k : Nat) (p : Int), 0 ≤ p → (v.mem k p).length < k → ∀ y, p ≤ y → y ≤ mostV v.w → v.has y = true → y ∈ v.mem k p
  | 0, p, _, hl, _, _, _, _ => by simp at hl
  | k + 1, p, hp, hl, y, h1, h2, h3 => by
    rcases nextR_spec h hp with ⟨g1, g2, g3, g4, g5⟩ | ⟨g1, g2⟩
    · have e : v.mem (k + 1) p = v.nextR p :: v.mem k (v.nextR p + 1) := by rw [V.mem, if_neg (by omega)]
      rw [e] at hl ⊢
      by_cases hy : y < v.nextR p
      · rw [g5 y h1 hy] at h3; cases h3
      · by_cases he : y = v.nextR p
        · rw [he]; exact List.mem_cons_self
        · exact List.mem_cons_of_mem _ (mem_all h k _ (by omega) (by simpa using hl) y (by omega) h2 h3)
    · rw [g2 y h1 h2] at h3; cases h3
theorem mem_has {v : V} (h : v.ok = true) : ∀ (k : Nat) (p : Int), 0 ≤ p → ∀ y ∈ v.mem k p, 0 ≤ y ∧ y ≤ mostV v.w ∧ v.has y = true
  | 0, p, _, y, hy => by simp [V.mem] at hy
  | k + 1, p, hp, y, hy => by
    unfold V.mem at hy
    split at hy
    · simp at hy
    · rename_i hx
      rcases nextR_spec h hp with ⟨g1, g2, g3, g4, g5⟩ | ⟨g1, g2⟩
      · rcases List.mem_cons.1 hy with rfl | hy
        · exact ⟨by omega, g3, g4⟩
        · exact mem_has h k _ (by omega) y hy
      · omega

/-- A set of none or of one number is laid as such. -/
def V.tidy (v : V) : V := if v.nextR 0 < 0 then V.nothing v.w else if v.is1 then V.just v.w (v.nextR 0) else v
/-- Is a told to be in b? -/
def V.under (a b : V) : Bool :=
  decide (a = b) || decide (b = V.whole b.w) || (if (a.members 16).length ≤ 16 then (a.members 16).all b.has
    else !b.no && a.inside b && decide (bclr .i64 a.free b.free = 0) && decide (bclr .i64 a.bits b.free = b.bits))
theorem under_sound {a b : V} (ha : a.ok = true) (hb : b.ok = true) (hw : a.w = b.w) (h : a.under b = true) : Sub a b := by
  intro n h0 h1 hn
  unfold V.under at h
  rw [Bool.or_eq_true, Bool.or_eq_true] at h
  rcases h with (h | h) | h
  · have e : a = b := by simpa using h
    rw [← e]; exact hn
  · have e : b = V.whole b.w := by simpa using h
    rw [e]
    exact whole_has (ok_in hb).w (by simp [isN, h0]; rw [← hw]; exact h1)
  · split at h
    · rename_i hl
      have := mem_all ha 17 0 (by omega) (Nat.lt_succ_of_le hl) n h0 h1 hn
      exact List.all_eq_true.1 h n this
    · simp only [Bool.and_eq_true, Bool.not_eq_true', decide_eq_true_eq] at h
      obtain ⟨⟨⟨h2, h3⟩, h4⟩, h5⟩ := h
      obtain ⟨g1, g2, g3⟩ := has_split.1 hn
      obtain ⟨fa, ba, e1, e2, l1, l2⟩ := (ok_in ha).nat
      obtain ⟨fb, bb, e3, e4, l3, l4⟩ := (ok_in hb).nat
      have hbig := (ok_in ha).big
      obtain ⟨k, rfl⟩ : ∃ k : Nat, n = k := ⟨n.toNat, by omega⟩
      rw [e1, e3, bclr_nat (by omega) (by omega)] at h4
      rw [e2, e3, e4, bclr_nat (by omega) (by omega)] at h5
      rw [e1, e2, bclr_nat (by omega) (by omega)] at g2
      refine has_split.2 ⟨h2, ?_, inside_sound (ok_in ha) (ok_in hb) hw h3 h0 h1 g3⟩
      rw [e3, e4, bclr_nat (by omega) (by omega)]
      exact congrArg Int.ofNat (mask_sound (fa := fa) (ba := ba) (Int.ofNat_inj.1 h4) (Int.ofNat_inj.1 h5) (Int.ofNat_inj.1 g2))
/-- A range that both lie in. -/
def Cov (a b : V) (l h : Int) : Prop := (V.mk a.w false l h 0 0).In ∧ a.inside (V.mk a.w false l h 0 0) = true ∧ b.inside (V.mk a.w false l h 0 0) = true
theorem cov_all {a b : V} (ha : a.In) : Cov a b 0 (mostV a.w) := by
  have hb := ha.big
  have e : (V.mk a.w false 0 (mostV a.w) 0 0).len = mostV a.w := by
    unfold V.len
    simp only [Int.sub_zero]
    exact Int.emod_eq_of_lt (by omega) (by omega)
  refine ⟨⟨ha.w, ⟨Int.le_refl _, ?_⟩, ⟨?_, Int.le_refl _⟩, ⟨Int.le_refl _, ?_⟩, ⟨Int.le_refl _, ?_⟩⟩, ?_, ?_⟩
  · show 0 ≤ mostV a.w; omega
  · show 0 ≤ mostV a.w; omega
  · show 0 ≤ mostV a.w; omega
  · show 0 ≤ mostV a.w; omega
  · simp only [V.inside, e, decide_true, Bool.true_or]
  · simp only [V.inside, e, decide_true, Bool.true_or]
theorem span_in {a x y : V} (ha : a.In) (hx : x.In) (hy : y.In) (ex : x.w = a.w) (ey : y.w = a.w) : (V.mk a.w false x.low y.high 0 0).In := by
  have hb := ha.big
  have h1 := hx.low
  have h2 := hy.high
  rw [ex] at h1
  rw [ey] at h2
  refine ⟨ha.w, h1, h2, ⟨Int.le_refl _, ?_⟩, ⟨Int.le_refl _, ?_⟩⟩ <;> show 0 ≤ mostV a.w <;> omega
end Go.Ax

/- Sets together, and what two sets have both: what the program's ways keep. -/
namespace Go.Ax
open Go
set_option linter.unusedVariables false
set_option linter.unusedSimpArgs false

theorem just_has {w x n : Int} (hn : 0 ≤ n) (hn2 : n < 9223372036854775807) : (V.just w x).has n = decide (n = x) := by
  have hb : bclr .i64 n 0 = n := by
    obtain ⟨k, rfl⟩ : ∃ k : Nat, n = k := ⟨n.toNat, by omega⟩
    have := bclr_nat (a := k) (b := 0) (by omega) (by decide)
    rw [clr_zero] at this
    exact this
  unfold V.has V.within V.just
  simp only [hb, Bool.not_false, Bool.true_and, Int.le_refl, if_true]
  by_cases e : n = x
  · subst e; simp
  · simp [e]
theorem nothing_has {w n : Int} : (V.nothing w).has n = false := rfl
structure Tidied (v t : V) : Prop where
  ok : t.ok = true
  w : t.w = v.w
  has : ∀ n, 0 ≤ n → n ≤ mostV v.w → t.has n = v.has n
theorem tidy_spec {v : V} (h : v.ok = true) : Tidied v v.tidy := by
  have hi := ok_in h
  have hb := hi.big
  unfold V.tidy
  split
  · rename_i h0
    refine ⟨nothing_ok hi.w, rfl, fun n h1 h2 => ?_⟩
    rcases nextR_spec h (n := 0) (by omega) with ⟨g1, _⟩ | ⟨_, g⟩
    · omega
    · rw [g n h1 h2]; rfl
  · rename_i h0
    rcases nextR_spec h (n := 0) (by omega) with ⟨g1, g2, g3, g4, g5⟩ | ⟨g, _⟩
    rotate_left
    · omega
    split
    · rename_i h1
      have h1' : v.nextR (v.nextR 0 + 1) < 0 := by simp [V.is1] at h1; exact h1.2
      refine ⟨just_ok hi.w (by simp [isN]; omega), rfl, fun n q1 q2 => ?_⟩
      rw [just_has q1 (by omega)]
      rcases nextR_spec h (n := v.nextR 0 + 1) (by omega) with ⟨k1, _⟩ | ⟨_, k⟩
      · omega
      by_cases e : n = v.nextR 0
      · subst e; simp [g4]
      · by_cases e2 : n < v.nextR 0
        · rw [g5 n q1 e2]; simp [e]
        · rw [k n (by omega) q2]; simp [e]
    · exact ⟨h, rfl, fun _ _ _ => rfl⟩

/-- What a set of both must be. -/
structure BothR (a b z : V) : Prop where
  ok : z.ok = true
  w : z.w = a.w
  left : Sub a z
  right : Sub b z
  one : ∀ n, (∀ y, 0 ≤ y → y ≤ mostV a.w → a.has y = true ∨ b.has y = true → y = n) → ∀ y, 0 ≤ y → y ≤ mostV a.w → z.has y = true → y = n

def V.mix (a b : V) : Int := bor .i64 (bor .i64 a.free b.free) (bxor .i64 a.bits b.bits)
theorem V.In.nat2 {v : V} (h : v.In) : ∃ f b : Nat, v.free = f ∧ v.bits = b ∧ f < 2 ^ v.w.toNat ∧ b < 2 ^ v.w.toNat ∧ 2 ^ v.w.toNat ≤ 2 ^ 32 := by
  have h1 := h.free
  have h2 := h.bits
  have hw := h.w
  have hb := h.big
  have hp : (2 : Int) ^ v.w.toNat = ((2 ^ v.w.toNat : Nat) : Int) := by simp
  refine ⟨v.free.toNat, v.bits.toNat, by omega, by omega, by omega, by omega, ?_⟩
  simp [isW] at hw
  rcases hw with (e | e) | e <;> rw [e] <;> decide
theorem hasN {v : V} {f b n : Nat} (hno : v.no = false) (hf : v.free = f) (hb : v.bits = b) (f1 : f < 2 ^ 62) (b1 : b < 2 ^ 62) (n1 : n < 2 ^ 62) : v.has (n : Int) = true ↔ clr n f = b ∧ v.within (n : Int) = true := by
  rw [has_split, hf, hb, bclr_nat (by omega) (by omega), Int.ofNat_inj]
  simp [hno]
theorem within_same {v u : V} (h1 : v.low = u.low) (h2 : v.high = u.high) (n : Int) : v.within n = u.within n := by simp only [V.within, h1, h2]

theorem mix_spec {a b : V} (ha : a.ok = true) (hb : b.ok = true) (hw : b.w = a.w) (na : a.no = false) (nb : b.no = false) {l h : Int} (c : Cov a b l h) :
    let z : V := ⟨a.w, false, l, h, a.mix b, bclr .i64 a.bits (a.mix b)⟩
    z.ok = true ∧ Sub a z ∧ Sub b z ∧ (a.free = 0 → b.free = 0 → a.bits = b.bits → ∀ y, 0 ≤ y → y ≤ mostV a.w → z.has y = true → y = a.bits) := by
  intro z
  have ia := ok_in ha
  have ib := ok_in hb
  have hba := ia.big
  obtain ⟨la, ga, fa, ba, _, _, e1, e2, _, _, l1, l2, _, _⟩ := ok_nat ha na
  obtain ⟨lb, gb, fb, bb, _, _, e3, e4, _, _, l3, l4, _, _⟩ := ok_nat hb nb
  obtain ⟨_, _, _, _, _, _, h32⟩ := ia.nat2
  rw [hw] at l3 l4
  have x1 := Nat.or_lt_two_pow l1 l3
  have x2 := Nat.xor_lt_two_pow l2 l4
  have x3 := Nat.or_lt_two_pow x1 x2
  have em : a.mix b = ((fa ||| fb ||| (ba ^^^ bb) : Nat) : Int) := by
    unfold V.mix
    rw [e1, e2, e3, e4, bor_nat (by omega) (by omega), bxor_nat (by omega) (by omega), bor_nat (by omega) (by omega)]
  have eb : bclr .i64 a.bits (a.mix b) = ((clr ba (fa ||| fb ||| (ba ^^^ bb)) : Nat) : Int) := by rw [em, e2, bclr_nat (by omega) (by omega)]
  have x4 := clr_le ba (fa ||| fb ||| (ba ^^^ bb))
  have hp : (2 : Int) ^ a.w.toNat = ((2 ^ a.w.toNat : Nat) : Int) := by simp
  have zin := c.1
  have d0 : clr ba (fa ||| fb ||| (ba ^^^ bb)) &&& (fa ||| fb ||| (ba ^^^ bb)) = 0 := by
    apply Nat.eq_of_testBit_eq
    intro i
    rw [Nat.testBit_and, clr_bit, Nat.zero_testBit]
    cases (fa ||| fb ||| (ba ^^^ bb)).testBit i <;> simp
  have zok : z.ok = true := by
    have q1 := zin.low
    have q2 := zin.high
    have e5 : band .i64 (bclr .i64 a.bits (a.mix b)) (a.mix b) = 0 := by rw [eb, em, band_nat (by omega) (by omega), d0]; rfl
    show (isW a.w && _) = true
    rw [ia.w]
    simp only [Bool.true_and, z, Bool.false_eq_true, if_false]
    have r1 : isN l a.w = true := by simp [isN]; exact q1
    have r2 : isN h a.w = true := by simp [isN]; exact q2
    have r3 : isN (a.mix b) a.w = true := by rw [em]; simp [isN]; omega
    have r4 : isN (bclr .i64 a.bits (a.mix b)) a.w = true := by rw [eb]; simp [isN]; omega
    rw [r1, r2, r3, r4, e5]; rfl
  have zh : ∀ n : Nat, n < 2 ^ 62 → (z.has (n : Int) = true ↔ clr n (fa ||| fb ||| (ba ^^^ bb)) = clr ba (fa ||| fb ||| (ba ^^^ bb)) ∧ z.within (n : Int) = true) := fun n hn => hasN rfl em eb (by omega) (by omega) hn
  have zw : ∀ n, z.within n = (V.mk a.w false l h 0 0).within n := fun n => within_same rfl rfl n
  refine ⟨zok, fun n h0 h1 hn => ?_, fun n h0 h1 hn => ?_, fun f0 f1 b0 y y0 y1 hy => ?_⟩
  · obtain ⟨k, rfl⟩ : ∃ k : Nat, n = k := ⟨n.toNat, by omega⟩
    obtain ⟨g1, g2⟩ := (hasN na e1 e2 (by omega) (by omega) (by omega)).1 hn
    refine (zh k (by omega)).2 ⟨?_, ?_⟩
    · apply Nat.eq_of_testBit_eq
      intro i
      have t := congrArg (fun x => x.testBit i) g1
      simp only [clr_bit, Nat.testBit_or, Nat.testBit_xor] at t ⊢
      rw [← t]
      cases k.testBit i <;> cases fa.testBit i <;> cases fb.testBit i <;> cases bb.testBit i <;> rfl
    · rw [zw]
      exact inside_sound ia zin rfl c.2.1 h0 h1 g2
  · rw [hw] at h1
    obtain ⟨k, rfl⟩ : ∃ k : Nat, n = k := ⟨n.toNat, by omega⟩
    obtain ⟨g1, g2⟩ := (hasN nb e3 e4 (by omega) (by omega) (by omega)).1 hn
    refine (zh k (by omega)).2 ⟨?_, ?_⟩
    · apply Nat.eq_of_testBit_eq
      intro i
      have t := congrArg (fun x => x.testBit i) g1
      simp only [clr_bit, Nat.testBit_or, Nat.testBit_xor] at t ⊢
      revert t
      cases k.testBit i <;> cases fa.testBit i <;> cases fb.testBit i <;> cases bb.testBit i <;> cases ba.testBit i <;> simp
    · rw [zw]
      exact inside_sound ib zin hw c.2.2 h0 (by rw [hw]; exact h1) g2
  · obtain ⟨k, rfl⟩ : ∃ k : Nat, y = k := ⟨y.toNat, by omega⟩
    obtain ⟨g1, _⟩ := (zh k (by omega)).1 hy
    have fa0 : fa = 0 := by omega
    have fb0 : fb = 0 := by omega
    have bb0 : bb = ba := by omega
    rw [fa0, fb0, bb0, Nat.xor_self] at g1
    simp only [Nat.or_self, clr_zero] at g1
    rw [e2, g1]
theorem void_has {v : V} (h : v.ok = true) (h0 : v.nextR 0 < 0) : ∀ n, 0 ≤ n → n ≤ mostV v.w → v.has n = false := by
  rcases nextR_spec h (n := 0) (by omega) with ⟨g, _⟩ | ⟨_, g⟩
  · omega
  · exact g
theorem some_has {v : V} (h : v.ok = true) (h0 : ¬ v.nextR 0 < 0) : 0 ≤ v.nextR 0 ∧ v.nextR 0 ≤ mostV v.w ∧ v.has (v.nextR 0) = true := by
  rcases nextR_spec h (n := 0) (by omega) with ⟨g, _, g2, g3, _⟩ | ⟨g, _⟩
  · exact ⟨g, g2, g3⟩
  · omega
theorem tidy_one {v : V} (h : v.ok = true) (h0 : ¬ v.nextR 0 < 0) {n : Int} (hn : ∀ y, 0 ≤ y → y ≤ mostV v.w → v.has y = true → y = n) : v.tidy = V.just v.w n := by
  obtain ⟨g1, g2, g3⟩ := some_has h h0
  have e := hn _ g1 g2 g3
  have h1 : v.nextR (v.nextR 0 + 1) < 0 := by
    rcases nextR_spec h (n := v.nextR 0 + 1) (by omega) with ⟨k1, k2, k3, k4, _⟩ | ⟨k, _⟩
    · have := hn _ k1 k3 k4; omega
    · omega
  have i1 : v.is1 = true := by simp [V.is1, h1]; omega
  unfold V.tidy
  rw [if_neg h0, if_pos i1, e]
theorem both_void {a b : V} (ha : a.ok = true) (hb : b.ok = true) (hw : b.w = a.w) (h0 : a.nextR 0 < 0) : BothR a b b.tidy := by
  have t := tidy_spec hb
  refine ⟨t.ok, t.w.trans hw, fun n h1 h2 hn => ?_, fun n h1 h2 hn => ?_, fun n hn y h1 h2 hy => ?_⟩
  · rw [void_has ha h0 n h1 h2] at hn; cases hn
  · rw [t.has n h1 h2]; exact hn
  · rw [t.has y h1 (by rw [hw]; exact h2)] at hy
    exact hn y h1 h2 (.inr hy)
theorem both_void' {a b : V} (ha : a.ok = true) (hb : b.ok = true) (hw : b.w = a.w) (h0 : b.nextR 0 < 0) : BothR a b a.tidy := by
  have t := tidy_spec ha
  refine ⟨t.ok, t.w, fun n h1 h2 hn => ?_, fun n h1 h2 hn => ?_, fun n hn y h1 h2 hy => ?_⟩
  · rw [t.has n h1 h2]; exact hn
  · rw [void_has hb h0 n h1 h2] at hn; cases hn
  · rw [t.has y h1 h2] at hy
    exact hn y h1 h2 (.inl hy)
theorem both_same {a : V} (ha : a.ok = true) : BothR a a a :=
  ⟨ha, rfl, fun n _ _ h => h, fun n _ _ h => h, fun n hn y h1 h2 hy => hn y h1 h2 (.inl hy)⟩
theorem some_no {v : V} {n : Int} (h : v.has n = true) : v.no = false := (has_split.1 h).1
theorem both_mix {a b : V} (ha : a.ok = true) (hb : b.ok = true) (hw : b.w = a.w) (h0 : ¬ a.nextR 0 < 0) (h1 : ¬ b.nextR 0 < 0) {l h : Int} (c : Cov a.tidy b.tidy l h) :
    (V.mk a.tidy.w false l h (a.tidy.mix b.tidy) (bclr .i64 a.tidy.bits (a.tidy.mix b.tidy))).ok = true ∧ BothR a b (V.mk a.tidy.w false l h (a.tidy.mix b.tidy) (bclr .i64 a.tidy.bits (a.tidy.mix b.tidy))).tidy := by
  have ta := tidy_spec ha
  have tb := tidy_spec hb
  obtain ⟨a1, a2, a3⟩ := some_has ha h0
  obtain ⟨b1, b2, b3⟩ := some_has hb h1
  have na : a.tidy.no = false := some_no (n := a.nextR 0) (by rw [ta.has _ a1 a2]; exact a3)
  have nb : b.tidy.no = false := some_no (n := b.nextR 0) (by rw [tb.has _ b1 b2]; exact b3)
  have hw' : b.tidy.w = a.tidy.w := by rw [ta.w, tb.w, hw]
  obtain ⟨z1, z2, z3, z4⟩ := mix_spec ta.ok tb.ok hw' na nb c
  have tz := tidy_spec z1
  have ew : (V.mk a.tidy.w false l h (a.tidy.mix b.tidy) (bclr .i64 a.tidy.bits (a.tidy.mix b.tidy))).w = a.w := ta.w
  refine ⟨z1, tz.ok, tz.w.trans ew, fun n q1 q2 hn => ?_, fun n q1 q2 hn => ?_, fun n hn y q1 q2 hy => ?_⟩
  · rw [tz.has n q1 (by rw [ew]; exact q2)]
    exact z2 n q1 (by rw [ta.w]; exact q2) (by rw [ta.has n q1 q2]; exact hn)
  · rw [tz.has n q1 (by rw [ew, ← hw]; exact q2)]
    exact z3 n q1 (by rw [tb.w]; exact q2) (by rw [tb.has n q1 q2]; exact hn)
  · rw [tz.has y q1 (by rw [ew]; exact q2)] at hy
    have ea := tidy_one ha h0 (n := n) (fun y g1 g2 g3 => hn y g1 g2 (.inl g3))
    have eb := tidy_one hb h1 (n := n) (fun y g1 g2 g3 => hn y g1 (by rw [← hw]; exact g2) (.inr g3))
    have := z4 (by rw [ea]; rfl) (by rw [eb]; rfl) (by rw [ea, eb]; rfl) y q1 (by rw [ta.w]; exact q2) hy
    rw [this, ea]; rfl
end Go.Ax

/- What two sets have both. -/
namespace Go.Ax
open Go
set_option linter.unusedVariables false
set_option linter.unusedSimpArgs false
set_option linter.unusedSectionVars false

/-- Where two ranges meet: what is told of it. -/
structure CrossP (a b : V) (l h : Int) : Prop where
  low : 0 ≤ l ∧ l ≤ mostV a.w
  high : 0 ≤ h ∧ h ≤ mostV a.w
  left : ∀ n, 0 ≤ n → n ≤ mostV a.w → (V.mk a.w false l h 0 0).within n = true → a.within n = true
  both : ∀ n, 0 ≤ n → n ≤ mostV a.w → a.within n = true → b.within n = true → (V.mk a.w false l h 0 0).within n = true
  right : (a.low = a.high ∨ b.low = b.high) → ∀ n, 0 ≤ n → n ≤ mostV a.w → (V.mk a.w false l h 0 0).within n = true → b.within n = true

theorem inside_lin {a b : V} (ha : a.In) (hb : b.In) (hw : b.w = a.w) : a.inside b = true ↔ ∃ La Lb f : Int,
    (a.low ≤ a.high ∧ La = a.high - a.low ∨ a.high < a.low ∧ La = a.high - a.low + (mostV a.w + 1)) ∧
    (b.low ≤ b.high ∧ Lb = b.high - b.low ∨ b.high < b.low ∧ Lb = b.high - b.low + (mostV a.w + 1)) ∧
    (b.low ≤ a.low ∧ f = a.low - b.low ∨ a.low < b.low ∧ f = a.low - b.low + (mostV a.w + 1)) ∧ (Lb = mostV a.w ∨ f ≤ Lb ∧ La ≤ Lb - f) := by
  have g := ha.big
  have a1 := ha.low
  have a2 := ha.high
  have b1 := hb.low
  have b2 := hb.high
  rw [hw] at b1 b2
  have eL : a.len = if 0 ≤ a.high - a.low then a.high - a.low else a.high - a.low + (mostV a.w + 1) := by
    unfold V.len; rw [← g.1]; exact mod_of (by omega) (by omega) (by omega)
  have eB : b.len = if 0 ≤ b.high - b.low then b.high - b.low else b.high - b.low + (mostV a.w + 1) := by
    unfold V.len; rw [hw, ← g.1]; exact mod_of (by omega) (by omega) (by omega)
  have eF : a.from b = if 0 ≤ a.low - b.low then a.low - b.low else a.low - b.low + (mostV a.w + 1) := by
    unfold V.from; rw [← g.1]; exact mod_of (by omega) (by omega) (by omega)
  have hi : a.inside b = true ↔ b.len = mostV a.w ∨ a.from b ≤ b.len ∧ a.len ≤ b.len - a.from b := by
    unfold V.inside; rw [hw]; simp
  rw [hi]
  constructor
  · intro h
    refine ⟨a.len, b.len, a.from b, ?_, ?_, ?_, h⟩
    · rw [eL]; split <;> omega
    · rw [eB]; split <;> omega
    · rw [eF]; split <;> omega
  · rintro ⟨La, Lb, f, h1, h2, h3, h4⟩
    have k1 : a.len = La := by rw [eL]; split <;> omega
    have k2 : b.len = Lb := by rw [eB]; split <;> omega
    have k3 : a.from b = f := by rw [eF]; split <;> omega
    rw [k1, k2, k3]; exact h4
theorem within_lin {v : V} {n : Int} : v.within n = true ↔ (v.low ≤ v.high ∧ v.low ≤ n ∧ n ≤ v.high) ∨ (v.high < v.low ∧ (v.low ≤ n ∨ n ≤ v.high)) := by
  unfold V.within
  split <;> simp <;> omega
theorem not_inside {a b : V} (ha : a.In) (hb : b.In) (hw : b.w = a.w) (h : a.inside b = false) {La Lb f : Int}
    (h1 : a.low ≤ a.high ∧ La = a.high - a.low ∨ a.high < a.low ∧ La = a.high - a.low + (mostV a.w + 1))
    (h2 : b.low ≤ b.high ∧ Lb = b.high - b.low ∨ b.high < b.low ∧ Lb = b.high - b.low + (mostV a.w + 1))
    (h3 : b.low ≤ a.low ∧ f = a.low - b.low ∨ a.low < b.low ∧ f = a.low - b.low + (mostV a.w + 1)) : ¬ (Lb = mostV a.w ∨ f ≤ Lb ∧ La ≤ Lb - f) := by
  intro h4
  rw [(inside_lin ha hb hw).2 ⟨La, Lb, f, h1, h2, h3, h4⟩] at h
  cases h
theorem arc_ex (l h N : Int) : ∃ L, l ≤ h ∧ L = h - l ∨ h < l ∧ L = h - l + N := by
  by_cases e : l ≤ h
  · exact ⟨_, .inl ⟨e, rfl⟩⟩
  · exact ⟨_, .inr ⟨by omega, rfl⟩⟩

section
variable {a b : V} (ha : a.In) (hb : b.In) (hw : b.w = a.w)
include ha hb hw
theorem cross_a (h : a.inside b = true) : CrossP a b a.low a.high :=
  ⟨ha.low, ha.high, fun n _ _ h => by rw [← h]; exact within_same rfl rfl n, fun n _ _ h _ => by rw [← h]; exact within_same rfl rfl n, fun _ n h0 h1 hn => inside_sound ha hb hw.symm h h0 h1 (by rw [← hn]; exact within_same rfl rfl n)⟩
theorem cross_b (h : b.inside a = true) : CrossP a b b.low b.high := by
  have b1 := hb.low
  have b2 := hb.high
  rw [hw] at b1 b2
  refine ⟨b1, b2, fun n h0 h1 hn => ?_, fun n _ _ _ hn => by rw [← hn]; exact within_same rfl rfl n, fun _ n _ _ hn => by rw [← hn]; exact within_same rfl rfl n⟩
  refine inside_sound hb ha hw h h0 (by rw [hw]; exact h1) ?_
  rw [← hn]; exact within_same rfl rfl n
theorem cross_c (h2 : b.within a.low = true) (h3 : b.within a.high = true) : CrossP a b a.low a.high :=
  ⟨ha.low, ha.high, fun n _ _ h => by rw [← h]; exact within_same rfl rfl n, fun n _ _ h _ => by rw [← h]; exact within_same rfl rfl n, fun hs n g0 g1 hn => by
    rw [within_lin] at h2 h3 hn ⊢
    simp only at hn
    omega⟩
theorem cross_d (h1 : b.inside a = false) (h2 : b.within a.low = true) (h3 : b.within a.high = false) : CrossP a b a.low b.high := by
  have a1 := ha.low
  have a2 := ha.high
  have b1 := hb.low
  have b2 := hb.high
  rw [hw] at b1 b2
  have h3' : ¬ b.within a.high = true := by rw [h3]; simp
  rw [within_lin] at h2 h3'
  refine ⟨a1, b2, fun n g0 g1 hn => ?_, fun n g0 g1 hn hn2 => ?_, fun hs n g0 g1 hn => ?_⟩
  · rw [within_lin] at hn ⊢
    simp only at hn
    omega
  · rw [within_lin] at hn hn2 ⊢
    simp only
    omega
  · rw [within_lin] at hn ⊢
    simp only at hn
    omega
theorem cross_e (h1 : b.inside a = false) (h2 : b.within a.low = false) (h3 : b.within a.high = true) : CrossP a b b.low a.high := by
  have a1 := ha.low
  have a2 := ha.high
  have b1 := hb.low
  have b2 := hb.high
  rw [hw] at b1 b2
  have h2' : ¬ b.within a.low = true := by rw [h2]; simp
  rw [within_lin] at h3 h2'
  refine ⟨b1, a2, fun n g0 g1 hn => ?_, fun n g0 g1 hn hn2 => ?_, fun hs n g0 g1 hn => ?_⟩
  · rw [within_lin] at hn ⊢
    simp only at hn
    omega
  · rw [within_lin] at hn hn2 ⊢
    simp only
    omega
  · rw [within_lin] at hn ⊢
    simp only at hn
    omega
theorem cross_f (h1 : b.inside a = false) (h2 : b.within a.low = false) (h3 : b.within a.high = false) : ∀ n, 0 ≤ n → n ≤ mostV a.w → a.within n = true → b.within n = true → False := by
  have a1 := ha.low
  have a2 := ha.high
  have b1 := hb.low
  have b2 := hb.high
  rw [hw] at b1 b2
  have h2' : ¬ b.within a.low = true := by rw [h2]; simp
  have h3' : ¬ b.within a.high = true := by rw [h3]; simp
  rw [within_lin] at h2' h3'
  intro n g0 g1 hn hn2
  rw [within_lin] at hn hn2
  obtain ⟨La, q1⟩ := arc_ex b.low b.high (mostV b.w + 1)
  obtain ⟨Lb, q2⟩ := arc_ex a.low a.high (mostV b.w + 1)
  obtain ⟨f, q3⟩ := arc_ex a.low b.low (mostV b.w + 1)
  have := not_inside hb ha hw.symm h1 q1 q2 (by omega : a.low ≤ b.low ∧ f = b.low - a.low ∨ b.low < a.low ∧ f = b.low - a.low + (mostV b.w + 1))
  rw [hw] at *
  omega
end
end Go.Ax

/- What a set of what both have must be, and that it is. -/
namespace Go.Ax
open Go
set_option linter.unusedVariables false
set_option linter.unusedSimpArgs false

theorem single_of {z : V} (hz : z.ok = true) {n : Int} (h0 : 0 ≤ n) (h1 : n ≤ mostV z.w) (hn : z.has n = true) (hy : ∀ y, 0 ≤ y → y ≤ mostV z.w → z.has y = true → y = n) : z.nextR 0 = n ∧ z.is1 = true := by
  have hne : ¬ z.nextR 0 < 0 := by
    intro h
    rw [void_has hz h n h0 h1] at hn; cases hn
  obtain ⟨a1, a2, a3⟩ := some_has hz hne
  have e := hy _ a1 a2 a3
  refine ⟨e, ?_⟩
  have h2 : z.nextR (z.nextR 0 + 1) < 0 := by
    rcases nextR_spec hz (n := z.nextR 0 + 1) (by omega) with ⟨k1, k2, k3, k4, _⟩ | ⟨k, _⟩
    · have := hy _ k1 k3 k4; omega
    · omega
  simp [V.is1, h2]; omega
/-- A single set's members. -/
theorem is1_mem {v : V} (hv : v.ok = true) (h : v.is1 = true) : 0 ≤ v.nextR 0 ∧ v.nextR 0 ≤ mostV v.w ∧ v.has (v.nextR 0) = true ∧ ∀ y, 0 ≤ y → y ≤ mostV v.w → v.has y = true → y = v.nextR 0 := by
  simp [V.is1] at h
  obtain ⟨a1, a2, a3⟩ := some_has hv (by omega)
  refine ⟨a1, a2, a3, fun y h0 h1 hy => ?_⟩
  rcases nextR_spec hv (n := 0) (by omega) with ⟨g1, g2, g3, g4, g5⟩ | ⟨g1, _⟩
  · by_cases e : y = v.nextR 0
    · exact e
    by_cases e2 : y < v.nextR 0
    · rw [g5 y h0 e2] at hy; cases hy
    · rcases nextR_spec hv (n := v.nextR 0 + 1) (by omega) with ⟨k1, _⟩ | ⟨_, k⟩
      · omega
      · rw [k y (by omega) h1] at hy; cases hy
  · omega
structure MeetR (a b z : V) : Prop where
  ok : z.ok = true
  w : z.w = a.w
  left : Sub z a
  both : ∀ n, 0 ≤ n → n ≤ mostV a.w → a.has n = true → b.has n = true → z.has n = true
  void : (∀ n, 0 ≤ n → n ≤ mostV a.w → b.has n = false) → ∀ n, 0 ≤ n → n ≤ mostV a.w → z.has n = false
  right : (a.is1 = true ∨ b.is1 = true) → Sub z b

theorem meet_nothing {a b : V} (ha : a.ok = true) (h : ∀ n, 0 ≤ n → n ≤ mostV a.w → a.has n = true → b.has n = true → False) : MeetR a b (V.nothing a.w) :=
  ⟨nothing_ok (ok_in ha).w, rfl, fun n _ _ h => (by cases h), fun n h0 h1 h2 h3 => (h n h0 h1 h2 h3).elim, fun _ _ _ _ => rfl, fun _ n _ _ h => (by cases h)⟩

theorem meet_masks {a b : V} (ha : a.ok = true) (hb : b.ok = true) (hw : b.w = a.w) (na : a.no = false) (nb : b.no = false) {n : Int} (h0 : 0 ≤ n) (h1 : n ≤ mostV a.w)
    (h2 : a.has n = true) (h3 : b.has n = true) : bclr .i64 (bxor .i64 a.bits b.bits) (bor .i64 a.free b.free) = 0 := by
  have ia := ok_in ha
  have hba := ia.big
  obtain ⟨_, _, fa, ba, _, _, e1, e2, _, _, l1, l2, _, _⟩ := ok_nat ha na
  obtain ⟨_, _, fb, bb, _, _, e3, e4, _, _, l3, l4, _, _⟩ := ok_nat hb nb
  obtain ⟨_, _, _, _, _, _, h32⟩ := ia.nat2
  rw [hw] at l3 l4
  have x1 := Nat.or_lt_two_pow l1 l3
  have x2 := Nat.xor_lt_two_pow l2 l4
  obtain ⟨k, rfl⟩ : ∃ k : Nat, n = k := ⟨n.toNat, by omega⟩
  have g1 := ((hasN na e1 e2 (by omega) (by omega) (by omega)).1 h2).1
  have g2 := ((hasN nb e3 e4 (by omega) (by omega) (by omega)).1 h3).1
  rw [e1, e2, e3, e4, bxor_nat (by omega) (by omega), bor_nat (by omega) (by omega), bclr_nat (by omega) (by omega)]
  have : clr (ba ^^^ bb) (fa ||| fb) = 0 := by
    apply Nat.eq_of_testBit_eq
    intro i
    have t1 := congrArg (fun x => x.testBit i) g1
    have t2 := congrArg (fun x => x.testBit i) g2
    simp only [clr_bit, Nat.testBit_or, Nat.testBit_xor, Nat.zero_testBit] at t1 t2 ⊢
    rw [← t1, ← t2]
    cases k.testBit i <;> cases fa.testBit i <;> cases fb.testBit i <;> rfl
  rw [this]; rfl

theorem meet_mix {a b : V} (ha : a.ok = true) (hb : b.ok = true) (hw : b.w = a.w) (na : a.no = false) (nb : b.no = false)
    (hc : bclr .i64 (bxor .i64 a.bits b.bits) (bor .i64 a.free b.free) = 0) {l h : Int} (c : CrossP a b l h) :
    let z : V := ⟨a.w, false, l, h, band .i64 a.free b.free, bor .i64 a.bits b.bits⟩
    z.ok = true ∧ Sub z a ∧ (∀ n, 0 ≤ n → n ≤ mostV a.w → a.has n = true → b.has n = true → z.has n = true) ∧ ((a.low = a.high ∨ b.low = b.high) → Sub z b) := by
  intro z
  have ia := ok_in ha
  have hba := ia.big
  obtain ⟨_, _, fa, ba, _, _, e1, e2, _, _, l1, l2, d1, _⟩ := ok_nat ha na
  obtain ⟨_, _, fb, bb, _, _, e3, e4, _, _, l3, l4, d2, _⟩ := ok_nat hb nb
  obtain ⟨_, _, _, _, _, _, h32⟩ := ia.nat2
  rw [hw] at l3 l4
  have x1 := Nat.or_lt_two_pow l1 l3
  have x2 := Nat.xor_lt_two_pow l2 l4
  have x3 := Nat.or_lt_two_pow l2 l4
  have x4 : fa &&& fb ≤ fa := Nat.and_le_left
  have hp : (2 : Int) ^ a.w.toNat = ((2 ^ a.w.toNat : Nat) : Int) := by simp
  have ef : band .i64 a.free b.free = ((fa &&& fb : Nat) : Int) := by rw [e1, e3, band_nat (by omega) (by omega)]
  have eb : bor .i64 a.bits b.bits = ((ba ||| bb : Nat) : Int) := by rw [e2, e4, bor_nat (by omega) (by omega)]
  have hc' : clr (ba ^^^ bb) (fa ||| fb) = 0 := by
    rw [e1, e2, e3, e4, bxor_nat (by omega) (by omega), bor_nat (by omega) (by omega), bclr_nat (by omega) (by omega)] at hc
    exact Int.ofNat_inj.1 hc
  have db : ∀ i, (ba.testBit i = true → fa.testBit i = false) ∧ (bb.testBit i = true → fb.testBit i = false) := fun i => ⟨apart_bit d1 i, apart_bit d2 i⟩
  have d0 : (ba ||| bb) &&& (fa &&& fb) = 0 := by
    apply Nat.eq_of_testBit_eq
    intro i
    obtain ⟨p1, p2⟩ := db i
    simp only [Nat.testBit_and, Nat.testBit_or, Nat.zero_testBit]
    revert p1 p2
    cases ba.testBit i <;> cases bb.testBit i <;> cases fa.testBit i <;> cases fb.testBit i <;> simp
  have zok : z.ok = true := by
    have e5 : band .i64 (bor .i64 a.bits b.bits) (band .i64 a.free b.free) = 0 := by rw [eb, ef, band_nat (by omega) (by omega), d0]; rfl
    show (isW a.w && _) = true
    rw [ia.w]
    simp only [Bool.true_and, z, Bool.false_eq_true, if_false]
    have r1 : isN l a.w = true := by simp [isN]; exact c.low
    have r2 : isN h a.w = true := by simp [isN]; exact c.high
    have r3 : isN (band .i64 a.free b.free) a.w = true := by rw [ef]; simp [isN]; omega
    have r4 : isN (bor .i64 a.bits b.bits) a.w = true := by rw [eb]; simp [isN]; omega
    rw [r1, r2, r3, r4, e5]; rfl
  have zh : ∀ n : Nat, n < 2 ^ 62 → (z.has (n : Int) = true ↔ clr n (fa &&& fb) = (ba ||| bb) ∧ z.within (n : Int) = true) := fun n hn => hasN rfl ef eb (by omega) (by omega) hn
  have zw : ∀ n, z.within n = (V.mk a.w false l h 0 0).within n := fun n => within_same rfl rfl n
  refine ⟨zok, fun n h0 h1 hn => ?_, fun n h0 h1 h2 h3 => ?_, fun hs n h0 h1 hn => ?_⟩
  · have h1 : n ≤ mostV a.w := h1
    obtain ⟨k, rfl⟩ : ∃ k : Nat, n = k := ⟨n.toNat, by omega⟩
    obtain ⟨g1, g2⟩ := (zh k (by omega)).1 hn
    refine (hasN na e1 e2 (by omega) (by omega) (by omega)).2 ⟨?_, c.left _ h0 h1 (by rw [← zw]; exact g2)⟩
    apply Nat.eq_of_testBit_eq
    intro i
    obtain ⟨p1, p2⟩ := db i
    have t1 := congrArg (fun x => x.testBit i) g1
    have t2 := congrArg (fun x => x.testBit i) hc'
    simp only [clr_bit, Nat.testBit_or, Nat.testBit_and, Nat.testBit_xor, Nat.zero_testBit] at t1 t2 ⊢
    revert p1 p2 t1 t2
    cases k.testBit i <;> cases ba.testBit i <;> cases bb.testBit i <;> cases fa.testBit i <;> cases fb.testBit i <;> simp
  · obtain ⟨k, rfl⟩ : ∃ k : Nat, n = k := ⟨n.toNat, by omega⟩
    obtain ⟨g1, w1⟩ := (hasN na e1 e2 (by omega) (by omega) (by omega)).1 h2
    obtain ⟨g2, w2⟩ := (hasN nb e3 e4 (by omega) (by omega) (by omega)).1 h3
    refine (zh k (by omega)).2 ⟨?_, by rw [zw]; exact c.both _ h0 h1 w1 w2⟩
    apply Nat.eq_of_testBit_eq
    intro i
    have t1 := congrArg (fun x => x.testBit i) g1
    have t2 := congrArg (fun x => x.testBit i) g2
    simp only [clr_bit, Nat.testBit_or, Nat.testBit_and] at t1 t2 ⊢
    rw [← t1, ← t2]
    cases k.testBit i <;> cases fa.testBit i <;> cases fb.testBit i <;> rfl
  · have h1 : n ≤ mostV a.w := h1
    obtain ⟨k, rfl⟩ : ∃ k : Nat, n = k := ⟨n.toNat, by omega⟩
    obtain ⟨g1, g2⟩ := (zh k (by omega)).1 hn
    refine (hasN nb e3 e4 (by omega) (by omega) (by omega)).2 ⟨?_, c.right hs _ h0 h1 (by rw [← zw]; exact g2)⟩
    apply Nat.eq_of_testBit_eq
    intro i
    obtain ⟨p1, p2⟩ := db i
    have t1 := congrArg (fun x => x.testBit i) g1
    have t2 := congrArg (fun x => x.testBit i) hc'
    simp only [clr_bit, Nat.testBit_or, Nat.testBit_and, Nat.testBit_xor, Nat.zero_testBit] at t1 t2 ⊢
    revert p1 p2 t1 t2
    cases k.testBit i <;> cases ba.testBit i <;> cases bb.testBit i <;> cases fa.testBit i <;> cases fb.testBit i <;> simp

theorem tidy_low {v : V} (h : v.tidy.is1 = true) : v.tidy.low = v.tidy.high := by
  unfold V.tidy at h ⊢
  split
  · rfl
  split
  · rfl
  · rename_i h1 h2
    rw [if_neg h1, if_neg h2] at h
    exact absurd h h2
theorem tidied_is1 {a ta : V} (ta' : Tidied a ta) (ha : a.ok = true) (h : a.is1 = true) : ta.is1 = true := by
  obtain ⟨h0, h1, h2, h3⟩ := is1_mem ha h
  have e := ta'.w
  exact (single_of ta'.ok (n := a.nextR 0) h0 (by rw [e]; exact h1) (by rw [ta'.has _ h0 h1]; exact h2) (fun y y0 y1 hy => h3 y y0 (by rw [← e]; exact y1) (by rw [← ta'.has y y0 (by rw [← e]; exact y1)]; exact hy))).2

/-- Over the tidied sets, to the sets themselves. -/
theorem meet_of {a b ta tb z : V} (ha : a.ok = true) (hb : b.ok = true) (ta' : Tidied a ta) (tb' : Tidied b tb) (hw : b.w = a.w) (h : MeetR ta tb z) : MeetR a b z := by
  have e := ta'.w
  refine ⟨h.ok, h.w.trans e, fun n h0 h1 hn => ?_, fun n h0 h1 h2 h3 => ?_, fun hv n h0 h1 => ?_, fun hs n h0 h1 hn => ?_⟩
  · have h1' : n ≤ mostV a.w := by rw [← e, ← h.w]; exact h1
    rw [← ta'.has n h0 h1']
    exact h.left n h0 h1 hn
  · exact h.both n h0 (by rw [e]; exact h1) (by rw [ta'.has n h0 h1]; exact h2) (by rw [tb'.has n h0 (by rw [hw]; exact h1)]; exact h3)
  · exact h.void (fun n g0 g1 => by rw [tb'.has n g0 (by rw [hw, ← e]; exact g1)]; exact hv n g0 (by rw [← e]; exact g1)) n h0 (by rw [e]; exact h1)
  · have h1' : n ≤ mostV b.w := by rw [hw, ← e, ← h.w]; exact h1
    rw [← tb'.has n h0 h1']
    refine h.right ?_ n h0 h1 hn
    rcases hs with hs | hs
    · exact .inl (tidied_is1 ta' ha hs)
    · exact .inr (tidied_is1 tb' hb hs)
theorem meet_fin {a b : V} (ha : a.ok = true) (hb : b.ok = true) (hw : b.w = a.w) (na : a.no = false) (nb : b.tidy.no = false) (hl : a.is1 = true → a.low = a.high)
    (hc : bclr .i64 (bxor .i64 a.bits b.tidy.bits) (bor .i64 a.free b.tidy.free) = 0) {l h : Int} (c : CrossP a b.tidy l h) :
    (V.mk a.w false l h (band .i64 a.free b.tidy.free) (bor .i64 a.bits b.tidy.bits)).ok = true ∧ MeetR a b.tidy (V.mk a.w false l h (band .i64 a.free b.tidy.free) (bor .i64 a.bits b.tidy.bits)).tidy := by
  have tb := tidy_spec hb
  have hw' : b.tidy.w = a.w := tb.w.trans hw
  obtain ⟨z1, z2, z3, z4⟩ := meet_mix ha tb.ok hw' na nb hc c
  have tz := tidy_spec z1
  refine ⟨z1, tz.ok, tz.w, fun n h0 h1 hn => ?_, fun n h0 h1 h2 h3 => ?_, fun hv n h0 h1 => ?_, fun hs n h0 h1 hn => ?_⟩
  · have h1' : n ≤ mostV a.w := by rw [tz.w] at h1; exact h1
    rw [tz.has n h0 h1'] at hn
    exact z2 n h0 h1' hn
  · rw [tz.has n h0 h1]; exact z3 n h0 h1 h2 h3
  · -- a tidied set without members is none
    exfalso
    have hvd : b.tidy.nextR 0 < 0 := by
      rcases nextR_spec tb.ok (n := 0) (by omega) with ⟨g1, _, g2, g3, _⟩ | ⟨g, _⟩
      · rw [hv _ g1 (by rw [← hw']; exact g2)] at g3; cases g3
      · omega
    have hvb : b.nextR 0 < 0 := by
      rcases nextR_spec hb (n := 0) (by omega) with ⟨g1, _, g2, g3, _⟩ | ⟨g, _⟩
      · rw [← tb.has _ g1 g2, hv _ g1 (by rw [← hw]; exact g2)] at g3; cases g3
      · omega
    have : b.tidy = V.nothing b.w := by unfold V.tidy; rw [if_pos hvb]
    rw [this] at nb
    cases nb
  · have h1' : n ≤ mostV a.w := by rw [tz.w] at h1; exact h1
    rw [tz.has n h0 h1'] at hn
    refine z4 ?_ n h0 h1' hn
    rcases hs with hs | hs
    · exact .inl (hl hs)
    · exact .inr (tidy_low hs)
end Go.Ax

/- When one set must be told to be in another; single sets. -/
namespace Go.Ax
open Go
set_option linter.unusedVariables false
set_option linter.unusedSimpArgs false

@[go_sem] theorem fl_cons {p : Nat → Prop} {a : Nat} {l : List Nat} : (∀ t ∈ a :: l, p t) = (p a ∧ ∀ t ∈ l, p t) := by
  apply propext; simp
@[go_sem] theorem fl_ptr {x y b : Nat} : (∃ b' o', some (Value.pointer (some ⟨x, y, none⟩)) = some (Value.pointer (some ⟨b', o', none⟩)) ∧ b' ≠ b) = ¬ x = b := by
  apply propext
  constructor
  · rintro ⟨b', o', h, hn⟩; cases h; exact hn
  · intro h; exact ⟨x, y, rfl, h⟩
theorem members_void {v : V} (h : v.nextR 0 < 0) (k : Nat) : v.members k = [] := by
  unfold V.members V.mem
  rw [if_pos h]
theorem under_none {a b : V} (h : a.nextR 0 < 0) : a.under b = true := by
  simp [V.under, members_void h]
theorem under_same {a : V} : a.under a = true := by simp [V.under]
theorem under_all {a b : V} (h : b = V.whole b.w) : a.under b = true := by
  have : decide (b = V.whole b.w) = true := by simpa using h
  simp [V.under, this]
theorem under_one {a b : V} (h1 : a.is1 = true) (h : b.has (a.nextR 0) = true) : a.under b = true := by
  simp [V.is1] at h1
  have e : a.members 16 = [a.nextR 0] := by
    unfold V.members V.mem
    rw [if_neg (by omega)]
    unfold V.mem
    rw [if_pos h1.2]
  simp [V.under, e, h]
theorem void_of {v : V} (hv : v.ok = true) (h : ∀ n, 0 ≤ n → n ≤ mostV v.w → v.has n = false) : v.nextR 0 < 0 := by
  rcases nextR_spec hv (n := 0) (by omega) with ⟨g1, g2, g3, g4, g5⟩ | ⟨g1, _⟩
  · rw [h _ g1 g3] at g4; cases g4
  · omega
/-- The single lines of a join. -/
theorem join_single {a b x : V} (ha : a.ok = true) (hb : b.ok = true) (hw : b.w = a.w) (hx : BothR a b x)
    (h : a.is1 = true ∧ b.is1 = true ∧ a.nextR 0 = b.nextR 0 ∨ a.is1 = true ∧ b.nextR 0 < 0 ∨ b.is1 = true ∧ a.nextR 0 < 0) :
    x.is1 = true ∧ (a.is1 = true → x.nextR 0 = a.nextR 0) ∧ (b.is1 = true → x.nextR 0 = b.nextR 0) := by
  have xw := hx.w
  rcases h with ⟨h1, h2, h3⟩ | ⟨h1, h2⟩ | ⟨h1, h2⟩
  · obtain ⟨a1, a2, a3, a4⟩ := is1_mem ha h1
    obtain ⟨b1, b2, b3, b4⟩ := is1_mem hb h2
    have := single_of hx.ok (n := a.nextR 0) a1 (by rw [xw]; exact a2) (hx.left _ a1 a2 a3) (fun y y0 y1 hy => hx.one _ (fun t t0 t1 ht => by
      rcases ht with ht | ht
      · exact a4 t t0 t1 ht
      · rw [h3]; exact b4 t t0 (by rw [hw]; exact t1) ht) y y0 (by rw [← xw]; exact y1) hy)
    exact ⟨this.2, fun _ => this.1, fun _ => this.1.trans h3⟩
  · obtain ⟨a1, a2, a3, a4⟩ := is1_mem ha h1
    have hv := void_has hb h2
    have := single_of hx.ok (n := a.nextR 0) a1 (by rw [xw]; exact a2) (hx.left _ a1 a2 a3) (fun y y0 y1 hy => hx.one _ (fun t t0 t1 ht => by
      rcases ht with ht | ht
      · exact a4 t t0 t1 ht
      · rw [hv t t0 (by rw [hw]; exact t1)] at ht; cases ht) y y0 (by rw [← xw]; exact y1) hy)
    refine ⟨this.2, fun _ => this.1, fun hb1 => ?_⟩
    simp [V.is1] at hb1; omega
  · obtain ⟨b1, b2, b3, b4⟩ := is1_mem hb h1
    have hv := void_has ha h2
    have := single_of hx.ok (n := b.nextR 0) b1 (by rw [xw, ← hw]; exact b2) (hx.right _ b1 b2 b3) (fun y y0 y1 hy => hx.one _ (fun t t0 t1 ht => by
      rcases ht with ht | ht
      · rw [hv t t0 t1] at ht; cases ht
      · exact b4 t t0 (by rw [hw]; exact t1) ht) y y0 (by rw [← xw]; exact y1) hy)
    refine ⟨this.2, fun ha1 => ?_, fun _ => this.1⟩
    simp [V.is1] at ha1; omega
end Go.Ax
