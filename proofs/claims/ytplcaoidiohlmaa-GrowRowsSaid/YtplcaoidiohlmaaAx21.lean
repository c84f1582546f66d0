/- Sets together, and what two sets have both: what the program's ways keep. -/
import Derived.Test.YtplcaoidiohlmaaAx20
namespace Go.Ax
open Go
set_option linter.unusedVariables false
set_option linter.unusedSimpArgs false

theorem just_has {w x n : Int} (hn : 0 ≤ n) (hn2 : n < 9223372036854775807) : (V.just w x).has n = decide (n = x) := by
  have hb : bclr .i64 n 0 = n := by
    obtain ⟨k, rfl⟩ : ∃ k : Nat, n = k := ⟨n.toNat, by omega⟩
    have := bclr_nat (a := k) (b := 0) (by omega) (by decide)
    rw [clr_zero] at this
    exact this
  unfold V.has V.within V.just
  simp only [hb, Bool.not_false, Bool.true_and, Int.le_refl, if_true]
  by_cases e : n = x
  · subst e; simp
  · simp [e]
theorem nothing_has {w n : Int} : (V.nothing w).has n = false := rfl
structure Tidied (v t : V) : Prop where
  ok : t.ok = true
  w : t.w = v.w
  has : ∀ n, 0 ≤ n → n ≤ mostV v.w → t.has n = v.has n
theorem tidy_spec {v : V} (h : v.ok = true) : Tidied v v.tidy := by
  have hi := ok_in h
  have hb := hi.big
  unfold V.tidy
  split
  · rename_i h0
    refine ⟨nothing_ok hi.w, rfl, fun n h1 h2 => ?_⟩
    rcases nextR_spec h (n := 0) (by omega) with ⟨g1, _⟩ | ⟨_, g⟩
    · omega
    · rw [g n h1 h2]; rfl
  · rename_i h0
    rcases nextR_spec h (n := 0) (by omega) with ⟨g1, g2, g3, g4, g5⟩ | ⟨g, _⟩
    rotate_left
    · omega
    split
    · rename_i h1
      have h1' : v.nextR (v.nextR 0 + 1) < 0 := by simp [V.is1] at h1; exact h1.2
      refine ⟨just_ok hi.w (by simp [isN]; omega), rfl, fun n q1 q2 => ?_⟩
      rw [just_has q1 (by omega)]
      rcases nextR_spec h (n := v.nextR 0 + 1) (by omega) with ⟨k1, _⟩ | ⟨_, k⟩
      · omega
      by_cases e : n = v.nextR 0
      · subst e; simp [g4]
      · by_cases e2 : n < v.nextR 0
        · rw [g5 n q1 e2]; simp [e]
        · rw [k n (by omega) q2]; simp [e]
    · exact ⟨h, rfl, fun _ _ _ => rfl⟩

/-- What a set of both must be. -/
structure BothR (a b z : V) : Prop where
  ok : z.ok = true
  w : z.w = a.w
  left : Sub a z
  right : Sub b z
  one : ∀ n, (∀ y, 0 ≤ y → y ≤ mostV a.w → a.has y = true ∨ b.has y = true → y = n) → ∀ y, 0 ≤ y → y ≤ mostV a.w → z.has y = true → y = n

def V.mix (a b : V) : Int := bor .i64 (bor .i64 a.free b.free) (bxor .i64 a.bits b.bits)
theorem V.In.nat2 {v : V} (h : v.In) : ∃ f b : Nat, v.free = f ∧ v.bits = b ∧ f < 2 ^ v.w.toNat ∧ b < 2 ^ v.w.toNat ∧ 2 ^ v.w.toNat ≤ 2 ^ 32 := by
  have h1 := h.free
  have h2 := h.bits
  have hw := h.w
  have hb := h.big
  have hp : (2 : Int) ^ v.w.toNat = ((2 ^ v.w.toNat : Nat) : Int) := by simp
  refine ⟨v.free.toNat, v.bits.toNat, by omega, by omega, by omega, by omega, ?_⟩
  simp [isW] at hw
  rcases hw with (e | e) | e <;> rw [e] <;> decide
theorem hasN {v : V} {f b n : Nat} (hno : v.no = false) (hf : v.free = f) (hb : v.bits = b) (f1 : f < 2 ^ 62) (b1 : b < 2 ^ 62) (n1 : n < 2 ^ 62) : v.has (n : Int) = true ↔ clr n f = b ∧ v.within (n : Int) = true := by
  rw [has_split, hf, hb, bclr_nat (by omega) (by omega), Int.ofNat_inj]
  simp [hno]
theorem within_same {v u : V} (h1 : v.low = u.low) (h2 : v.high = u.high) (n : Int) : v.within n = u.within n := by simp only [V.within, h1, h2]

theorem mix_spec {a b : V} (ha : a.ok = true) (hb : b.ok = true) (hw : b.w = a.w) (na : a.no = false) (nb : b.no = false) {l h : Int} (c : Cov a b l h) :
    let z : V := ⟨a.w, false, l, h, a.mix b, bclr .i64 a.bits (a.mix b)⟩
    z.ok = true ∧ Sub a z ∧ Sub b z ∧ (a.free = 0 → b.free = 0 → a.bits = b.bits → ∀ y, 0 ≤ y → y ≤ mostV a.w → z.has y = true → y = a.bits) := by
  intro z
  have ia := ok_in ha
  have ib := ok_in hb
  have hba := ia.big
  obtain ⟨la, ga, fa, ba, _, _, e1, e2, _, _, l1, l2, _, _⟩ := ok_nat ha na
  obtain ⟨lb, gb, fb, bb, _, _, e3, e4, _, _, l3, l4, _, _⟩ := ok_nat hb nb
  obtain ⟨_, _, _, _, _, _, h32⟩ := ia.nat2
  rw [hw] at l3 l4
  have x1 := Nat.or_lt_two_pow l1 l3
  have x2 := Nat.xor_lt_two_pow l2 l4
  have x3 := Nat.or_lt_two_pow x1 x2
  have em : a.mix b = ((fa ||| fb ||| (ba ^^^ bb) : Nat) : Int) := by
    unfold V.mix
    rw [e1, e2, e3, e4, bor_nat (by omega) (by omega), bxor_nat (by omega) (by omega), bor_nat (by omega) (by omega)]
  have eb : bclr .i64 a.bits (a.mix b) = ((clr ba (fa ||| fb ||| (ba ^^^ bb)) : Nat) : Int) := by rw [em, e2, bclr_nat (by omega) (by omega)]
  have x4 := clr_le ba (fa ||| fb ||| (ba ^^^ bb))
  have hp : (2 : Int) ^ a.w.toNat = ((2 ^ a.w.toNat : Nat) : Int) := by simp
  have zin := c.1
  have d0 : clr ba (fa ||| fb ||| (ba ^^^ bb)) &&& (fa ||| fb ||| (ba ^^^ bb)) = 0 := by
    apply Nat.eq_of_testBit_eq
    intro i
    rw [Nat.testBit_and, clr_bit, Nat.zero_testBit]
    cases (fa ||| fb ||| (ba ^^^ bb)).testBit i <;> simp
  have zok : z.ok = true := by
    have q1 := zin.low
    have q2 := zin.high
    have e5 : band .i64 (bclr .i64 a.bits (a.mix b)) (a.mix b) = 0 := by rw [eb, em, band_nat (by omega) (by omega), d0]; rfl
    show (isW a.w && _) = true
    rw [ia.w]
    simp only [Bool.true_and, z, Bool.false_eq_true, if_false]
    have r1 : isN l a.w = true := by simp [isN]; exact q1
    have r2 : isN h a.w = true := by simp [isN]; exact q2
    have r3 : isN (a.mix b) a.w = true := by rw [em]; simp [isN]; omega
    have r4 : isN (bclr .i64 a.bits (a.mix b)) a.w = true := by rw [eb]; simp [isN]; omega
    rw [r1, r2, r3, r4, e5]; rfl
  have zh : ∀ n : Nat, n < 2 ^ 62 → (z.has (n : Int) = true ↔ clr n (fa ||| fb ||| (ba ^^^ bb)) = clr ba (fa ||| fb ||| (ba ^^^ bb)) ∧ z.within (n : Int) = true) := fun n hn => hasN rfl em eb (by omega) (by omega) hn
  have zw : ∀ n, z.within n = (V.mk a.w false l h 0 0).within n := fun n => within_same rfl rfl n
  refine ⟨zok, fun n h0 h1 hn => ?_, fun n h0 h1 hn => ?_, fun f0 f1 b0 y y0 y1 hy => ?_⟩
  · obtain ⟨k, rfl⟩ : ∃ k : Nat, n = k := ⟨n.toNat, by omega⟩
    obtain ⟨g1, g2⟩ := (hasN na e1 e2 (by omega) (by omega) (by omega)).1 hn
    refine (zh k (by omega)).2 ⟨?_, ?_⟩
    · apply Nat.eq_of_testBit_eq
      intro i
      have t := congrArg (fun x => x.testBit i) g1
      simp only [clr_bit, Nat.testBit_or, Nat.testBit_xor] at t ⊢
      rw [← t]
      cases k.testBit i <;> cases fa.testBit i <;> cases fb.testBit i <;> cases bb.testBit i <;> rfl
    · rw [zw]
      exact inside_sound ia zin rfl c.2.1 h0 h1 g2
  · rw [hw] at h1
    obtain ⟨k, rfl⟩ : ∃ k : Nat, n = k := ⟨n.toNat, by omega⟩
    obtain ⟨g1, g2⟩ := (hasN nb e3 e4 (by omega) (by omega) (by omega)).1 hn
    refine (zh k (by omega)).2 ⟨?_, ?_⟩
    · apply Nat.eq_of_testBit_eq
      intro i
      have t := congrArg (fun x => x.testBit i) g1
      simp only [clr_bit, Nat.testBit_or, Nat.testBit_xor] at t ⊢
      revert t
      cases k.testBit i <;> cases fa.testBit i <;> cases fb.testBit i <;> cases bb.testBit i <;> cases ba.testBit i <;> simp
    · rw [zw]
      exact inside_sound ib zin hw c.2.2 h0 (by rw [hw]; exact h1) g2
  · obtain ⟨k, rfl⟩ : ∃ k : Nat, y = k := ⟨y.toNat, by omega⟩
    obtain ⟨g1, _⟩ := (zh k (by omega)).1 hy
    have fa0 : fa = 0 := by omega
    have fb0 : fb = 0 := by omega
    have bb0 : bb = ba := by omega
    rw [fa0, fb0, bb0, Nat.xor_self] at g1
    simp only [Nat.or_self, clr_zero] at g1
    rw [e2, g1]
theorem void_has {v : V} (h : v.ok = true) (h0 : v.nextR 0 < 0) : ∀ n, 0 ≤ n → n ≤ mostV v.w → v.has n = false := by
  rcases nextR_spec h (n := 0) (by omega) with ⟨g, _⟩ | ⟨_, g⟩
  · omega
  · exact g
theorem some_has {v : V} (h : v.ok = true) (h0 : ¬ v.nextR 0 < 0) : 0 ≤ v.nextR 0 ∧ v.nextR 0 ≤ mostV v.w ∧ v.has (v.nextR 0) = true := by
  rcases nextR_spec h (n := 0) (by omega) with ⟨g, _, g2, g3, _⟩ | ⟨g, _⟩
  · exact ⟨g, g2, g3⟩
  · omega
theorem tidy_one {v : V} (h : v.ok = true) (h0 : ¬ v.nextR 0 < 0) {n : Int} (hn : ∀ y, 0 ≤ y → y ≤ mostV v.w → v.has y = true → y = n) : v.tidy = V.just v.w n := by
  obtain ⟨g1, g2, g3⟩ := some_has h h0
  have e := hn _ g1 g2 g3
  have h1 : v.nextR (v.nextR 0 + 1) < 0 := by
    rcases nextR_spec h (n := v.nextR 0 + 1) (by omega) with ⟨k1, k2, k3, k4, _⟩ | ⟨k, _⟩
    · have := hn _ k1 k3 k4; omega
    · omega
  have i1 : v.is1 = true := by simp [V.is1, h1]; omega
  unfold V.tidy
  rw [if_neg h0, if_pos i1, e]
theorem both_void {a b : V} (ha : a.ok = true) (hb : b.ok = true) (hw : b.w = a.w) (h0 : a.nextR 0 < 0) : BothR a b b.tidy := by
  have t := tidy_spec hb
  refine ⟨t.ok, t.w.trans hw, fun n h1 h2 hn => ?_, fun n h1 h2 hn => ?_, fun n hn y h1 h2 hy => ?_⟩
  · rw [void_has ha h0 n h1 h2] at hn; cases hn
  · rw [t.has n h1 h2]; exact hn
  · rw [t.has y h1 (by rw [hw]; exact h2)] at hy
    exact hn y h1 h2 (.inr hy)
theorem both_void' {a b : V} (ha : a.ok = true) (hb : b.ok = true) (hw : b.w = a.w) (h0 : b.nextR 0 < 0) : BothR a b a.tidy := by
  have t := tidy_spec ha
  refine ⟨t.ok, t.w, fun n h1 h2 hn => ?_, fun n h1 h2 hn => ?_, fun n hn y h1 h2 hy => ?_⟩
  · rw [t.has n h1 h2]; exact hn
  · rw [void_has hb h0 n h1 h2] at hn; cases hn
  · rw [t.has y h1 h2] at hy
    exact hn y h1 h2 (.inl hy)
theorem both_same {a : V} (ha : a.ok = true) : BothR a a a :=
  ⟨ha, rfl, fun n _ _ h => h, fun n _ _ h => h, fun n hn y h1 h2 hy => hn y h1 h2 (.inl hy)⟩
theorem some_no {v : V} {n : Int} (h : v.has n = true) : v.no = false := (has_split.1 h).1
theorem both_mix {a b : V} (ha : a.ok = true) (hb : b.ok = true) (hw : b.w = a.w) (h0 : ¬ a.nextR 0 < 0) (h1 : ¬ b.nextR 0 < 0) {l h : Int} (c : Cov a.tidy b.tidy l h) :
    (V.mk a.tidy.w false l h (a.tidy.mix b.tidy) (bclr .i64 a.tidy.bits (a.tidy.mix b.tidy))).ok = true ∧ BothR a b (V.mk a.tidy.w false l h (a.tidy.mix b.tidy) (bclr .i64 a.tidy.bits (a.tidy.mix b.tidy))).tidy := by
  have ta := tidy_spec ha
  have tb := tidy_spec hb
  obtain ⟨a1, a2, a3⟩ := some_has ha h0
  obtain ⟨b1, b2, b3⟩ := some_has hb h1
  have na : a.tidy.no = false := some_no (n := a.nextR 0) (by rw [ta.has _ a1 a2]; exact a3)
  have nb : b.tidy.no = false := some_no (n := b.nextR 0) (by rw [tb.has _ b1 b2]; exact b3)
  have hw' : b.tidy.w = a.tidy.w := by rw [ta.w, tb.w, hw]
  obtain ⟨z1, z2, z3, z4⟩ := mix_spec ta.ok tb.ok hw' na nb c
  have tz := tidy_spec z1
  have ew : (V.mk a.tidy.w false l h (a.tidy.mix b.tidy) (bclr .i64 a.tidy.bits (a.tidy.mix b.tidy))).w = a.w := ta.w
  refine ⟨z1, tz.ok, tz.w.trans ew, fun n q1 q2 hn => ?_, fun n q1 q2 hn => ?_, fun n hn y q1 q2 hy => ?_⟩
  · rw [tz.has n q1 (by rw [ew]; exact q2)]
    exact z2 n q1 (by rw [ta.w]; exact q2) (by rw [ta.has n q1 q2]; exact hn)
  · rw [tz.has n q1 (by rw [ew, ← hw]; exact q2)]
    exact z3 n q1 (by rw [tb.w]; exact q2) (by rw [tb.has n q1 q2]; exact hn)
  · rw [tz.has y q1 (by rw [ew]; exact q2)] at hy
    have ea := tidy_one ha h0 (n := n) (fun y g1 g2 g3 => hn y g1 g2 (.inl g3))
    have eb := tidy_one hb h1 (n := n) (fun y g1 g2 g3 => hn y g1 (by rw [← hw]; exact g2) (.inr g3))
    have := z4 (by rw [ea]; rfl) (by rw [eb]; rfl) (by rw [ea, eb]; rfl) y q1 (by rw [ta.w]; exact q2) hy
    rw [this, ea]; rfl
end Go.Ax
