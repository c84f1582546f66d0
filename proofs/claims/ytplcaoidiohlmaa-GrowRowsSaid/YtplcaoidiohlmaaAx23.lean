/- What a set of what both have must be, and that it is. -/
import Derived.Test.YtplcaoidiohlmaaAx22
namespace Go.Ax
open Go
set_option linter.unusedVariables false
set_option linter.unusedSimpArgs false

structure MeetR (a b z : V) : Prop where
  ok : z.ok = true
  w : z.w = a.w
  left : Sub z a
  both : ∀ n, 0 ≤ n → n ≤ mostV a.w → a.has n = true → b.has n = true → z.has n = true
  void : (∀ n, 0 ≤ n → n ≤ mostV a.w → b.has n = false) → ∀ n, 0 ≤ n → n ≤ mostV a.w → z.has n = false

theorem meet_nothing {a b : V} (ha : a.ok = true) (h : ∀ n, 0 ≤ n → n ≤ mostV a.w → a.has n = true → b.has n = true → False) : MeetR a b (V.nothing a.w) :=
  ⟨nothing_ok (ok_in ha).w, rfl, fun n _ _ h => (by cases h), fun n h0 h1 h2 h3 => (h n h0 h1 h2 h3).elim, fun _ _ _ _ => rfl⟩

theorem meet_masks {a b : V} (ha : a.ok = true) (hb : b.ok = true) (hw : b.w = a.w) (na : a.no = false) (nb : b.no = false) {n : Int} (h0 : 0 ≤ n) (h1 : n ≤ mostV a.w)
    (h2 : a.has n = true) (h3 : b.has n = true) : bclr .i64 (bxor .i64 a.bits b.bits) (bor .i64 a.free b.free) = 0 := by
  have ia := ok_in ha
  have hba := ia.big
  obtain ⟨_, _, fa, ba, _, _, e1, e2, _, _, l1, l2, _, _⟩ := ok_nat ha na
  obtain ⟨_, _, fb, bb, _, _, e3, e4, _, _, l3, l4, _, _⟩ := ok_nat hb nb
  obtain ⟨_, _, _, _, _, _, h32⟩ := ia.nat2
  rw [hw] at l3 l4
  have x1 := Nat.or_lt_two_pow l1 l3
  have x2 := Nat.xor_lt_two_pow l2 l4
  obtain ⟨k, rfl⟩ : ∃ k : Nat, n = k := ⟨n.toNat, by omega⟩
  have g1 := ((hasN na e1 e2 (by omega) (by omega) (by omega)).1 h2).1
  have g2 := ((hasN nb e3 e4 (by omega) (by omega) (by omega)).1 h3).1
  rw [e1, e2, e3, e4, bxor_nat (by omega) (by omega), bor_nat (by omega) (by omega), bclr_nat (by omega) (by omega)]
  have : clr (ba ^^^ bb) (fa ||| fb) = 0 := by
    apply Nat.eq_of_testBit_eq
    intro i
    have t1 := congrArg (fun x => x.testBit i) g1
    have t2 := congrArg (fun x => x.testBit i) g2
    simp only [clr_bit, Nat.testBit_or, Nat.testBit_xor, Nat.zero_testBit] at t1 t2 ⊢
    rw [← t1, ← t2]
    cases k.testBit i <;> cases fa.testBit i <;> cases fb.testBit i <;> rfl
  rw [this]; rfl

theorem meet_mix {a b : V} (ha : a.ok = true) (hb : b.ok = true) (hw : b.w = a.w) (na : a.no = false) (nb : b.no = false)
    (hc : bclr .i64 (bxor .i64 a.bits b.bits) (bor .i64 a.free b.free) = 0) {l h : Int} (c : CrossP a b l h) :
    let z : V := ⟨a.w, false, l, h, band .i64 a.free b.free, bor .i64 a.bits b.bits⟩
    z.ok = true ∧ Sub z a ∧ ∀ n, 0 ≤ n → n ≤ mostV a.w → a.has n = true → b.has n = true → z.has n = true := by
  intro z
  have ia := ok_in ha
  have hba := ia.big
  obtain ⟨_, _, fa, ba, _, _, e1, e2, _, _, l1, l2, d1, _⟩ := ok_nat ha na
  obtain ⟨_, _, fb, bb, _, _, e3, e4, _, _, l3, l4, d2, _⟩ := ok_nat hb nb
  obtain ⟨_, _, _, _, _, _, h32⟩ := ia.nat2
  rw [hw] at l3 l4
  have x1 := Nat.or_lt_two_pow l1 l3
  have x2 := Nat.xor_lt_two_pow l2 l4
  have x3 := Nat.or_lt_two_pow l2 l4
  have x4 : fa &&& fb ≤ fa := Nat.and_le_left
  have hp : (2 : Int) ^ a.w.toNat = ((2 ^ a.w.toNat : Nat) : Int) := by simp
  have ef : band .i64 a.free b.free = ((fa &&& fb : Nat) : Int) := by rw [e1, e3, band_nat (by omega) (by omega)]
  have eb : bor .i64 a.bits b.bits = ((ba ||| bb : Nat) : Int) := by rw [e2, e4, bor_nat (by omega) (by omega)]
  have hc' : clr (ba ^^^ bb) (fa ||| fb) = 0 := by
    rw [e1, e2, e3, e4, bxor_nat (by omega) (by omega), bor_nat (by omega) (by omega), bclr_nat (by omega) (by omega)] at hc
    exact Int.ofNat_inj.1 hc
  have db : ∀ i, (ba.testBit i = true → fa.testBit i = false) ∧ (bb.testBit i = true → fb.testBit i = false) := fun i => ⟨apart_bit d1 i, apart_bit d2 i⟩
  have d0 : (ba ||| bb) &&& (fa &&& fb) = 0 := by
    apply Nat.eq_of_testBit_eq
    intro i
    obtain ⟨p1, p2⟩ := db i
    simp only [Nat.testBit_and, Nat.testBit_or, Nat.zero_testBit]
    revert p1 p2
    cases ba.testBit i <;> cases bb.testBit i <;> cases fa.testBit i <;> cases fb.testBit i <;> simp
  have zok : z.ok = true := by
    have e5 : band .i64 (bor .i64 a.bits b.bits) (band .i64 a.free b.free) = 0 := by rw [eb, ef, band_nat (by omega) (by omega), d0]; rfl
    show (isW a.w && _) = true
    rw [ia.w]
    simp only [Bool.true_and, z, Bool.false_eq_true, if_false]
    have r1 : isN l a.w = true := by simp [isN]; exact c.low
    have r2 : isN h a.w = true := by simp [isN]; exact c.high
    have r3 : isN (band .i64 a.free b.free) a.w = true := by rw [ef]; simp [isN]; omega
    have r4 : isN (bor .i64 a.bits b.bits) a.w = true := by rw [eb]; simp [isN]; omega
    rw [r1, r2, r3, r4, e5]; rfl
  have zh : ∀ n : Nat, n < 2 ^ 62 → (z.has (n : Int) = true ↔ clr n (fa &&& fb) = (ba ||| bb) ∧ z.within (n : Int) = true) := fun n hn => hasN rfl ef eb (by omega) (by omega) hn
  have zw : ∀ n, z.within n = (V.mk a.w false l h 0 0).within n := fun n => within_same rfl rfl n
  refine ⟨zok, fun n h0 h1 hn => ?_, fun n h0 h1 h2 h3 => ?_⟩
  · have h1 : n ≤ mostV a.w := h1
    obtain ⟨k, rfl⟩ : ∃ k : Nat, n = k := ⟨n.toNat, by omega⟩
    obtain ⟨g1, g2⟩ := (zh k (by omega)).1 hn
    refine (hasN na e1 e2 (by omega) (by omega) (by omega)).2 ⟨?_, c.left _ h0 h1 (by rw [← zw]; exact g2)⟩
    apply Nat.eq_of_testBit_eq
    intro i
    obtain ⟨p1, p2⟩ := db i
    have t1 := congrArg (fun x => x.testBit i) g1
    have t2 := congrArg (fun x => x.testBit i) hc'
    simp only [clr_bit, Nat.testBit_or, Nat.testBit_and, Nat.testBit_xor, Nat.zero_testBit] at t1 t2 ⊢
    revert p1 p2 t1 t2
    cases k.testBit i <;> cases ba.testBit i <;> cases bb.testBit i <;> cases fa.testBit i <;> cases fb.testBit i <;> simp
  · obtain ⟨k, rfl⟩ : ∃ k : Nat, n = k := ⟨n.toNat, by omega⟩
    obtain ⟨g1, w1⟩ := (hasN na e1 e2 (by omega) (by omega) (by omega)).1 h2
    obtain ⟨g2, w2⟩ := (hasN nb e3 e4 (by omega) (by omega) (by omega)).1 h3
    refine (zh k (by omega)).2 ⟨?_, by rw [zw]; exact c.both _ h0 h1 w1 w2⟩
    apply Nat.eq_of_testBit_eq
    intro i
    have t1 := congrArg (fun x => x.testBit i) g1
    have t2 := congrArg (fun x => x.testBit i) g2
    simp only [clr_bit, Nat.testBit_or, Nat.testBit_and] at t1 t2 ⊢
    rw [← t1, ← t2]
    cases k.testBit i <;> cases fa.testBit i <;> cases fb.testBit i <;> rfl

/-- Over the tidied sets, to the sets themselves. -/
theorem meet_of {a b ta tb z : V} (ta' : Tidied a ta) (tb' : Tidied b tb) (hw : b.w = a.w) (h : MeetR ta tb z) : MeetR a b z := by
  have e := ta'.w
  refine ⟨h.ok, h.w.trans e, fun n h0 h1 hn => ?_, fun n h0 h1 h2 h3 => ?_, fun hv n h0 h1 => ?_⟩
  · have h1' : n ≤ mostV a.w := by rw [← e, ← h.w]; exact h1
    rw [← ta'.has n h0 h1']
    exact h.left n h0 h1 hn
  · exact h.both n h0 (by rw [e]; exact h1) (by rw [ta'.has n h0 h1]; exact h2) (by rw [tb'.has n h0 (by rw [hw]; exact h1)]; exact h3)
  · exact h.void (fun n g0 g1 => by rw [tb'.has n g0 (by rw [hw, ← e]; exact g1)]; exact hv n g0 (by rw [← e]; exact g1)) n h0 (by rw [e]; exact h1)
theorem meet_fin {a b : V} (ha : a.ok = true) (hb : b.ok = true) (hw : b.w = a.w) (na : a.no = false) (nb : b.tidy.no = false)
    (hc : bclr .i64 (bxor .i64 a.bits b.tidy.bits) (bor .i64 a.free b.tidy.free) = 0) {l h : Int} (c : CrossP a b.tidy l h) :
    (V.mk a.w false l h (band .i64 a.free b.tidy.free) (bor .i64 a.bits b.tidy.bits)).ok = true ∧ MeetR a b.tidy (V.mk a.w false l h (band .i64 a.free b.tidy.free) (bor .i64 a.bits b.tidy.bits)).tidy := by
  have tb := tidy_spec hb
  have hw' : b.tidy.w = a.w := tb.w.trans hw
  obtain ⟨z1, z2, z3⟩ := meet_mix ha tb.ok hw' na nb hc c
  have tz := tidy_spec z1
  refine ⟨z1, tz.ok, tz.w, fun n h0 h1 hn => ?_, fun n h0 h1 h2 h3 => ?_, fun hv n h0 h1 => ?_⟩
  · have h1' : n ≤ mostV a.w := by rw [tz.w] at h1; exact h1
    rw [tz.has n h0 h1'] at hn
    exact z2 n h0 h1' hn
  · rw [tz.has n h0 h1]; exact z3 n h0 h1 h2 h3
  · -- a tidied set without members is none
    exfalso
    have hvd : b.tidy.nextR 0 < 0 := by
      rcases nextR_spec tb.ok (n := 0) (by omega) with ⟨g1, _, g2, g3, _⟩ | ⟨g, _⟩
      · rw [hv _ g1 (by rw [← hw']; exact g2)] at g3; cases g3
      · omega
    have hvb : b.nextR 0 < 0 := by
      rcases nextR_spec hb (n := 0) (by omega) with ⟨g1, _, g2, g3, _⟩ | ⟨g, _⟩
      · rw [← tb.has _ g1 g2, hv _ g1 (by rw [← hw]; exact g2)] at g3; cases g3
      · omega
    have : b.tidy = V.nothing b.w := by unfold V.tidy; rw [if_pos hvb]
    rw [this] at nb
    cases nb
end Go.Ax
