/- The next member of a set is the least one from a number on. -/
import Derived.Test.YtplcaoidiohlmaaAx17
namespace Go.Ax
open Go
set_option linter.unusedVariables false
set_option linter.unusedSimpArgs false

def inP (p : Int × Int) (y : Int) : Prop := p.1 ≤ y ∧ y ≤ p.2
theorem within_iff {v : V} {y : Int} (h0 : 0 ≤ y) (h1 : y ≤ mostV v.w) : v.within y = true ↔ inP v.p0 y ∨ inP v.p1 y := by
  unfold V.within V.p0 V.p1 inP
  split
  · simp; omega
  · simp; omega

theorem tryP_some {v : V} {f b : Nat} (hf : v.free = f) (hb : v.bits = b) (hw : v.w.toNat ≤ 62) (f1 : f < 2 ^ v.w.toNat) (b1 : b < 2 ^ v.w.toNat) (hbf : b &&& f = 0)
    {n : Int} {p : Int × Int} (hp : 0 ≤ p.1) (hp2 : p.2 < ((2 ^ v.w.toNat : Nat) : Int)) {x : Int} (h : v.tryP n p = some x) :
    n ≤ x ∧ inP p x ∧ fits f b x.toNat ∧ ∀ y : Nat, n ≤ y → p.1 ≤ y → (y : Int) < x → ¬ fits f b y := by
  unfold V.tryP at h
  split at h
  · cases h
  rename_i h1
  split at h
  · rename_i h2
    have hm : mx n p.1 = max n p.1 := by unfold mx; split <;> omega
    obtain ⟨k, hk⟩ : ∃ k : Nat, mx n p.1 = k := ⟨(mx n p.1).toNat, by omega⟩
    rw [hk] at h h1 h2
    cases h
    rcases matchF_spec hf hb hw f1 b1 hbf (n := k) (by omega) with ⟨z, e, g1, g2, g3⟩ | ⟨e, _⟩
    · rw [e] at h2 ⊢
      refine ⟨by omega, ⟨by omega, h2.2⟩, by simpa using g2, fun y q1 q2 q3 => g3 y (by omega) (by omega)⟩
    · rw [e] at h2; omega
  · cases h
theorem tryP_none {v : V} {f b : Nat} (hf : v.free = f) (hb : v.bits = b) (hw : v.w.toNat ≤ 62) (f1 : f < 2 ^ v.w.toNat) (b1 : b < 2 ^ v.w.toNat) (hbf : b &&& f = 0)
    {n : Int} {p : Int × Int} (hp : 0 ≤ p.1) (hp2 : p.2 < ((2 ^ v.w.toNat : Nat) : Int)) (h : v.tryP n p = none) :
    ∀ y : Nat, n ≤ y → inP p y → ¬ fits f b y := by
  intro y q1 ⟨q2, q3⟩ hy
  have hm : mx n p.1 = max n p.1 := by unfold mx; split <;> omega
  obtain ⟨k, hk⟩ : ∃ k : Nat, mx n p.1 = k := ⟨(mx n p.1).toNat, by omega⟩
  unfold V.tryP at h
  rw [hk] at h
  rw [if_neg (by omega)] at h
  rcases matchF_spec hf hb hw f1 b1 hbf (n := k) (by omega) with ⟨z, e, g1, g2, g3⟩ | ⟨e, g⟩
  · have : z ≤ y := by
      rcases Nat.lt_or_ge y z with h | h
      · exact absurd hy (g3 y (by omega) h)
      · exact h
    rw [e, if_pos ⟨by omega, by omega⟩] at h
    cases h
  · exact g y (by omega) (by omega) hy

theorem nextR_spec {v : V} (h : v.ok = true) {n : Int} (hn : 0 ≤ n) :
    (0 ≤ v.nextR n ∧ n ≤ v.nextR n ∧ v.nextR n ≤ mostV v.w ∧ v.has (v.nextR n) = true ∧ ∀ y, n ≤ y → y < v.nextR n → v.has y = false) ∨
    (v.nextR n = -1 ∧ ∀ y, n ≤ y → y ≤ mostV v.w → v.has y = false) := by
  have hw : isW v.w = true := by simp [V.ok] at h; exact h.1
  have hl := isW_le hw
  have hle := nextR_le h n
  have hmn := mostV_nat (w := v.w)
  have h6 : 1 ≤ 2 ^ v.w.toNat := Nat.one_le_two_pow
  cases hno : v.no
  rotate_left
  · exact .inr ⟨by simp [V.nextR, hno], fun y _ _ => by simp [V.has, hno]⟩
  by_cases hbig : 2 ^ v.w.toNat ≤ n
  · refine .inr ⟨by simp [V.nextR, hbig], fun y h1 h2 => ?_⟩
    unfold mostV at h2; omega
  obtain ⟨l, g, f, b, e1, e2, e3, e4, g1, g2, g3, g4, hbf, hp⟩ := ok_nat h hno
  obtain ⟨i0, i1, i2, i3⟩ := parts_in h hno
  have hw62 : v.w.toNat ≤ 62 := by omega
  have hle2 : mostV v.w < ((2 ^ v.w.toNat : Nat) : Int) := by rw [hmn]; omega
  have key : ∀ y : Int, 0 ≤ y → y ≤ mostV v.w → (v.has y = true ↔ fits f b y.toNat ∧ (inP v.p0 y ∨ inP v.p1 y)) := by
    intro y y0 y1
    obtain ⟨k, rfl⟩ : ∃ k : Nat, y = k := ⟨y.toNat, by omega⟩
    have hb2 : bclr .i64 (k : Int) v.free = ((clr k f : Nat) : Int) := by rw [e3, bclr_nat (by omega) (by omega)]
    rw [V.has, hno, hb2, e4]
    simp only [Bool.not_false, Bool.true_and, Bool.and_eq_true, decide_eq_true_eq, within_iff y0 y1, Int.ofNat_inj, Int.toNat_natCast, fits]
  have order : ∀ x y : Int, inP v.p0 x → inP v.p1 y → x < y := by
    intro x y hx hy
    unfold inP at hx hy
    unfold V.p0 at hx
    unfold V.p1 at hy
    by_cases hlh : v.low ≤ v.high
    · rw [if_pos hlh] at hx hy
      simp only at hx hy
      omega
    · rw [if_neg hlh] at hx hy
      simp only at hx hy
      omega
  have hc : ¬ (v.no = true ∨ 2 ^ v.w.toNat ≤ n) := by simp [hno]; omega
  have e : v.nextR n = (v.tryP n v.p0).getD ((v.tryP n v.p1).getD (-1)) := by rw [V.nextR, if_neg hc]
  have fin : ∀ x : Int, n ≤ x → x ≤ mostV v.w → fits f b x.toNat → (inP v.p0 x ∨ inP v.p1 x) → (∀ y : Nat, n ≤ y → (y : Int) < x → fits f b y → ¬ (inP v.p0 y ∨ inP v.p1 y)) →
      0 ≤ x ∧ n ≤ x ∧ x ≤ mostV v.w ∧ v.has x = true ∧ ∀ y, n ≤ y → y < x → v.has y = false := by
    intro x x1 x2 x3 x4 x5
    refine ⟨by omega, x1, x2, (key x (by omega) x2).2 ⟨x3, x4⟩, fun y y1 y2 => ?_⟩
    cases hy : v.has y
    · rfl
    · obtain ⟨q1, q2⟩ := (key y (by omega) (by omega)).1 hy
      have hyy : ((y.toNat : Nat) : Int) = y := by omega
      have := x5 y.toNat (by omega) (by omega) q1
      rw [hyy] at this
      exact absurd q2 this
  cases t0 : v.tryP n v.p0 with
  | some x =>
    obtain ⟨q1, q2, q3, q4⟩ := tryP_some e3 e4 hw62 g3 g4 hbf i2.1 (by omega) t0
    rw [e, t0]
    refine .inl (fin x q1 (by have := q2.2; omega) q3 (.inl q2) fun y y1 y2 y3 y4 => ?_)
    rcases y4 with y4 | y4
    · exact q4 y y1 y4.1 y2 y3
    · have := order x y q2 y4
      omega
  | none =>
    have n0 := tryP_none e3 e4 hw62 g3 g4 hbf i2.1 (by omega) t0
    cases t1 : v.tryP n v.p1 with
    | some x =>
      obtain ⟨q1, q2, q3, q4⟩ := tryP_some e3 e4 hw62 g3 g4 hbf i3.1 (by omega) t1
      rw [e, t0, t1]
      refine .inl (fin x q1 (by have := q2.2; omega) q3 (.inr q2) fun y y1 y2 y3 y4 => ?_)
      rcases y4 with y4 | y4
      · exact n0 y y1 y4 y3
      · exact q4 y y1 y4.1 y2 y3
    | none =>
      have n1 := tryP_none e3 e4 hw62 g3 g4 hbf i3.1 (by omega) t1
      refine .inr ⟨by rw [e, t0, t1]; rfl, fun y y1 y2 => ?_⟩
      cases hy : v.has y
      · rfl
      · obtain ⟨q1, q2⟩ := (key y (by omega) (by omega)).1 hy
        have hyy : ((y.toNat : Nat) : Int) = y := by omega
        rcases q2 with q2 | q2
        · exact absurd q1 (n0 y.toNat (by omega) (by rw [hyy]; exact q2))
        · exact absurd q1 (n1 y.toNat (by omega) (by rw [hyy]; exact q2))
end Go.Ax
