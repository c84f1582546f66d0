/- When one set must be told to be in another; single sets. -/
import Derived.Test.YtplcaoidiohlmaaAx23
namespace Go.Ax
open Go
set_option linter.unusedVariables false
set_option linter.unusedSimpArgs false

@[go_sem] theorem fl_cons {p : Nat → Prop} {a : Nat} {l : List Nat} : (∀ t ∈ a :: l, p t) = (p a ∧ ∀ t ∈ l, p t) := by
  apply propext; simp
@[go_sem] theorem fl_ptr {x y b : Nat} : (∃ b' o', some (Value.pointer (some ⟨x, y, none⟩)) = some (Value.pointer (some ⟨b', o', none⟩)) ∧ b' ≠ b) = ¬ x = b := by
  apply propext
  constructor
  · rintro ⟨b', o', h, hn⟩; cases h; exact hn
  · intro h; exact ⟨x, y, rfl, h⟩
theorem members_void {v : V} (h : v.nextR 0 < 0) (k : Nat) : v.members k = [] := by
  unfold V.members V.mem
  rw [if_pos h]
theorem under_none {a b : V} (h : a.nextR 0 < 0) : a.under b = true := by
  simp [V.under, members_void h]
theorem under_same {a : V} : a.under a = true := by simp [V.under]
theorem under_all {a b : V} (h : b = V.whole b.w) : a.under b = true := by
  have : decide (b = V.whole b.w) = true := by simpa using h
  simp [V.under, this]
theorem under_one {a b : V} (h1 : a.is1 = true) (h : b.has (a.nextR 0) = true) : a.under b = true := by
  simp [V.is1] at h1
  have e : a.members 16 = [a.nextR 0] := by
    unfold V.members V.mem
    rw [if_neg (by omega)]
    unfold V.mem
    rw [if_pos h1.2]
  simp [V.under, e, h]
theorem single_of {z : V} (hz : z.ok = true) {n : Int} (h0 : 0 ≤ n) (h1 : n ≤ mostV z.w) (hn : z.has n = true) (hy : ∀ y, 0 ≤ y → y ≤ mostV z.w → z.has y = true → y = n) : z.nextR 0 = n ∧ z.is1 = true := by
  have hne : ¬ z.nextR 0 < 0 := by
    intro h
    rw [void_has hz h n h0 h1] at hn; cases hn
  obtain ⟨a1, a2, a3⟩ := some_has hz hne
  have e := hy _ a1 a2 a3
  refine ⟨e, ?_⟩
  have h2 : z.nextR (z.nextR 0 + 1) < 0 := by
    rcases nextR_spec hz (n := z.nextR 0 + 1) (by omega) with ⟨k1, k2, k3, k4, _⟩ | ⟨k, _⟩
    · have := hy _ k1 k3 k4; omega
    · omega
  simp [V.is1, h2]; omega
/-- A single set's members. -/
theorem is1_mem {v : V} (hv : v.ok = true) (h : v.is1 = true) : 0 ≤ v.nextR 0 ∧ v.nextR 0 ≤ mostV v.w ∧ v.has (v.nextR 0) = true ∧ ∀ y, 0 ≤ y → y ≤ mostV v.w → v.has y = true → y = v.nextR 0 := by
  simp [V.is1] at h
  obtain ⟨a1, a2, a3⟩ := some_has hv (by omega)
  refine ⟨a1, a2, a3, fun y h0 h1 hy => ?_⟩
  rcases nextR_spec hv (n := 0) (by omega) with ⟨g1, g2, g3, g4, g5⟩ | ⟨g1, _⟩
  · by_cases e : y = v.nextR 0
    · exact e
    by_cases e2 : y < v.nextR 0
    · rw [g5 y h0 e2] at hy; cases hy
    · rcases nextR_spec hv (n := v.nextR 0 + 1) (by omega) with ⟨k1, _⟩ | ⟨_, k⟩
      · omega
      · rw [k y (by omega) h1] at hy; cases hy
  · omega
theorem void_of {v : V} (hv : v.ok = true) (h : ∀ n, 0 ≤ n → n ≤ mostV v.w → v.has n = false) : v.nextR 0 < 0 := by
  rcases nextR_spec hv (n := 0) (by omega) with ⟨g1, g2, g3, g4, g5⟩ | ⟨g1, _⟩
  · rw [h _ g1 g3] at g4; cases g4
  · omega
/-- The single lines of a join. -/
theorem join_single {a b x : V} (ha : a.ok = true) (hb : b.ok = true) (hw : b.w = a.w) (hx : BothR a b x)
    (h : a.is1 = true ∧ b.is1 = true ∧ a.nextR 0 = b.nextR 0 ∨ a.is1 = true ∧ b.nextR 0 < 0 ∨ b.is1 = true ∧ a.nextR 0 < 0) :
    x.is1 = true ∧ (a.is1 = true → x.nextR 0 = a.nextR 0) ∧ (b.is1 = true → x.nextR 0 = b.nextR 0) := by
  have xw := hx.w
  rcases h with ⟨h1, h2, h3⟩ | ⟨h1, h2⟩ | ⟨h1, h2⟩
  · obtain ⟨a1, a2, a3, a4⟩ := is1_mem ha h1
    obtain ⟨b1, b2, b3, b4⟩ := is1_mem hb h2
    have := single_of hx.ok (n := a.nextR 0) a1 (by rw [xw]; exact a2) (hx.left _ a1 a2 a3) (fun y y0 y1 hy => hx.one _ (fun t t0 t1 ht => by
      rcases ht with ht | ht
      · exact a4 t t0 t1 ht
      · rw [h3]; exact b4 t t0 (by rw [hw]; exact t1) ht) y y0 (by rw [← xw]; exact y1) hy)
    exact ⟨this.2, fun _ => this.1, fun _ => this.1.trans h3⟩
  · obtain ⟨a1, a2, a3, a4⟩ := is1_mem ha h1
    have hv := void_has hb h2
    have := single_of hx.ok (n := a.nextR 0) a1 (by rw [xw]; exact a2) (hx.left _ a1 a2 a3) (fun y y0 y1 hy => hx.one _ (fun t t0 t1 ht => by
      rcases ht with ht | ht
      · exact a4 t t0 t1 ht
      · rw [hv t t0 (by rw [hw]; exact t1)] at ht; cases ht) y y0 (by rw [← xw]; exact y1) hy)
    refine ⟨this.2, fun _ => this.1, fun hb1 => ?_⟩
    simp [V.is1] at hb1; omega
  · obtain ⟨b1, b2, b3, b4⟩ := is1_mem hb h1
    have hv := void_has ha h2
    have := single_of hx.ok (n := b.nextR 0) b1 (by rw [xw, ← hw]; exact b2) (hx.right _ b1 b2 b3) (fun y y0 y1 hy => hx.one _ (fun t t0 t1 ht => by
      rcases ht with ht | ht
      · rw [hv t t0 t1] at ht; cases ht
      · exact b4 t t0 (by rw [hw]; exact t1) ht) y y0 (by rw [← xw]; exact y1) hy)
    refine ⟨this.2, fun ha1 => ?_, fun _ => this.1⟩
    simp [V.is1] at ha1; omega
end Go.Ax
