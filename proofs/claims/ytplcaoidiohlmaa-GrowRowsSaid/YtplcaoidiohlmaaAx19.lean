/- How many members a set of bytes has, counted one by one. -/
import Derived.Test.YtplcaoidiohlmaaAx18
namespace Go.Ax
open Go
set_option linter.unusedVariables false
set_option linter.unusedSimpArgs false

/-- So many of the numbers below k are members. -/
def V.cnt (v : V) : Nat → Nat
  | 0 => 0
  | k + 1 => v.cnt k + if v.has (k : Int) then 1 else 0
theorem V.cnt_le (v : V) : ∀ k, v.cnt k ≤ k
  | 0 => Nat.le_refl _
  | k + 1 => by have := v.cnt_le k; unfold V.cnt; split <;> omega
theorem V.cnt_mono (v : V) {j : Nat} : ∀ {k : Nat}, j ≤ k → v.cnt j ≤ v.cnt k
  | 0, h => by have : j = 0 := by omega
               subst this; exact Nat.le_refl _
  | k + 1, h => by
    by_cases e : j = k + 1
    · subst e; exact Nat.le_refl _
    · have := v.cnt_mono (j := j) (k := k) (by omega)
      show v.cnt j ≤ v.cnt k + _
      omega
theorem V.cnt_pos (v : V) {x k : Nat} (hx : x < k) (h : v.has (x : Int) = true) : v.cnt x + 1 ≤ v.cnt k := by
  have h1 := v.cnt_mono (j := x + 1) (k := k) hx
  have h2 : v.cnt (x + 1) = v.cnt x + 1 := by show v.cnt x + _ = _; rw [if_pos h]
  omega
theorem V.cnt_same (v : V) {j : Nat} : ∀ {k : Nat}, j ≤ k → (∀ y : Nat, j ≤ y → y < k → v.has (y : Int) = false) → v.cnt k = v.cnt j
  | 0, h, _ => by have : j = 0 := by omega
                  subst this; rfl
  | k + 1, h, hf => by
    by_cases e : j = k + 1
    · subst e; rfl
    · have := v.cnt_same (j := j) (k := k) (by omega) (fun y h1 h2 => hf y h1 (by omega))
      show v.cnt k + _ = _
      rw [if_neg (by rw [hf k (by omega) (by omega)]; simp)]; omega

theorem most8 : mostV 8 = 255 := by decide
theorem cnt_empty {v : V} (h : v.ok = true) (hw : v.w = 8) : decide (v.nextR 0 < 0) = decide (((v.cnt 256 : Nat) : Int) = 0) := by
  rcases nextR_spec h (n := 0) (by omega) with ⟨h1, h2, h3, h4, h5⟩ | ⟨h1, h2⟩
  · rw [hw, most8] at h3
    have e : ((v.nextR 0).toNat : Int) = v.nextR 0 := by omega
    have := v.cnt_pos (x := (v.nextR 0).toNat) (k := 256) (by omega) (by rw [e]; exact h4)
    have a1 : ¬ v.nextR 0 < 0 := by omega
    have a2 : ¬ ((v.cnt 256 : Nat) : Int) = 0 := by omega
    simp [a1, a2]; omega
  · rw [hw, most8] at h2
    have := v.cnt_same (j := 0) (k := 256) (by omega) (fun y q1 q2 => h2 y (by omega) (by omega))
    have a2 : v.cnt 256 = 0 := this
    rw [h1, a2]; rfl
theorem cnt_one {v : V} (h : v.ok = true) (hw : v.w = 8) : v.is1 = decide (((v.cnt 256 : Nat) : Int) = 1) := by
  rcases nextR_spec h (n := 0) (by omega) with ⟨h1, h2, h3, h4, h5⟩ | ⟨h1, h2⟩
  · rw [hw, most8] at h3
    have e : ((v.nextR 0).toNat : Int) = v.nextR 0 := by omega
    have below : v.cnt (v.nextR 0).toNat = 0 := v.cnt_same (j := 0) (by omega) (fun y q1 q2 => h5 y (by omega) (by omega))
    have at1 : v.cnt ((v.nextR 0).toNat + 1) = 1 := by
      show v.cnt (v.nextR 0).toNat + _ = _
      rw [below, if_pos (by rw [e]; exact h4)]
    rcases nextR_spec h (n := v.nextR 0 + 1) (by omega) with ⟨k1, k2, k3, k4, k5⟩ | ⟨k1, k2⟩
    · rw [hw, most8] at k3
      have e' : ((v.nextR (v.nextR 0 + 1)).toNat : Int) = v.nextR (v.nextR 0 + 1) := by omega
      have := v.cnt_pos (x := (v.nextR (v.nextR 0 + 1)).toNat) (k := 256) (by omega) (by rw [e']; exact k4)
      have m := v.cnt_mono (j := (v.nextR 0).toNat + 1) (k := (v.nextR (v.nextR 0 + 1)).toNat) (by omega)
      have a1 : ¬ v.nextR (v.nextR 0 + 1) < 0 := by omega
      have a2 : ¬ ((v.cnt 256 : Nat) : Int) = 1 := by omega
      simp [V.is1, a1, a2]
    · rw [hw, most8] at k2
      have := v.cnt_same (j := (v.nextR 0).toNat + 1) (k := 256) (by omega) (fun y q1 q2 => k2 y (by omega) (by omega))
      have a2 : v.cnt 256 = 1 := by omega
      have a1 : v.nextR (v.nextR 0 + 1) < 0 := by omega
      simp [V.is1, a1, a2, h1]
  · rw [hw, most8] at h2
    have a2 : v.cnt 256 = 0 := v.cnt_same (j := 0) (k := 256) (by omega) (fun y q1 q2 => h2 y (by omega) (by omega))
    simp [V.is1, h1, a2]
theorem has_iff_next {v : V} (h : v.ok = true) {n : Int} (hn : 0 ≤ n) (hm : n ≤ mostV v.w) : v.has n = decide (v.nextR n = n) := by
  rcases nextR_spec h (n := n) hn with ⟨h1, h2, h3, h4, h5⟩ | ⟨h1, h2⟩
  · by_cases e : v.nextR n = n
    · rw [e] at h4; simp [h4, e]
    · rw [h5 n (by omega) (by omega)]; simp [e]
  · rw [h2 n (by omega) hm, h1]; simp; omega
@[go_sem] theorem V.set4 {v : V} {x : Int} : v.cs.take 4 ++ [.int .i64 x] ++ v.cs.drop 5 = (V.mk v.w v.no v.low v.high x v.bits).cs := rfl
@[go_sem] theorem V.set5 {v : V} {x : Int} : v.cs.take 5 ++ [.int .i64 x] ++ v.cs.drop 6 = (V.mk v.w v.no v.low v.high v.free x).cs := rfl
@[go_sem] theorem V.set5' {v : V} {x : Int} : v.cs.take 5 ++ [.int .i64 x] = (V.mk v.w v.no v.low v.high v.free x).cs := rfl
theorem tmod_nat (a b : Nat) : Int.tmod (a : Int) (b : Int) = ((a % b : Nat) : Int) := by
  rw [Int.tmod_eq_emod_of_nonneg (Int.natCast_nonneg _)]; simp

/-- The sets that are made at the corners. -/
def cornerV (i : Nat) (low : Int) : V :=
  ⟨8, false, low, (low + i) % 256, if i % 3 = 0 then 255 else bclr .i64 255 (2 ^ (i % 8)), if i % 3 = 1 then 2 ^ (i % 8) else 0⟩
theorem corner_bits : ∀ j, j < 8 → isN (bclr .i64 255 (2 ^ j)) 8 = true ∧ isN (2 ^ j) 8 = true ∧ band .i64 (2 ^ j) (bclr .i64 255 (2 ^ j)) = 0 ∧ band .i64 0 (bclr .i64 255 (2 ^ j)) = 0 := by decide +kernel
theorem corner_zero : isN 255 8 = true ∧ isN 0 8 = true ∧ band .i64 0 255 = 0 := by decide +kernel
theorem corner_ok (i : Nat) {low : Int} (h0 : 0 ≤ low) (h1 : low ≤ 255) : (cornerV i low).ok = true := by
  obtain ⟨a, b, c, d⟩ := corner_bits (i % 8) (Nat.mod_lt _ (by decide))
  obtain ⟨e, f, g⟩ := corner_zero
  have l1 : isN low 8 = true := by simp [isN, most8]; omega
  have l2 : isN ((low + i) % 256) 8 = true := by simp [isN, most8]; omega
  have w8 : isW 8 = true := by decide
  unfold V.ok cornerV
  simp only [w8, l1, l2]
  by_cases c0 : i % 3 = 0
  · simp [c0, e, f, g]
  · by_cases c1 : i % 3 = 1
    · simp [c1, a, b, c]
    · simp [c0, c1, a, f, d]
end Go.Ax
