/- Parts B7: the machine's runs of small codes, contracts of functions, plain facts. -/
import Derived.Test.YtjmgdglhhiccoaaGreatB6
namespace Go.Proofs.Tryz.K
open Go Go.Ax Go.Proofs.Tryz.S
set_option maxRecDepth 100000
set_option linter.unusedSimpArgs false
set_option linter.unusedVariables false
set_option maxHeartbeats 4000000
variable (F : Fz) (M : Hp)
theorem ptrs_nil : ptrsB [] = true := by decide
theorem abs_ptrs {k : Int} {v : V} {l : List Ba} (h : absB k v l = true) : ptrsB l = true := by
  by_cases h7 : k = 7
  · simp only [absB, h7, if_true, Bool.and_eq_true] at h; exact h.2
  · rw [((abs_pre h).2.1 h7).2]; exact ptrs_nil
theorem k34 (p : Pg) (sa : Option Addr) (sc : Nat) (sz : List Int) (c : Cl) (hs : intR F M sa sc sz) (hsz : ∀ b, 0 ≤ szAt sz b ∧ szAt sz b ≤ 32) (hp : p.ptr = 2 ∨ p.ptr = 4) (h : c.rd F M) :
    CallsA Tryz.prog 34 [p.val, .slice sa sz.length sc, c.val] F M (Same F M (.bool (cellB p.ptr sz c.pc))) := by
  refine callsA_of hm Tryz.func34 e34 (Nat.le_of_ble_eq_true rfl) ?_
  have hsl := hs.1
  have ew : IntKind.i64.wrap ((sz.length : Int) - 1) = sz.length - 1 := w64 (by omega) (by omega)
  simp only [c34, go_sem, Nat.reduceAdd]
  intro r3 hF3 hM3
  simp only [go_sem, reduceCtorEq, Nat.reduceEqDiff]
  intro r5 hF5 hM5
  simp only [upd_none2] at hM5
  have h5 : c.rd F ((M.upd r3 ⟨p.cs, 28, 7⟩).upd r5 ⟨c.cs, 87, 10⟩) := RdG.new (RdG.new h hF3 hM3) hF5 (by simp only [upd_none2, not_false_eq_true, and_self, *])
  have kB := fun n l m => k33 F ((M.upd r3 ⟨p.cs, 28, 7⟩).upd r5 ⟨c.cs, 87, 10⟩) n l m
  have kK := k52 F ((M.upd r3 ⟨p.cs, 28, 7⟩).upd r5 ⟨c.cs, 87, 10⟩) c.k
  have kS := k36 F ((M.upd r3 ⟨p.cs, 28, 7⟩).upd r5 ⟨c.cs, 87, 10⟩) p c.k
  have kE := k72 F ((M.upd r3 ⟨p.cs, 28, 7⟩).upd r5 ⟨c.cs, 87, 10⟩) c.v V.zero _ (.slice none 0 0) c.l [] h5 rdG_nil
  have kV := k73 F ((M.upd r3 ⟨p.cs, 28, 7⟩).upd r5 ⟨c.cs, 87, 10⟩) c.v
  have kP := k74 F ((M.upd r3 ⟨p.cs, 28, 7⟩).upd r5 ⟨c.cs, 87, 10⟩) _ c.l h5
  have kA := k76 F ((M.upd r3 ⟨p.cs, 28, 7⟩).upd r5 ⟨c.cs, 87, 10⟩) c.k c.v _ c.l h5
  have kT := fun hp => k75 F ((M.upd r3 ⟨p.cs, 28, 7⟩).upd r5 ⟨c.cs, 87, 10⟩) c.lA c.lC c.l sz.length h5 hp
  have el : decide (c.l = []) = decide (c.l.length = 0) := decide_eq_decide.2 (by simp)
  rw [el] at kE
  -- whether block and kind may be
  by_cases hb : 1 ≤ c.b ∧ c.b < sz.length
  rotate_left
  · have hbf : (decide (1 ≤ c.b) && decide (c.b ≤ (sz.length : Int) - 1)) = false := by simp; omega
    have hR : cellB p.ptr sz c.pc = false := by
      have : (decide (1 ≤ c.b) && decide (c.b < sz.length)) = false := by simp; omega
      unfold cellB
      show (contentB c.pc && (decide (1 ≤ c.b) && decide (c.b < sz.length)) && _ && _ && _ && _) = false
      rw [this]; simp
    simp only [go_sem, reduceCtorEq, reduceIte, Nat.reduceEqDiff, ew]
    refine callK_same (kB _ _ _) ?_
    simp only [go_sem, reduceIte, Nat.reduceEqDiff, hbf]
    all_goals (refine endK_keep (M := M) (by repeat' first | exact Keep.refl _ | (refine Keep.new ?_ (by simp only [*]))) ⟨?_, rfl, rfl⟩)
    rw [hR]
  have hbt : (decide (1 ≤ c.b) && decide (c.b ≤ (sz.length : Int) - 1)) = true := by simp; omega
  by_cases hk : c.k = 0 ∨ c.k = 11 ∨ isS c.k = true
  rotate_left
  · have k0 : ¬ c.k = 0 := fun e => hk (.inl e)
    have k11 : ¬ c.k = 11 := fun e => hk (.inr (.inl e))
    have ks : isS c.k = false := by
      cases h : isS c.k
      · rfl
      · exact absurd (.inr (.inr h)) hk
    have hR : cellB p.ptr sz c.pc = false := by
      have : contentB c.pc = false := by
        cases h : contentB c.pc
        · rfl
        · exact absurd (content_kind h) hk
      unfold cellB; rw [this]; rfl
    simp only [go_sem, reduceCtorEq, reduceIte, Nat.reduceEqDiff, ew]
    refine callK_same (kB _ _ _) ?_
    simp only [go_sem, Nat.reduceEqDiff, hbt]
    refine callK_same kK ?_
    simp only [go_sem, reduceCtorEq, reduceIte, Nat.reduceEqDiff, ks, k0, k11]
    all_goals (refine endK_keep (M := M) (by repeat' first | exact Keep.refl _ | (refine Keep.new ?_ (by simp only [*]))) ⟨?_, rfl, rfl⟩)
    rw [hR]
  have hkc : ∀ b : Bool, (isS c.k = b) → (!b && !decide (c.k = 0) && !decide (c.k = 11)) = false := fun b hb => by
    subst hb
    rcases hk with h | h | h <;> simp [h]
  obtain ⟨n1, n4⟩ := spanK_in hp hk
  have en : ¬ spanK p.ptr c.k = 0 := by omega
  have ez := hsz c.b
  obtain ⟨i, hi⟩ := Int.eq_ofNat_of_zero_le (by omega : 0 ≤ c.b)
  have hil : i < sz.length := by omega
  have hi0 : (0 : Int) ≤ i := by omega
  have hil' : (i : Int) < sz.length := by omega
  obtain ⟨b, o, cs, rfl, hb', d1⟩ := Ax.int_at hs hil
  have es := szAt_get hil
  rw [hi, es] at ez
  have hR : cellB p.ptr sz c.pc = (contentB c.pc && decide (0 ≤ c.p) && knownB c.l ((sz.length : Int) - 1) && decide (c.p.tmod (spanK p.ptr c.k) = 0) && decide (c.p ≤ sz[i] - spanK p.ptr c.k)) := by
    unfold cellB
    show (contentB c.pc && (decide (1 ≤ c.b) && decide (c.b < sz.length)) && decide (0 ≤ c.p) && knownB c.l ((sz.length : Int) - 1) && decide (c.p.tmod (spanK p.ptr c.k) = 0) && decide (c.p ≤ szAt sz c.b - spanK p.ptr c.k)) = _
    rw [decide_eq_true hb.1, decide_eq_true hb.2, hi, es]; simp
  generalize cellB p.ptr sz c.pc = R at *
  generalize sz[i] = z at *
  generalize spanK p.ptr c.k = n at *
  rw [hi] at hbt
  have ew3 : 0 ≤ c.p → c.p ≤ z → IntKind.i64.wrap (z - c.p) = z - c.p := fun h1 h2 => w64 (by omega) (by omega)
  clear hsz hs h h5 es hb el
  have no : ∀ M', Keep M M' → (contentB c.pc = false ∨ ¬ (0 ≤ c.p) ∨ ¬ (c.p.tmod n = 0) ∨ ¬ (c.p ≤ z - n) ∨ knownB c.l ((sz.length : Int) - 1) = false) → endK F M' (Same F M (.bool R)) (.bool false) := fun M' k h => by
    refine endK_keep k ⟨?_, rfl, rfl⟩
    rw [hR]
    rcases h with h | h | h | h | h <;> simp [h]
  have kp5 : Keep M ((M.upd r3 ⟨p.cs, 28, 7⟩).upd r5 ⟨c.cs, 87, 10⟩) := (by repeat' first | exact Keep.refl _ | (refine Keep.new ?_ (by simp only [*])))
  have go : ∀ v : Bool, (0 ≤ c.p ∧ c.p.tmod n = 0 ∧ c.p ≤ z - n) → (contentB c.pc && knownB c.l ((sz.length : Int) - 1)) = v → endK F ((M.upd r3 ⟨p.cs, 28, 7⟩).upd r5 ⟨c.cs, 87, 10⟩) (Same F M (.bool R)) (.bool v) := fun v h e => by
    refine endK_keep kp5 ⟨?_, rfl, rfl⟩
    rw [← e, hR]
    simp [h.1, h.2.1, h.2.2]
  rcases hk with h | h | h
  · have e0 : decide (c.k = 0) = true := by simp [h]
    have e11 : decide (c.k = 11) = false := by simp [h]
    have hks : isS c.k = false := by simp [h, isS]
    have hcB : contentB c.pc = (decide (c.v = V.zero) && decide (c.l.length = 0)) := by
      unfold contentB
      show (if c.k = 0 then _ else _) = _
      rw [if_pos h]; rfl
    clear hkc h
    by_cases p0 : 0 ≤ c.p
    rotate_left
    · have p0' : c.p < 0 := by omega
      simp only [go_sem, reduceCtorEq, reduceIte, Nat.reduceEqDiff, ew, hi]
      refine callK_same (kB _ _ _) ?_
      simp only [go_sem, Nat.reduceEqDiff, hbt]
      refine callK_same kK ?_
      simp only [go_sem, reduceCtorEq, reduceIte, Nat.reduceEqDiff, hks, hM5, e0]
      refine callK_same kS ?_
      simp only [go_sem, reduceIte, Nat.reduceEqDiff, p0']
      exact no _ kp5 (.inr (.inl p0))
    have p0' : ¬ c.p < 0 := by omega
    by_cases pz : z < c.p
    · simp only [go_sem, reduceCtorEq, reduceIte, Nat.reduceEqDiff, ew, hi]
      refine callK_same (kB _ _ _) ?_
      simp only [go_sem, Nat.reduceEqDiff, hbt]
      refine callK_same kK ?_
      simp only [go_sem, reduceCtorEq, reduceIte, Nat.reduceEqDiff, hks, hM5, e0]
      refine callK_same kS ?_
      simp only [go_sem, reduceCtorEq, reduceIte, Nat.reduceEqDiff, hM5, hi, p0', hi0, hil', hb', blk_upd_known, Option.isSome_some, d1, Int.toNat_natCast, pz, hF3, hM3, hF5]
      exact no _ kp5 (.inr (.inr (.inr (.inl (by omega)))))
    have ew4 := ew3 p0 (by omega)
    by_cases pn : z - c.p < n
    · simp only [go_sem, reduceCtorEq, reduceIte, Nat.reduceEqDiff, ew, hi]
      refine callK_same (kB _ _ _) ?_
      simp only [go_sem, Nat.reduceEqDiff, hbt]
      refine callK_same kK ?_
      simp only [go_sem, reduceCtorEq, reduceIte, Nat.reduceEqDiff, hks, hM5, e0]
      refine callK_same kS ?_
      simp only [go_sem, reduceCtorEq, reduceIte, Nat.reduceEqDiff, hM5, hi, p0', hi0, hil', hb', blk_upd_known, Option.isSome_some, d1, Int.toNat_natCast, pz, ew4, pn, hF3, hM3, hF5]
      exact no _ kp5 (.inr (.inr (.inr (.inl (by omega)))))
    by_cases pm : c.p.tmod n = 0
    rotate_left
    · simp only [go_sem, reduceCtorEq, reduceIte, Nat.reduceEqDiff, ew, hi]
      refine callK_same (kB _ _ _) ?_
      simp only [go_sem, Nat.reduceEqDiff, hbt]
      refine callK_same kK ?_
      simp only [go_sem, reduceCtorEq, reduceIte, Nat.reduceEqDiff, hks, hM5, e0]
      refine callK_same kS ?_
      simp only [go_sem, reduceCtorEq, reduceIte, Nat.reduceEqDiff, hM5, hi, p0', hi0, hil', hb', blk_upd_known, Option.isSome_some, d1, Int.toNat_natCast, pz, ew4, pn, hF3, hM3, hF5, en, pm]
      exact no _ kp5 (.inr (.inr (.inl pm)))
    have pall : 0 ≤ c.p ∧ c.p.tmod n = 0 ∧ c.p ≤ z - n := ⟨p0, pm, by omega⟩
    simp only [go_sem, reduceCtorEq, reduceIte, Nat.reduceEqDiff, ew, hi]
    refine callK_same (kB _ _ _) ?_
    simp only [go_sem, Nat.reduceEqDiff, hbt]
    refine callK_same kK ?_
    simp only [go_sem, reduceCtorEq, reduceIte, Nat.reduceEqDiff, hks, hM5, e0]
    refine callK_same kS ?_
    simp only [go_sem, reduceCtorEq, reduceIte, Nat.reduceEqDiff, Nat.reduceAdd, hM5, hi, p0', hi0, hil', hb', blk_upd_known, Option.isSome_some, d1, Int.toNat_natCast, pz, ew4, pn, hF3, hM3, hF5, en, pm, e0]
    refine callK_same kE ?_
    simp only [go_sem]
    refine go _ pall ?_
    rw [hcB]
    by_cases hl0 : c.l.length = 0
    · have : c.l = [] := List.eq_nil_of_length_eq_zero hl0
      simp [this, knownB]
    · simp [hl0]
  · have e0 : decide (c.k = 0) = false := by simp [h]
    have e11 : decide (c.k = 11) = true := by simp [h]
    have hks : isS c.k = false := by simp [h, isS]
    have hcB : contentB c.pc = (c.v.ok && decide (c.v.w = 8) && ptrsB c.l) := by
      have h0 : ¬ c.k = 0 := by omega
      unfold contentB
      show (if c.k = 0 then _ else if c.k = 11 then _ else _) = _
      rw [if_neg h0, if_pos h]; rfl
    clear hkc h
    by_cases p0 : 0 ≤ c.p
    rotate_left
    · have p0' : c.p < 0 := by omega
      simp only [go_sem, reduceCtorEq, reduceIte, Nat.reduceEqDiff, ew, hi]
      refine callK_same (kB _ _ _) ?_
      simp only [go_sem, Nat.reduceEqDiff, hbt]
      refine callK_same kK ?_
      simp only [go_sem, reduceCtorEq, reduceIte, Nat.reduceEqDiff, hks, hM5, e0, e11]
      refine callK_same kS ?_
      simp only [go_sem, reduceIte, Nat.reduceEqDiff, p0']
      exact no _ kp5 (.inr (.inl p0))
    have p0' : ¬ c.p < 0 := by omega
    by_cases pz : z < c.p
    · simp only [go_sem, reduceCtorEq, reduceIte, Nat.reduceEqDiff, ew, hi]
      refine callK_same (kB _ _ _) ?_
      simp only [go_sem, Nat.reduceEqDiff, hbt]
      refine callK_same kK ?_
      simp only [go_sem, reduceCtorEq, reduceIte, Nat.reduceEqDiff, hks, hM5, e0, e11]
      refine callK_same kS ?_
      simp only [go_sem, reduceCtorEq, reduceIte, Nat.reduceEqDiff, hM5, hi, p0', hi0, hil', hb', blk_upd_known, Option.isSome_some, d1, Int.toNat_natCast, pz, hF3, hM3, hF5]
      exact no _ kp5 (.inr (.inr (.inr (.inl (by omega)))))
    have ew4 := ew3 p0 (by omega)
    by_cases pn : z - c.p < n
    · simp only [go_sem, reduceCtorEq, reduceIte, Nat.reduceEqDiff, ew, hi]
      refine callK_same (kB _ _ _) ?_
      simp only [go_sem, Nat.reduceEqDiff, hbt]
      refine callK_same kK ?_
      simp only [go_sem, reduceCtorEq, reduceIte, Nat.reduceEqDiff, hks, hM5, e0, e11]
      refine callK_same kS ?_
      simp only [go_sem, reduceCtorEq, reduceIte, Nat.reduceEqDiff, hM5, hi, p0', hi0, hil', hb', blk_upd_known, Option.isSome_some, d1, Int.toNat_natCast, pz, ew4, pn, hF3, hM3, hF5]
      exact no _ kp5 (.inr (.inr (.inr (.inl (by omega)))))
    by_cases pm : c.p.tmod n = 0
    rotate_left
    · simp only [go_sem, reduceCtorEq, reduceIte, Nat.reduceEqDiff, ew, hi]
      refine callK_same (kB _ _ _) ?_
      simp only [go_sem, Nat.reduceEqDiff, hbt]
      refine callK_same kK ?_
      simp only [go_sem, reduceCtorEq, reduceIte, Nat.reduceEqDiff, hks, hM5, e0, e11]
      refine callK_same kS ?_
      simp only [go_sem, reduceCtorEq, reduceIte, Nat.reduceEqDiff, hM5, hi, p0', hi0, hil', hb', blk_upd_known, Option.isSome_some, d1, Int.toNat_natCast, pz, ew4, pn, hF3, hM3, hF5, en, pm]
      exact no _ kp5 (.inr (.inr (.inl pm)))
    have pall : 0 ≤ c.p ∧ c.p.tmod n = 0 ∧ c.p ≤ z - n := ⟨p0, pm, by omega⟩
    simp only [go_sem, reduceCtorEq, reduceIte, Nat.reduceEqDiff, ew, hi]
    refine callK_same (kB _ _ _) ?_
    simp only [go_sem, Nat.reduceEqDiff, hbt]
    refine callK_same kK ?_
    simp only [go_sem, reduceCtorEq, reduceIte, Nat.reduceEqDiff, hks, hM5, e0, e11]
    refine callK_same kS ?_
    simp only [go_sem, reduceCtorEq, reduceIte, Nat.reduceEqDiff, Nat.reduceAdd, Nat.reduceLeDiff, hM5, hi, p0', hi0, hil', hb', blk_upd_known, Option.isSome_some, d1, Int.toNat_natCast, pz, ew4, pn, hF3, hM3, hF5, en, pm, e0, e11]
    refine callK_same kV ?_
    cases v1 : c.v.ok
    · simp only [go_sem, reduceCtorEq, reduceIte, Nat.reduceEqDiff]
      exact go _ pall (by rw [hcB, v1]; rfl)
    by_cases v2 : c.v.w = 8
    rotate_left
    · simp only [go_sem, reduceCtorEq, reduceIte, Nat.reduceEqDiff, Nat.reduceAdd, v2]
      exact go _ pall (by rw [hcB]; simp [v2])
    simp only [go_sem, reduceIte, Nat.reduceEqDiff, Nat.reduceAdd, v2]
    refine callK_same kP ?_
    cases v3 : ptrsB c.l
    · simp only [go_sem, reduceCtorEq, reduceIte, Nat.reduceEqDiff]
      exact go _ pall (by rw [hcB, v3]; simp)
    simp only [go_sem, reduceCtorEq, reduceIte, Nat.reduceEqDiff, Nat.reduceAdd]
    refine callK_same (kT v3) ?_
    simp only [go_sem, reduceIte, Nat.reduceEqDiff]
    exact go _ pall (by rw [hcB, v1, v3]; simp [v2])
  · have e0 : decide (c.k = 0) = false := by rw [decide_eq_false]; rintro e; rw [e] at h; cases h
    have e11 : decide (c.k = 11) = false := by rw [decide_eq_false]; rintro e; rw [e] at h; cases h
    have hks : isS c.k = true := h
    have hcB : contentB c.pc = (isS c.k && absB c.k c.v c.l) := by
      have h0 : ¬ c.k = 0 := by rintro e; rw [e] at h; cases h
      have h1 : ¬ c.k = 11 := by rintro e; rw [e] at h; cases h
      unfold contentB
      show (if c.k = 0 then _ else if c.k = 11 then _ else _) = _
      rw [if_neg h0, if_neg h1]; rfl
    clear hkc h
    by_cases p0 : 0 ≤ c.p
    rotate_left
    · have p0' : c.p < 0 := by omega
      simp only [go_sem, reduceCtorEq, reduceIte, Nat.reduceEqDiff, ew, hi]
      refine callK_same (kB _ _ _) ?_
      simp only [go_sem, Nat.reduceEqDiff, hbt]
      refine callK_same kK ?_
      simp only [go_sem, reduceCtorEq, reduceIte, Nat.reduceEqDiff, hks, hM5]
      refine callK_same kS ?_
      simp only [go_sem, reduceIte, Nat.reduceEqDiff, p0']
      exact no _ kp5 (.inr (.inl p0))
    have p0' : ¬ c.p < 0 := by omega
    by_cases pz : z < c.p
    · simp only [go_sem, reduceCtorEq, reduceIte, Nat.reduceEqDiff, ew, hi]
      refine callK_same (kB _ _ _) ?_
      simp only [go_sem, Nat.reduceEqDiff, hbt]
      refine callK_same kK ?_
      simp only [go_sem, reduceCtorEq, reduceIte, Nat.reduceEqDiff, hks, hM5]
      refine callK_same kS ?_
      simp only [go_sem, reduceCtorEq, reduceIte, Nat.reduceEqDiff, hM5, hi, p0', hi0, hil', hb', blk_upd_known, Option.isSome_some, d1, Int.toNat_natCast, pz, hF3, hM3, hF5]
      exact no _ kp5 (.inr (.inr (.inr (.inl (by omega)))))
    have ew4 := ew3 p0 (by omega)
    by_cases pn : z - c.p < n
    · simp only [go_sem, reduceCtorEq, reduceIte, Nat.reduceEqDiff, ew, hi]
      refine callK_same (kB _ _ _) ?_
      simp only [go_sem, Nat.reduceEqDiff, hbt]
      refine callK_same kK ?_
      simp only [go_sem, reduceCtorEq, reduceIte, Nat.reduceEqDiff, hks, hM5]
      refine callK_same kS ?_
      simp only [go_sem, reduceCtorEq, reduceIte, Nat.reduceEqDiff, hM5, hi, p0', hi0, hil', hb', blk_upd_known, Option.isSome_some, d1, Int.toNat_natCast, pz, ew4, pn, hF3, hM3, hF5]
      exact no _ kp5 (.inr (.inr (.inr (.inl (by omega)))))
    by_cases pm : c.p.tmod n = 0
    rotate_left
    · simp only [go_sem, reduceCtorEq, reduceIte, Nat.reduceEqDiff, ew, hi]
      refine callK_same (kB _ _ _) ?_
      simp only [go_sem, Nat.reduceEqDiff, hbt]
      refine callK_same kK ?_
      simp only [go_sem, reduceCtorEq, reduceIte, Nat.reduceEqDiff, hks, hM5]
      refine callK_same kS ?_
      simp only [go_sem, reduceCtorEq, reduceIte, Nat.reduceEqDiff, hM5, hi, p0', hi0, hil', hb', blk_upd_known, Option.isSome_some, d1, Int.toNat_natCast, pz, ew4, pn, hF3, hM3, hF5, en, pm]
      exact no _ kp5 (.inr (.inr (.inl pm)))
    have pall : 0 ≤ c.p ∧ c.p.tmod n = 0 ∧ c.p ≤ z - n := ⟨p0, pm, by omega⟩
    simp only [go_sem, reduceCtorEq, reduceIte, Nat.reduceEqDiff, ew, hi]
    refine callK_same (kB _ _ _) ?_
    simp only [go_sem, Nat.reduceEqDiff, hbt]
    refine callK_same kK ?_
    simp only [go_sem, reduceCtorEq, reduceIte, Nat.reduceEqDiff, hks, hM5]
    refine callK_same kS ?_
    simp only [go_sem, reduceCtorEq, reduceIte, Nat.reduceEqDiff, Nat.reduceAdd, hM5, hi, p0', hi0, hil', hb', blk_upd_known, Option.isSome_some, d1, Int.toNat_natCast, pz, ew4, pn, hF3, hM3, hF5, en, pm, e0, e11]
    refine callK_same kA ?_
    cases v3 : absB c.k c.v c.l
    · simp only [go_sem, reduceCtorEq, reduceIte, Nat.reduceEqDiff]
      exact go _ pall (by rw [hcB, v3]; simp)
    simp only [go_sem, reduceCtorEq, Nat.reduceEqDiff, Nat.reduceAdd]
    refine callK_same (kT (abs_ptrs v3)) ?_
    simp only [go_sem, reduceIte, Nat.reduceEqDiff]
    exact go _ pall (by rw [hcB, v3, hks]; simp)
def pagI (p : Pg) (e : En) (F : Fz) (M1 : Hp) (i : Nat) (σ : Env) (F' : Fz) (M' : Hp) : Prop :=
  F = F' ∧ M1 = M' ∧ Ax.look σ 6 = some (.int .i64 i) ∧ cellsUp p.ptr (sizesL p) e.pe.cells i = true
def pagN (e : En) (F : Fz) (M1 : Hp) (i : Nat) (σ : Env) (F' : Fz) (M' : Hp) : Prop :=
  F = F' ∧ M1 = M' ∧ Ax.look σ 7 = some (.int .i64 i) ∧ (e.news.take i).all inB = true
theorem k10 (p : Pg) (e : En) (hp : p.rd F) (hold : Old F M) (hc : progC p = true) (h : e.rd F M) : CallsA Tryz.prog 10 [p.val, e.val] F M (Same F M (.bool (envB p e.pe))) := by
  refine callsA_of hm Tryz.func10 e10 (Nat.le_of_ble_eq_true rfl) ?_
  have hfew := hp.few
  have hl1 := h.cells.1
  have hl2 := h.news.1
  have hpre := progC_pre hc
  have hsl := sizes_len p
  simp only [c10, go_sem]
  intro r2 hF2 hM2
  simp only [go_sem, reduceCtorEq, Nat.reduceEqDiff]
  intro r3 hF3 hM3
  simp only [upd_none2] at hM3
  have old3 : Old F ((M.upd r2 ⟨p.cs, 28, 7⟩).upd r3 ⟨e.cs, 38, 3⟩) := (by repeat' first | assumption | (refine Old.upd ?_ (by assumption)))
  have f2 : ((M.upd r2 ⟨p.cs, 28, 7⟩).upd r3 ⟨e.cs, 38, 3⟩) r2 = some ⟨p.cs, 28, 7⟩ := by rw [Hp.upd_ne' hM3.1.2]; exact Hp.upd_same _ _ _
  have f3 : ((M.upd r2 ⟨p.cs, 28, 7⟩).upd r3 ⟨e.cs, 38, 3⟩) r3 = some ⟨e.cs, 38, 3⟩ := Hp.upd_same _ _ _
  have kp3 : Keep M ((M.upd r2 ⟨p.cs, 28, 7⟩).upd r3 ⟨e.cs, 38, 3⟩) := (by repeat' first | exact Keep.refl _ | (refine Keep.new ?_ (by simp only [*])))
  generalize (M.upd r2 ⟨p.cs, 28, 7⟩).upd r3 ⟨e.cs, 38, 3⟩ = M1 at *
  have h1 := h.keep kp3 old3
  have b2 := blk_M (F := F) f2
  have b3 := blk_M (F := F) f3
  clear hM2 hM3 hF2 hF3
  have no : ∀ v : Bool, envB p e.pe = v → ∀ M', Keep M1 M' → endK F M' (Same F M (.bool (envB p e.pe))) (.bool v) := fun v h M' k => endK_keep (kp3.trans k) ⟨by rw [h], rfl, rfl⟩
  have hlen : e.pe.cells.length = e.cells.length := by simp [En.pe]
  have z1 : ((e.cells.length : Int) = 0) = (e.cells.length = 0) := by apply propext; omega
  have z2 : ((e.news.length : Int) = 0) = (e.news.length = 0) := by apply propext; omega
  by_cases hno : e.no = true
  · have hR : envB p e.pe = (decide (e.cells.length = 0) && decide (e.news.length = 0)) := by
      have : e.pe.no = true := hno
      unfold envB
      rw [if_pos this, hlen]; rfl
    by_cases h0 : (e.cells.length : Int) = 0
    · by_cases h1 : (e.news.length : Int) = 0
      · simp only [go_sem, reduceIte, Nat.reduceEqDiff, b3, hno, h0, h1]
        exact no _ (by rw [z1] at h0; rw [z2] at h1; rw [hR]; simp [h0, h1]) _ (Keep.refl _)
      · simp only [go_sem, reduceIte, Nat.reduceEqDiff, b3, hno, h0, h1]
        exact no _ (by rw [z2] at h1; rw [hR]; simp [h1]) _ (Keep.refl _)
    · simp only [go_sem, reduceCtorEq, reduceIte, Nat.reduceEqDiff, b3, hno, h0]
      exact no _ (by rw [z1] at h0; rw [hR]; simp [h0]) _ (Keep.refl _)
  clear z1 z2
  have hno' : e.no = false := by simpa using hno
  have hR : envB p e.pe = (decide (e.cells.length ≤ 200) && decide (e.news.length = p.news.length) && e.news.all inB && cellsUp p.ptr (sizesL p) e.pe.cells e.cells.length) := by
    have : ¬ e.pe.no = true := hno
    unfold envB
    rw [if_neg this, hlen]; rfl
  by_cases h200 : (200 : Int) < e.cells.length
  · have : ¬ e.cells.length ≤ 200 := by omega
    simp only [go_sem, reduceIte, Nat.reduceEqDiff, b3, hno', h200]
    exact no _ (by rw [hR]; simp [this]) _ (Keep.refl _)
  have h200' : e.cells.length ≤ 200 := by omega
  by_cases hnn : (e.news.length : Int) = p.news.length
  rotate_left
  · have : ¬ e.news.length = p.news.length := by omega
    simp only [go_sem, reduceCtorEq, reduceIte, Nat.reduceEqDiff, b2, b3, hno', h200, hnn]
    exact no _ (by rw [hR]; simp [this]) _ (Keep.refl _)
  have hnn' : e.news.length = p.news.length := by omega
  rw [decide_eq_true h200', decide_eq_true hnn'] at hR
  simp only [go_sem, reduceCtorEq, reduceIte, Nat.reduceEqDiff, b2, b3, hno', h200, hnn]
  refine callK_of (k30 F M1 p hp old3) ?_
  rintro u G M2 hq
  obtain ⟨hG, le, kq, oq, aq, cq, rfl, rdq⟩ := hq.le intC_len (by omega)
  rw [hG]
  refine ⟨(fun h => by cases h), ?_⟩
  have old2 := oq old3
  have h2 := h1.keep kq old2
  have b2' := blk_M (F := F) (kq _ _ f2)
  have b3' := blk_M (F := F) (kq _ _ f3)
  clear le oq hq hG h1 old3
  simp only [go_sem]
  refine loop_up e.cells.length (pagI p e F M2) ⟨rfl, rfl, (by simp only [go_sem, *] <;> rfl), rfl⟩ ?_
  rintro i σ F' M3 hi hs ⟨rfl, rfl, q6, he⟩
  have q2 := hs 2 rfl
  have q3 := hs 3 rfl
  have q5 := hs 5 rfl
  simp only [go_sem, Nat.reduceEqDiff] at q2 q3 q5
  clear hs
  by_cases hil : (i : Int) < e.cells.length
  · have hi0 : (0 : Int) ≤ i := by omega
    have hi1 : i < e.cells.length := by omega
    have ei : IntKind.i64.wrap ((i : Int) + 1) = i + 1 := w64 (by omega) (by omega)
    obtain ⟨b, o, cs, ea, hb, rows⟩ := h2.cells.rows (by omega)
    obtain ⟨d1, d2⟩ := rows i hi1
    have hci : e.cells[i].rd F M2 := h2.ptrs _ (List.getElem_mem hi1)
    have hup : upAt p.ptr (sizesL p) e.pe.cells i = (cellB p.ptr (sizesL p) e.cells[i].pc && (decide (i = 0) || prevOk e.pe.cells i e.cells[i].pc)) := by
      have : e.pe.cells[i]? = some e.cells[i].pc := by simp [En.pe, List.getElem?_eq_getElem hi1]
      exact upAt_get this
    have hno2 : upAt p.ptr (sizesL p) e.pe.cells i = false → envB p e.pe = false := fun h => by rw [hR, cellsUp_no hi1 h]; simp
    have hpr : ∀ hi2 : 0 < i, ∃ y : Cl, (cs.drop (o + (i - 1) * 10)).take 10 = y.cs ∧ o + (i - 1) * 10 + 10 ≤ cs.length ∧ prevOk e.pe.cells i e.cells[i].pc = beforeB y.pc e.cells[i].pc := fun hi2 => by
      have hi3 : i - 1 < e.cells.length := by omega
      obtain ⟨d3, d4⟩ := rows (i - 1) hi3
      exact ⟨e.cells[i - 1], d4, d3, prevOk_get (by simp [En.pe, List.getElem?_eq_getElem hi3])⟩
    clear rows
    generalize e.cells[i] = x at *
    have no3 : upAt p.ptr (sizesL p) e.pe.cells i = false → endK F M2 (Same F M (.bool (envB p e.pe))) (.bool false) := fun h => no _ (hno2 h) _ kq
    have yes : upAt p.ptr (sizesL p) e.pe.cells i = true → ∀ σ', Ax.look σ' 6 = some (.int .i64 ((i + 1 : Nat) : Int)) → Nxt (pagI p e F M2) e.cells.length i σ' F M2 :=
      fun h σ' e39 => ⟨hi1, rfl, rfl, e39, by rw [cellsUp_succ, he, h]; rfl⟩
    rw [hup] at no3 yes
    clear hup hno2 he hR no
    simp only [go_sem, reduceIte, Nat.reduceEqDiff, q2, q3, q5, q6, hil, hi0, b2', b3', ea, Int.toNat_natCast, hb, d1, d2]
    refine callK_same (k34 F _ p _ _ _ x rdq (sizes_in hc) hpre.1 hci) ?_
    cases hcb : cellB p.ptr (sizesL p) x.pc
    · simp only [go_sem, reduceIte, Nat.reduceEqDiff]
      exact no3 (by rw [hcb]; rfl)
    rw [hcb, Bool.true_and] at no3 yes
    by_cases hz : (0 : Int) < i
    rotate_left
    · have hz' : i = 0 := by omega
      simp only [go_sem, reduceCtorEq, reduceIte, Nat.reduceEqDiff, q6, hz, ei]
      exact yes (by rw [hz']; rfl) _ (by simp only [go_sem, Nat.reduceMul, Int.reduceAdd, *] <;> rfl)
    have hz' : 0 < i := by omega
    have hz0 : ¬ i = 0 := by omega
    obtain ⟨y, d3, d4, hy⟩ := hpr hz'
    rw [hy, decide_eq_false hz0, Bool.false_or] at no3 yes
    have ej : IntKind.i64.wrap ((i : Int) - 1) = ((i - 1 : Nat) : Int) := by rw [w64 (by omega) (by omega)]; omega
    have hj0 : (0 : Int) ≤ ((i - 1 : Nat) : Int) := by omega
    have hjl : ((i - 1 : Nat) : Int) < e.cells.length := by omega
    simp only [go_sem, reduceIte, Nat.reduceEqDiff, q3, q6, hz, b3', ej, hj0, hjl, hi0, hil, ea, Int.toNat_natCast, hb, d1, d2, d3, d4]
    refine callK_same (k35 F M2 y x) ?_
    cases hbf : beforeB y.pc x.pc
    · simp only [go_sem, reduceCtorEq, reduceIte, Nat.reduceEqDiff]
      exact no3 hbf
    · simp only [go_sem, reduceCtorEq, reduceIte, Nat.reduceEqDiff, q6, ei]
      exact yes hbf _ (by simp only [go_sem, *] <;> rfl)
  have hx : i = e.cells.length := by omega
  rw [hx] at he
  rw [he, Bool.and_true, Bool.true_and, Bool.true_and] at hR
  simp only [go_sem, reduceIte, Nat.reduceEqDiff, q3, q6, hil, b3']
  refine loop_up e.news.length (pagN e F M2) ⟨rfl, rfl, (by simp only [go_sem, *] <;> rfl), rfl⟩ ?_
  rintro k σ3 F' M3 hk hs ⟨rfl, rfl, q7, he3⟩
  have t3 := hs 3 rfl
  simp only [go_sem, Nat.reduceEqDiff, q3] at t3
  clear hs
  by_cases hkl : (k : Int) < e.news.length
  · have hk0 : (0 : Int) ≤ k := by omega
    have hk1 : k < e.news.length := by omega
    have ek : IntKind.i64.wrap ((k : Int) + 1) = k + 1 := w64 (by omega) (by omega)
    obtain ⟨b4, o4, cs4, ea4, hb4, e1⟩ := Ax.int_at h2.news hk1
    have t1 := List.take_succ_eq_append_getElem hk1
    have hbad : inB e.news[k] = false → envB p e.pe = false := fun h => by
      rw [hR, List.all_eq_false]; exact ⟨_, List.getElem_mem hk1, by simp [h]⟩
    generalize e.news[k] = y at *
    simp only [go_sem, reduceIte, Nat.reduceEqDiff, t3, q7, hkl, hk0, b3', ea4, Int.toNat_natCast, hb4, e1]
    refine callK_same (k33 F M2 y 1 15) ?_
    cases hy : inB y
    · have hy' : (decide (1 ≤ y) && decide (y ≤ 15)) = false := hy
      simp only [go_sem, hy']
      exact no _ (hbad hy) _ kq
    · have hy' : (decide (1 ≤ y) && decide (y ≤ 15)) = true := hy
      simp only [go_sem, reduceIte, Nat.reduceEqDiff, hy', q7, ek]
      exact ⟨hk1, rfl, rfl, (by simp only [go_sem, *] <;> rfl), by rw [t1, List.all_append, he3]; simp [hy]⟩
  have hall : e.news.all inB = true := by rw [List.take_of_length_le (by omega)] at he3; exact he3
  simp only [go_sem, reduceIte, Nat.reduceEqDiff, t3, q7, hkl, b3']
  exact no _ (by rw [hR, hall]) _ kq
end Go.Proofs.Tryz.K
namespace Go.Ax
open Go
set_option linter.unusedVariables false
set_option linter.unusedSimpArgs false
theorem flatG_set {α : Type} {sz : Nat} {f : α → List Value} (hf : ∀ x, (f x).length = sz) (x : α) : ∀ (l : List α) (i : Nat), i < l.length → (l.flatMap f).take (i * sz) ++ f x ++ (l.flatMap f).drop (i * sz + sz) = (l.set i x).flatMap f
  | [], i, hi => by simp at hi
  | y :: l, 0, hi => by
    have := hf y
    simp [this]
  | y :: l, i + 1, hi => by
    have ih := flatG_set hf x l i (by simpa using hi)
    have hy := hf y
    have e1 : (i + 1) * sz = sz + i * sz := by rw [Nat.succ_mul]; omega
    rw [List.set_cons_succ, List.flatMap_cons, List.flatMap_cons, e1]
    rw [List.take_append, List.drop_append, hy]
    have t1 : List.take (sz + i * sz) (f y) = f y := List.take_of_length_le (by omega)
    have t2 : List.drop (sz + i * sz + sz) (f y) = [] := List.drop_eq_nil_of_le (by omega)
    have t3 : sz + i * sz - sz = i * sz := by omega
    have t4 : sz + i * sz + sz - sz = i * sz + sz := by omega
    rw [t1, t2, t3, t4, List.nil_append, ← ih]
    simp only [List.append_assoc]
theorem flatG_rep {α : Type} {f : α → List Value} (x : α) (n : Nat) : (List.replicate n (f x)).flatten = (List.replicate n x).flatMap f := by
  induction n with
  | zero => rfl
  | succ n ih => rw [List.replicate_succ, List.flatten_cons, ih, List.replicate_succ, List.flatMap_cons]
def wantB (b o : Int) (i : Nat) : By := if 0 < b then ⟨2, 0, b, o, i⟩ else ⟨1, 0, 0, 0, 0⟩
def ptrL (b o : Int) (n : Nat) : List By := (List.range n).map (wantB b o)
def byAt (l : List By) (i : Nat) : By := (l[i]?).getD ⟨0, 0, 0, 0, 0⟩
def pointerV (l : List By) : Sc × Int := if l = ptrL (byAt l 0).b (byAt l 0).o l.length then (⟨true, 0, (byAt l 0).b, (byAt l 0).o⟩, 0) else (⟨false, 0, 0, 0⟩, 8)
def ordL (big : Bool) (l : List By) : List By := if big = true then l else l.reverse
def numL (l : List By) : Int := l.foldl (fun n b => bor .i64 (shlv .i64 n 8) b.n) 0
def stIs (n : Int) (l : List By) : Bool := l.any fun b => decide (b.st = n)
def readV (big : Bool) (k : Int) (l : List By) : Sc × Int :=
  if stIs 0 l = true then (⟨false, 0, 0, 0⟩, 7) else if k = 7 then pointerV l else if stIs 2 l = true then (⟨false, 0, 0, 0⟩, 8) else (⟨false, numL (ordL big l), 0, 0⟩, 0)
def putB (big : Bool) (n : Nat) (s : Sc) (i : Nat) : By := if s.p = true then wantB s.b s.o i else ⟨1, band .i64 (shrv .i64 s.n (8 * ((if big = true then n - 1 - i else i : Nat) : Int))) 255, 0, 0, 0⟩
def putL (big : Bool) (n : Nat) (s : Sc) : List By := (List.range n).map (putB big n s)
theorem putL_len (big : Bool) (n : Nat) (s : Sc) : (putL big n s).length = n := by simp [putL]
theorem ptrL_len (b o : Int) (n : Nat) : (ptrL b o n).length = n := by simp [ptrL]
theorem ptrL_get {b o : Int} {n i : Nat} (h : i < n) : (ptrL b o n)[i]? = some (wantB b o i) := by simp [ptrL, h]
theorem putL_ptr (big : Bool) (n : Nat) (b o : Int) : putL big n ⟨true, 0, b, o⟩ = ptrL b o n := by
  unfold putL ptrL
  apply List.map_congr_left
  intro i _
  simp [putB]
theorem ptr_none {l : List By} (hb : ∀ x ∈ l, byteB x = true) (h0 : stIs 0 l = false) (h2 : stIs 2 l = false) (hl : 0 < l.length) :
    pointerV l = if l.all (fun x => decide (x.n = 0)) = true then (⟨true, 0, 0, 0⟩, 0) else (⟨false, 0, 0, 0⟩, 8) := by
  have key : ∀ x ∈ l, x.st = 1 ∧ x.b = 0 ∧ x.o = 0 ∧ x.i = 0 := fun x hx => by
    have h := hb x hx
    have a0 : ¬ x.st = 0 := fun e => by
      rw [stIs, List.any_eq_false] at h0; have := h0 x hx; simp [e] at this
    have a2 : ¬ x.st = 2 := fun e => by
      rw [stIs, List.any_eq_false] at h2; have := h2 x hx; simp [e] at this
    by_cases a1 : x.st = 1
    · simp [byteB, a1] at h; exact ⟨a1, h.1.1.2, h.1.2, h.2⟩
    · simp [byteB, a0, a1, a2] at h
  have e0 : byAt l 0 = l[0] := by unfold byAt; rw [List.getElem?_eq_getElem hl]; rfl
  obtain ⟨_, k1, k2, _⟩ := key l[0] (List.getElem_mem hl)
  unfold pointerV
  rw [e0, k1, k2]
  have hiff : l = ptrL 0 0 l.length ↔ l.all (fun x => decide (x.n = 0)) = true := by
    rw [List.all_eq_true]
    constructor
    · intro h x hx
      rw [h] at hx
      simp only [ptrL, List.mem_map] at hx
      obtain ⟨i, _, rfl⟩ := hx
      simp [wantB]
    · intro h
      apply List.ext_getElem?
      intro i
      by_cases hi : i < l.length
      · rw [ptrL_get hi, List.getElem?_eq_getElem hi]
        have hm := List.getElem_mem hi
        have := h _ hm
        obtain ⟨q1, q2, q3, q4⟩ := key _ hm
        generalize l[i] = x at *
        obtain ⟨a, b, c, d, e⟩ := x
        simp at this q1 q2 q3 q4
        simp [wantB, this, q1, q2, q3, q4]
      · rw [List.getElem?_eq_none (by omega), List.getElem?_eq_none (by simp [ptrL]; omega)]
  by_cases h : l.all (fun x => decide (x.n = 0)) = true
  · rw [if_pos h, if_pos (hiff.2 h)]
  · rw [if_neg h, if_neg (fun e => h (hiff.1 e))]
theorem ptr_some {l : List By} (hb : ∀ x ∈ l, byteB x = true) (h2 : stIs 2 l = true) (hl : 0 < l.length) :
    pointerV l = if (byAt l 0).st = 2 ∧ ptrL (byAt l 0).b (byAt l 0).o l.length = l then (⟨true, 0, (byAt l 0).b, (byAt l 0).o⟩, 0) else (⟨false, 0, 0, 0⟩, 8) := by
  unfold pointerV
  by_cases he : l = ptrL (byAt l 0).b (byAt l 0).o l.length
  · rw [if_pos he]
    have : (byAt l 0).st = 2 := by
      rw [stIs, List.any_eq_true] at h2
      obtain ⟨x, hx, hs⟩ := h2
      have hs' : x.st = 2 := by simpa using hs
      rw [he] at hx
      simp only [ptrL, List.mem_map] at hx
      obtain ⟨i, _, rfl⟩ := hx
      have hpos : 0 < (byAt l 0).b := by
        unfold wantB at hs'
        split at hs'
        · assumption
        · simp at hs'
      have h0 : byAt l 0 = wantB (byAt l 0).b (byAt l 0).o 0 := by
        have := congrArg (fun m => byAt m 0) he
        simp only [byAt] at this ⊢
        rw [ptrL_get hl] at this
        exact this
      rw [h0]
      unfold wantB
      rw [if_pos hpos]
    rw [if_pos ⟨this, he.symm⟩]
  · rw [if_neg he, if_neg (fun h => he h.2.symm)]
end Go.Ax
namespace Go.Proofs.Tryz.K
open Go Go.Ax Go.Proofs.Tryz.S
set_option maxRecDepth 100000
set_option linter.unusedSimpArgs false
set_option linter.unusedVariables false
set_option maxHeartbeats 4000000
variable (F : Fz) (M : Hp)
theorem k153 (x : By) (n : Int) (r3 : Nat) (e3 : Ent) (h3 : M r3 = some e3) (c3 : e3.cells = [.int .i64 n]) : CallsA Tryz.prog 153 [x.val, .pointer (some ⟨r3, 0, none⟩)] F M (Same F M (.bool (decide (x.st = n)))) := by
  refine callsA_of hm Tryz.func153 e153 (Nat.le_of_ble_eq_true rfl) ?_
  have b3 := blk_M (F := F) h3
  rw [c3] at b3
  simp only [c153, go_sem]
  repeat' first
    | simp only [go_sem, reduceCtorEq, reduceIte, Nat.reduceEqDiff, blk_upd_known, Option.isSome_some, Nat.add_zero, *]
    | (with_reducible first | apply cD | apply cN | apply cB | apply cO | apply tD | apply fD | apply tN | apply fN | apply tB | apply fB | apply tO | apply fO) <;> intro hc
    | (intro rx hFx hMx; (try simp only [upd_none2] at hMx))
  all_goals (refine endK_keep (M := M) (by repeat' first | exact Keep.refl _ | (refine Keep.new ?_ (by simp only [*]))) ⟨?_, rfl, rfl⟩)
  all_goals rfl
theorem k137 (a : Option Addr) (c : Nat) (l : List By) (n : Int) (h : RdG 5 By.cs F M (.slice a l.length c) l) : CallsA Tryz.prog 137 [.slice a l.length c, .int .i64 n] F M (Same F M (.bool (stIs n l))) := by
  refine callsA_of hm Tryz.func137 e137 (Nat.le_of_ble_eq_true rfl) ?_
  simp only [c137, go_sem, reduceCtorEq]
  intro r3 hF3 hM3
  have h3 : RdG 5 By.cs F (M.upd r3 ⟨[.int .i64 n], 3, 1⟩) (.slice a l.length c) l := RdG.new h hF3 hM3
  have kc := k135 F _ a c l _ [.pointer (some ⟨r3, 0, none⟩)] (fun x => decide (x.st = n)) h3 (fun v _ => k153 F _ v n r3 _ (Hp.upd_same _ _ _) rfl)
  clear h3 h
  repeat' first
    | simp only [go_sem, reduceCtorEq, Nat.reduceEqDiff, *]
    | (with_reducible first | apply cD | apply cN | apply cB | apply cO | apply tD | apply fD | apply tN | apply fN | apply tB | apply fB | apply tO | apply fO) <;> intro hc
    | (intro rx hFx hMx; (try simp only [upd_none2] at hMx))
    | with_reducible refine callK_same kc ?_
  all_goals (refine endK_keep (M := M) (by repeat' first | exact Keep.refl _ | (refine Keep.new ?_ (by simp only [*]))) ⟨?_, rfl, rfl⟩)
  rfl
def ptrI (l : List By) (r2 r4 : Nat) (F0 : Fz) (M0 : Hp) (i : Nat) (σ : Env) (F : Fz) (M : Hp) : Prop :=
  F0 = F ∧ Keep M0 M ∧ Old F0 M ∧ M0 r2 = none ∧ M r2 = some ⟨(Sc.mk false 0 0 0).cs, 119, 4⟩ ∧ M r4 = some ⟨(Sc.mk true 0 (byAt l 0).b (byAt l 0).o).cs, 119, 4⟩ ∧ Ax.look σ 19 = some (.int .i64 i) ∧ l.take i = (ptrL (byAt l 0).b (byAt l 0).o l.length).take i
theorem k138 (a : Option Addr) (c : Nat) (l : List By) (hold : Old F M) (h : RdG 5 By.cs F M (.slice a l.length c) l) (hl : 0 < l.length) :
    CallsA Tryz.prog 138 [.slice a l.length c] F M (Same F M (.tuple #[(pointerV l).1.val, .int .i64 (pointerV l).2])) := by
  refine callsA_of hm Tryz.func138 e138 (Nat.le_of_ble_eq_true rfl) ?_
  have hle := h.1
  obtain ⟨b, o, cs, rfl, hb, rows⟩ := h.rows hl
  obtain ⟨d1, d2⟩ := rows 0 hl
  have d3 := Go.Ax.By.row d2
  rw [Nat.zero_mul, Nat.add_zero] at d3
  obtain ⟨_, _, d4, d5, _⟩ := d3
  have e0 : byAt l 0 = l[0] := by unfold byAt; rw [List.getElem?_eq_getElem hl]; rfl
  rw [← e0] at d4 d5
  have hl0 : (0 : Int) < l.length := by omega
  have t0 : Int.toNat 0 = 0 := rfl
  simp only [c138, go_sem, Nat.reduceAdd]
  intro r2 hF2 hM2
  have nb2 := ne_of_blk hb hF2 hM2
  simp only [go_sem, reduceCtorEq, reduceIte, Nat.reduceEqDiff, Nat.reduceAdd, Nat.reduceLeDiff, Int.reduceLE, nb2, hb, hl0, t0, d4, d5, Nat.zero_mul, Nat.add_zero]
  intro r4 hF4 hM4
  simp only [upd_none2] at hM4
  simp only [setH, Hp.upd_upd, go_sem, reduceCtorEq, Nat.reduceEqDiff, Nat.reduceAdd]
  refine loop_up l.length (ptrI l r2 r4 F M) ⟨rfl, (by repeat' first | exact Keep.refl _ | (refine Keep.new ?_ (by simp only [*]))), (by repeat' first | assumption | (refine Old.upd ?_ (by assumption))), hM2, by rw [Hp.upd_ne' hM4.1.2]; exact Hp.upd_same _ _ _, Hp.upd_same _ _ _, (by simp only [go_sem, *] <;> rfl), rfl⟩ ?_
  clear nb2 hF2 hM2 hF4 hM4
  rintro i σ F' M1 hi hs ⟨rfl, kp, old, hM2, f2, f4, q19, he⟩
  have q2 := hs 2 rfl
  have q4 := hs 4 rfl
  have q17 := hs 17 rfl
  have q18 := hs 18 rfl
  simp only [go_sem, Nat.reduceEqDiff] at q2 q4 q17 q18
  clear hs
  have b2 := blk_M (F := F) f2
  have b4 := blk_M (F := F) f4
  have fin : ∀ M3, Keep M1 M3 → ∀ x, endK F (M3.upd r2 x) (Same F M (.tuple #[(pointerV l).1.val, .int .i64 (pointerV l).2])) (.tuple #[(pointerV l).1.val, .int .i64 (pointerV l).2]) := fun M3 k x => endK_keep ((kp.trans k).new hM2) ⟨rfl, rfl, rfl⟩
  by_cases hil : (i : Int) < l.length
  rotate_left
  · have hlp : l = ptrL (byAt l 0).b (byAt l 0).o l.length := by
      rw [List.take_of_length_le (by omega), List.take_of_length_le (by rw [ptrL_len]; omega)] at he
      exact he
    have hv : pointerV l = (⟨true, 0, (byAt l 0).b, (byAt l 0).o⟩, 0) := by unfold pointerV; rw [if_pos hlp]
    have ff := fin M1 (Keep.refl _)
    rw [hv] at ff ⊢
    simp only [setH, go_sem, reduceIte, Nat.reduceEqDiff, q2, q4, q18, q19, hil, b4, f2]
    exact ff _
  have hi0 : (0 : Int) ≤ i := by omega
  have hi1 : i < l.length := by omega
  have ei : IntKind.i64.wrap ((i : Int) + 1) = i + 1 := w64 (by omega) (by omega)
  have hb1 := blk_keep hb kp old
  obtain ⟨g1, g2⟩ := rows i hi1
  have t1 := List.take_succ_eq_append_getElem hi1
  have t2 : (ptrL (byAt l 0).b (byAt l 0).o l.length).take (i + 1) = (ptrL (byAt l 0).b (byAt l 0).o l.length).take i ++ [wantB (byAt l 0).b (byAt l 0).o i] := by
    rw [List.take_add_one, ptrL_get hi1]; rfl
  have hne : ¬ l[i] = wantB (byAt l 0).b (byAt l 0).o i → pointerV l = (⟨false, 0, 0, 0⟩, 8) := fun h => by
    unfold pointerV
    rw [if_neg]
    intro e
    have := congrArg (fun m => m[i]?) e
    simp only [ptrL_get hi1, List.getElem?_eq_getElem hi1, Option.some.injEq] at this
    exact h this
  clear rows
  generalize l[i] = x at *
  simp only [go_sem, reduceIte, Nat.reduceEqDiff, Nat.reduceAdd, q17, q18, q19, hil, hi0, Int.toNat_natCast, hb1, g1, g2]
  intro r6 hF6 hM6
  have m2 := ne_of_none hM6 f2
  have m4 := ne_of_none hM6 f4
  simp only [setH, Hp.upd_upd, go_sem, reduceIte, Nat.reduceEqDiff, Nat.reduceAdd, Nat.reduceLeDiff]
  intro r7 hF7 hM7
  simp only [upd_none2] at hM7
  have p2 := ne_of_none hM7.2 f2
  have p4 := ne_of_none hM7.2 f4
  have kp7 : ∀ e e', Keep M1 ((M1.upd r6 e).upd r7 e') := fun e e' => (by repeat' first | exact Keep.refl _ | (refine Keep.new ?_ (by simp only [*])))
  have old7 : ∀ e e', Old F ((M1.upd r6 e).upd r7 e') := fun e e' => (by repeat' first | assumption | (refine Old.upd ?_ (by assumption)))
  have next : x = wantB (byAt l 0).b (byAt l 0).o i → ∀ e e' σ', Ax.look σ' 19 = some (.int .i64 ((i + 1 : Nat) : Int)) → Nxt (ptrI l r2 r4 F M) l.length i σ' F ((M1.upd r6 e).upd r7 e') := fun hx e e' σ' h =>
    ⟨hi1, rfl, kp.trans (kp7 _ _), old7 _ _, hM2, kp7 _ _ _ _ f2, kp7 _ _ _ _ f4, h, by rw [t1, t2, he, hx]⟩
  have stop : ¬ x = wantB (byAt l 0).b (byAt l 0).o i → ∀ e e', endK F (((M1.upd r6 e).upd r7 e').upd r2 ⟨(Sc.mk false 0 0 0).cs, 119, 4⟩) (Same F M (.tuple #[(pointerV l).1.val, .int .i64 (pointerV l).2])) (.tuple #[(Sc.mk false 0 0 0).val, .int .i64 8]) := fun hx e e' => by
    have ff := fin _ (kp7 e e') ⟨(Sc.mk false 0 0 0).cs, 119, 4⟩
    rw [hne hx] at ff ⊢
    exact ff
  clear fin hne t1 t2 he
  by_cases hbp : 0 < (byAt l 0).b
  · have ew : wantB (byAt l 0).b (byAt l 0).o i = ⟨2, 0, (byAt l 0).b, (byAt l 0).o, i⟩ := by unfold wantB; rw [if_pos hbp]
    rw [ew] at next stop
    by_cases hx : x = ⟨2, 0, (byAt l 0).b, (byAt l 0).o, i⟩
    · simp only [setH, Hp.upd_upd, go_sem, reduceIte, Nat.reduceEqDiff, Nat.reduceAdd, Nat.reduceLeDiff, q4, q19, m4, p4, hM7, b4, hbp, By.fold, hx, ei]
      exact next hx _ _ _ (by simp only [go_sem, *] <;> rfl)
    · simp only [setH, Hp.upd_upd, go_sem, reduceIte, Nat.reduceEqDiff, Nat.reduceAdd, Nat.reduceLeDiff, q2, q4, m2, m4, p2, p4, hM7, b4, f2, hbp, By.fold, hx]
      exact stop hx _ _
  · have ew : wantB (byAt l 0).b (byAt l 0).o i = ⟨1, 0, 0, 0, 0⟩ := by unfold wantB; rw [if_neg hbp]
    rw [ew] at next stop
    by_cases hx : x = ⟨1, 0, 0, 0, 0⟩
    · simp only [setH, Hp.upd_upd, go_sem, reduceIte, Nat.reduceEqDiff, Nat.reduceAdd, q4, q19, m4, p4, hM7, b4, hbp, By.fold, hx, ei]
      exact next hx _ _ _ (by simp only [go_sem, *] <;> rfl)
    · simp only [setH, Hp.upd_upd, go_sem, reduceIte, Nat.reduceEqDiff, Nat.reduceAdd, q2, q4, m2, m4, p2, p4, hM7, b4, f2, hbp, By.fold, hx]
      exact stop hx _ _
theorem ordL_len (big : Bool) (l : List By) : (ordL big l).length = l.length := by unfold ordL; split <;> simp
theorem numL_succ {l : List By} {i : Nat} (h : i < l.length) : numL (l.take (i + 1)) = bor .i64 (shlv .i64 (numL (l.take i)) 8) (l[i]).n := by
  rw [List.take_succ_eq_append_getElem h]
  unfold numL
  rw [List.foldl_append]; rfl
def readI (big : Bool) (l : List By) (r6 : Nat) (F0 : Fz) (M0 : Hp) (i : Nat) (σ : Env) (F : Fz) (M : Hp) : Prop :=
  F0 = F ∧ Keep M0 M ∧ Old F0 M ∧ Ax.look σ 28 = some (.int .i64 i) ∧ Ax.look σ 8 = some (.int .i64 (numL ((ordL big l).take i)))
theorem k108 (big : Bool) (ptr k : Int) (a : Option Addr) (c : Nat) (l : List By) (hold : Old F M) (h : RdG 5 By.cs F M (.slice a l.length c) l) (hl : 0 < l.length) :
    CallsA Tryz.prog 108 [.agg #[.bool big, .int .i64 ptr], .int .i64 k, .slice a l.length c] F M (Same F M (.tuple #[(readV big k l).1.val, .int .i64 (readV big k l).2])) := by
  refine callsA_of hm Tryz.func108 e108 (Nat.le_of_ble_eq_true rfl) ?_
  have hle := h.1
  simp only [c108, go_sem, Nat.reduceAdd]
  intro r3 hF3 hM3
  simp only [go_sem, Nat.reduceAdd]
  intro r6 hF6 hM6
  simp only [upd_none2] at hM6
  have kp6 : Keep M ((M.upd r3 ⟨[.bool big, .int .i64 ptr], 23, 2⟩).upd r6 ⟨[.bool false, .int .i64 0, .int .i64 0, .int .i64 0], 119, 4⟩) := (by repeat' first | exact Keep.refl _ | (refine Keep.new ?_ (by simp only [*])))
  have old6 : Old F ((M.upd r3 ⟨[.bool big, .int .i64 ptr], 23, 2⟩).upd r6 ⟨[.bool false, .int .i64 0, .int .i64 0, .int .i64 0], 119, 4⟩) := (by repeat' first | assumption | (refine Old.upd ?_ (by assumption)))
  have f3 : ((M.upd r3 ⟨[.bool big, .int .i64 ptr], 23, 2⟩).upd r6 ⟨[.bool false, .int .i64 0, .int .i64 0, .int .i64 0], 119, 4⟩) r3 = some ⟨[.bool big, .int .i64 ptr], 23, 2⟩ := by rw [Hp.upd_ne' hM6.1.2]; exact Hp.upd_same _ _ _
  have f6 : ((M.upd r3 ⟨[.bool big, .int .i64 ptr], 23, 2⟩).upd r6 ⟨[.bool false, .int .i64 0, .int .i64 0, .int .i64 0], 119, 4⟩) r6 = some ⟨[.bool false, .int .i64 0, .int .i64 0, .int .i64 0], 119, 4⟩ := Hp.upd_same _ _ _
  have n6 : M r6 = none := hM6.2
  generalize (M.upd r3 ⟨[.bool big, .int .i64 ptr], 23, 2⟩).upd r6 ⟨[.bool false, .int .i64 0, .int .i64 0, .int .i64 0], 119, 4⟩ = M1 at *
  have h1 := h.keep kp6 old6
  have b3 := blk_M (F := F) f3
  have b6 := blk_M (F := F) f6
  clear hF3 hM3 hF6 hM6
  have fin : ∀ s bad, readV big k l = (s, bad) → ∀ M3, Keep M1 M3 → ∀ x, endK F (M3.upd r6 x) (Same F M (.tuple #[(readV big k l).1.val, .int .i64 (readV big k l).2])) (.tuple #[s.val, .int .i64 bad]) := fun s bad e M3 k x => endK_keep ((kp6.trans k).new n6) ⟨by rw [e], rfl, rfl⟩
  simp only [go_sem, reduceCtorEq, Nat.reduceEqDiff]
  refine callK_same (k137 F M1 a c l 0 h1) ?_
  cases s0 : stIs 0 l
  rotate_left
  · have hv : readV big k l = (⟨false, 0, 0, 0⟩, 7) := by unfold readV; rw [if_pos s0]
    simp only [setH, go_sem, reduceIte, Nat.reduceEqDiff, Nat.reduceAdd, f6]
    exact fin _ _ hv M1 (Keep.refl _) _
  by_cases h7 : k = 7
  · have hv : readV big k l = ((pointerV l).1, (pointerV l).2) := by unfold readV; rw [if_neg (by simp [s0]), if_pos h7]
    simp only [go_sem, reduceCtorEq, reduceIte, Nat.reduceEqDiff, h7]
    refine callK_same (k138 F M1 a c l old6 h1 hl) ?_
    simp only [setH, go_sem, reduceIte, Nat.reduceEqDiff, Nat.reduceAdd, f6]
    rw [h7] at hv fin
    exact fin _ _ hv M1 (Keep.refl _) _
  simp only [go_sem, reduceCtorEq, reduceIte, Nat.reduceEqDiff, h7]
  refine callK_same (k137 F M1 a c l 2 h1) ?_
  cases s2 : stIs 2 l
  rotate_left
  · have hv : readV big k l = (⟨false, 0, 0, 0⟩, 8) := by unfold readV; rw [if_neg (by simp [s0]), if_neg h7, if_pos s2]
    simp only [setH, go_sem, reduceIte, Nat.reduceEqDiff, Nat.reduceAdd, f6]
    exact fin _ _ hv M1 (Keep.refl _) _
  have hv : readV big k l = (⟨false, numL (ordL big l), 0, 0⟩, 0) := by unfold readV; rw [if_neg (by simp [s0]), if_neg h7, if_neg (by simp [s2])]
  simp only [go_sem, reduceCtorEq, Nat.reduceEqDiff]
  refine loop_up l.length (readI big l r6 F M1) ⟨rfl, Keep.refl _, old6, (by simp only [go_sem, *] <;> rfl), by simp only [go_sem, Nat.reduceEqDiff]; rfl⟩ ?_
  rintro i σ F' M2 hi hs ⟨rfl, kp, old, q28, q8⟩
  have q2 := hs 2 rfl
  have q3 := hs 3 rfl
  have q6 := hs 6 rfl
  have q27 := hs 27 rfl
  simp only [go_sem, reduceCtorEq, Nat.reduceEqDiff] at q2 q3 q6 q27
  clear hs
  have b3' := blk_M (F := F) (kp _ _ f3)
  have g6 := kp _ _ f6
  have b6' := blk_M (F := F) g6
  by_cases hil : (i : Int) < l.length
  rotate_left
  · have hx : i = l.length := by omega
    rw [List.take_of_length_le (by rw [ordL_len]; omega)] at q8
    simp only [setH, go_sem, reduceIte, Nat.reduceEqDiff, Nat.reduceAdd, Nat.reduceLeDiff, q6, q27, q28, q8, hil, g6, Sc.fold]
    exact fin _ _ hv M2 kp _
  have hi0 : (0 : Int) ≤ i := by omega
  have hi1 : i < l.length := by omega
  have ei : IntKind.i64.wrap ((i : Int) + 1) = i + 1 := w64 (by omega) (by omega)
  have ew1 : IntKind.i64.wrap ((l.length : Int) - 1) = l.length - 1 := w64 (by omega) (by omega)
  have ew2 : IntKind.i64.wrap ((l.length : Int) - 1 - i) = ((l.length - 1 - i : Nat) : Int) := by rw [w64 (by omega) (by omega)]; omega
  have hj : l.length - 1 - i < l.length := by omega
  have hj0 : (0 : Int) ≤ ((l.length - 1 - i : Nat) : Int) := by omega
  have hjl : ((l.length - 1 - i : Nat) : Int) < l.length := by omega
  obtain ⟨b, o, cs, rfl, hb, rows⟩ := (h1.keep kp old).rows hl
  obtain ⟨d1, d2⟩ := rows i hi1
  obtain ⟨d3, d4⟩ := rows (l.length - 1 - i) hj
  have hsucc := numL_succ (l := ordL big l) (i := i) (by rw [ordL_len]; exact hi1)
  have hsel : ((ordL big l)[i]'(by rw [ordL_len]; exact hi1)) = if big = true then l[i] else l[l.length - 1 - i] := by
    cases big
    · simp [ordL, List.getElem_reverse]
    · simp [ordL]
  rw [hsel] at hsucc
  clear hsel rows
  generalize l[i] = x at *
  generalize l[l.length - 1 - i] = y at *
  simp only [go_sem, reduceIte, Nat.reduceEqDiff, Nat.reduceAdd, q2, q27, q28, hil, ew1, ew2, hj0, hjl, Int.toNat_natCast, hb, d3, d4]
  intro r10 hF10 hM10
  have m3 := ne_of_none hM10 (kp _ _ f3)
  have m6 := ne_of_none hM10 g6
  have mb := ne_of_blk hb hF10 hM10
  have kp10 : ∀ e, Keep M2 (M2.upd r10 e) := fun e => (Keep.refl M2).new hM10
  cases big
  · simp only [setH, Hp.upd_upd, go_sem, reduceIte, Nat.reduceEqDiff, Nat.reduceAdd, Int.reduceLT, q3, q28, q8, m3, b3', ei]
    exact ⟨hi1, rfl, kp.trans (kp10 _), old.upd hF10, (by simp only [go_sem, *] <;> rfl), by simp only [go_sem, Nat.reduceEqDiff]; rw [hsucc]; rfl⟩
  · simp only [setH, Hp.upd_upd, go_sem, reduceIte, Nat.reduceEqDiff, Nat.reduceAdd, Int.reduceLT, q2, q3, q28, q8, m3, mb, b3', hi0, hil, Int.toNat_natCast, hb, d1, d2, ei]
    exact ⟨hi1, rfl, kp.trans (kp10 _), old.upd hF10, (by simp only [go_sem, *] <;> rfl), by simp only [go_sem, Nat.reduceEqDiff]; rw [hsucc]; rfl⟩
end Go.Proofs.Tryz.K
namespace Go.Proofs.Tryz.K
open Go Go.Ax Go.Proofs.Tryz.S
set_option maxRecDepth 100000
set_option linter.unusedSimpArgs false
set_option linter.unusedVariables false
set_option maxHeartbeats 4000000
variable (F : Fz) (M : Hp)
theorem k126 (a1 a2 : Option Addr) (c1 c2 : Nat) (l1 l2 : List By) (h1 : RdG 5 By.cs F M (.slice a1 l1.length c1) l1) (h2 : RdG 5 By.cs F M (.slice a2 l2.length c2) l2) :
    CallsA Tryz.prog 126 [.slice a1 l1.length c1, .slice a2 l2.length c2] F M (Same F M (.bool (decide (l1 = l2)))) := by
  refine callsA_of hm Tryz.func126 e126 (Nat.le_of_ble_eq_true rfl) ?_
  have hm1 := h1.1
  by_cases hlen : (l1.length : Int) = l2.length
  rotate_left
  · simp only [c126, go_sem, reduceCtorEq, reduceIte, Nat.reduceEqDiff, hlen]
    exact endK_same ⟨by rw [decide_eq_false (by rintro rfl; exact hlen rfl)], rfl, rfl⟩
  simp only [c126, go_sem, reduceCtorEq, reduceIte, Nat.reduceEqDiff, hlen]
  refine loop_up l1.length (fun i σ F' M' => F = F' ∧ M = M' ∧ Ax.look σ 5 = some (.int .i64 i) ∧ l1.take i = l2.take i) ⟨rfl, rfl, (by simp only [go_sem, *] <;> rfl), by simp⟩ ?_
  rintro i σ F' M' hi hs ⟨rfl, rfl, h5, he⟩
  have s0 := hs 0 rfl
  have s1 := hs 1 rfl
  simp only [go_sem, reduceCtorEq, Nat.reduceEqDiff] at s0 s1
  clear hs
  by_cases hil : (i : Int) < l2.length
  rotate_left
  · have : l1 = l2 := by
      rw [List.take_of_length_le (by omega), List.take_of_length_le (by omega)] at he
      exact he
    simp only [go_sem, reduceCtorEq, reduceIte, Nat.reduceEqDiff, s0, h5, hil, hlen]
    exact endK_same ⟨by simp [this], rfl, rfl⟩
  have hi0 : (0 : Int) ≤ i := by omega
  have hi1 : i < l1.length := by omega
  have hi2 : i < l2.length := by omega
  have ei : IntKind.i64.wrap ((i : Int) + 1) = i + 1 := w64 (by omega) (by omega)
  obtain ⟨b, o, cs, rfl, hb, d1, d2⟩ := RdG.at h1 hi1
  obtain ⟨b', o', cs', rfl, hb', d3, d4⟩ := RdG.at h2 hi2
  have t1 := List.take_succ_eq_append_getElem hi1
  have t2 := List.take_succ_eq_append_getElem hi2
  have hne : ¬ l1[i] = l2[i] → ¬ l1 = l2 := by
    rintro h rfl; exact h rfl
  generalize l1[i] = x at *
  generalize l2[i] = y at *
  by_cases hxy : x = y
  · simp only [go_sem, reduceCtorEq, reduceIte, Nat.reduceEqDiff, s0, s1, h5, hlen, hil, hi0, Int.toNat_natCast, hb, hb', d1, d2, d3, d4, hxy, ei]
    exact ⟨hi1, rfl, rfl, (by simp only [go_sem, *] <;> rfl), by rw [t1, t2, he, hxy]⟩
  · simp only [go_sem, reduceCtorEq, reduceIte, Nat.reduceEqDiff, s0, s1, h5, hlen, hil, hi0, Int.toNat_natCast, hb, hb', d1, d2, d3, d4, hxy]
    exact endK_same ⟨by rw [decide_eq_false (hne hxy)], rfl, rfl⟩
def putI (big : Bool) (n : Nat) (s : Sc) (r3 r5 r15 : Nat) (ptr : Int) (F0 : Fz) (M0 : Hp) (i : Nat) (σ : Env) (F : Fz) (M : Hp) : Prop :=
  F0 = F ∧ M = ((M0.upd r3 ⟨[.bool big, .int .i64 ptr], 23, 2⟩).upd r5 ⟨s.cs, 119, 4⟩).upd r15 ⟨((putL big n s).take i ++ List.replicate (n - i) (⟨0, 0, 0, 0, 0⟩ : By)).flatMap By.cs, 83, n * 5⟩ ∧ Ax.look σ 9 = some (.int .i64 i)
theorem put_set {big : Bool} {n i : Nat} {s : Sc} (h : i < n) (x y : By) : (((putL big n s).take i ++ List.replicate (n - i) x).set i y) = (putL big n s).take i ++ y :: List.replicate (n - (i + 1)) x := by
  have e : n - i = (n - (i + 1)) + 1 := by omega
  have hl : ((putL big n s).take i).length = i := by rw [List.length_take, putL_len]; omega
  rw [List.set_append, if_neg (by omega), hl, Nat.sub_self, e, List.replicate_succ]
  rfl
theorem put_set2 {big : Bool} {n i : Nat} {s : Sc} (h : i < n) (x y z : By) : (((putL big n s).take i ++ y :: List.replicate (n - (i + 1)) x).set i z) = (putL big n s).take i ++ z :: List.replicate (n - (i + 1)) x := by
  have hl : ((putL big n s).take i).length = i := by rw [List.length_take, putL_len]; omega
  rw [List.set_append, if_neg (by omega), hl, Nat.sub_self]
  rfl
theorem put_next {big : Bool} {n i : Nat} {s : Sc} (h : i < n) (x : By) : (putL big n s).take i ++ putB big n s i :: List.replicate (n - (i + 1)) x = (putL big n s).take (i + 1) ++ List.replicate (n - (i + 1)) x := by
  have : (putL big n s)[i]? = some (putB big n s i) := by simp [putL, h]
  rw [List.take_add_one, this]
  simp
theorem k127 (big : Bool) (ptr k : Int) (s : Sc) (hp : ptr = 2 ∨ ptr = 4) (hold : Old F M) :
    CallsA Tryz.prog 127 [.agg #[.bool big, .int .i64 ptr], .int .i64 k, s.val] F M (rowR 5 By.cs 83 (putL big (sizeK ptr k).toNat s) F M) := by
  refine callsA_of hm Tryz.func127 e127 (Nat.le_of_ble_eq_true rfl) ?_
  have hn : 0 ≤ sizeK ptr k ∧ sizeK ptr k ≤ 4 := by
    unfold sizeK
    split
    · omega
    · have hw := wK_le k
      unfold wK ofW
      split
      · split
        · decide
        split <;> decide
      · decide
  obtain ⟨n, hz⟩ := Int.eq_ofNat_of_zero_le hn.1
  have hn4 : n ≤ 4 := by omega
  rw [hz, Int.toNat_natCast]
  simp only [c127, go_sem, Nat.reduceAdd]
  intro r3 hF3 hM3
  simp only [go_sem, reduceCtorEq, Nat.reduceEqDiff]
  intro r5 hF5 hM5
  simp only [upd_none2] at hM5
  simp only [go_sem, reduceCtorEq, reduceIte, Nat.reduceEqDiff, Nat.reduceAdd, hM5]
  refine callK_same (k77 _ _ big ptr k) ?_
  rw [hz]
  simp only [go_sem]
  refine msK_of (Nat.le_refl _) (by simp only [maxLen]; omega) (by omega) ?_
  intro r15 hF15 hM15
  simp only [upd_none2] at hM15
  have hrep : (List.replicate n [Value.int .i64 0, .int .i64 0, .int .i64 0, .int .i64 0, .int .i64 0]).flatten = ((putL big n s).take 0 ++ List.replicate (n - 0) (⟨0, 0, 0, 0, 0⟩ : By)).flatMap By.cs := by
    rw [List.take_zero, List.nil_append, Nat.sub_zero]
    exact flatG_rep (f := By.cs) ⟨0, 0, 0, 0, 0⟩ n
  rw [hrep]
  simp only [go_sem]
  refine loop_up n (putI big n s r3 r5 r15 ptr F M) ⟨rfl, rfl, (by simp only [go_sem, *] <;> rfl)⟩ ?_
  clear hrep
  rintro i σ F' M' hi hst ⟨rfl, rfl, h9⟩
  have q3 := hst 3 rfl
  have q5 := hst 5 rfl
  have q7 := hst 7 rfl
  have q8 := hst 8 rfl
  simp only [go_sem, Nat.reduceEqDiff] at q3 q5 q7 q8
  clear hst
  by_cases hil : (i : Int) < n
  rotate_left
  · have hin : i = n := by omega
    have e0 : (putL big n s).take i ++ List.replicate (n - i) (⟨0, 0, 0, 0, 0⟩ : By) = putL big n s := by
      rw [hin, Nat.sub_self, List.take_of_length_le (by rw [putL_len]; omega)]; simp
    rw [e0]
    simp only [go_sem, reduceIte, Nat.reduceEqDiff, q7, q8, h9, hil]
    refine endK_keep (M := M.upd r15 ⟨(putL big n s).flatMap By.cs, 83, n * 5⟩) ?_ ⟨rfl, ?_⟩
    · exact Keep.both (by repeat' first | exact Keep.refl _ | (refine Keep.new ?_ (by simp only [*])))
    · exact .inr ⟨r15, n, hF15, hM15.2.2, by rw [putL_len], ⟨by rw [putL_len]; omega, by simp only [maxLen]; omega⟩, rfl⟩
  have hi0 : (0 : Int) ≤ i := by omega
  have hi1 : i < n := by omega
  have ei : IntKind.i64.wrap ((i : Int) + 1) = i + 1 := w64 (by omega) (by omega)
  have ew1 : IntKind.i64.wrap ((n : Int) - 1) = n - 1 := w64 (by omega) (by omega)
  have ew2 : IntKind.i64.wrap ((n : Int) - 1 - i) = ((n - 1 - i : Nat) : Int) := by rw [w64 (by omega) (by omega)]; omega
  have ew3 : IntKind.i64.wrap (8 * (i : Int)) = 8 * (i : Int) := w64 (by omega) (by omega)
  have ew4 : IntKind.i64.wrap (8 * ((n - 1 - i : Nat) : Int)) = 8 * ((n - 1 - i : Nat) : Int) := w64 (by omega) (by omega)
  have en3 : ¬ (8 * (i : Int)) < 0 := by omega
  have en4 : ¬ (8 * ((n - 1 - i : Nat) : Int)) < 0 := by omega
  have hlen : ((putL big n s).take i ++ List.replicate (n - i) (⟨0, 0, 0, 0, 0⟩ : By)).length = n := by
    rw [List.length_append, List.length_take, putL_len, List.length_replicate]; omega
  have hlc : i * 5 + 5 ≤ (((putL big n s).take i ++ List.replicate (n - i) (⟨0, 0, 0, 0, 0⟩ : By)).flatMap By.cs).length := by
    rw [flatG_len By.len, hlen]; omega
  have fs : ∀ y : By, (((putL big n s).take i ++ List.replicate (n - i) (⟨0, 0, 0, 0, 0⟩ : By)).flatMap By.cs).take (i * 5) ++ y.cs ++ (((putL big n s).take i ++ List.replicate (n - i) (⟨0, 0, 0, 0, 0⟩ : By)).flatMap By.cs).drop (i * 5 + 5) = ((putL big n s).take i ++ y :: List.replicate (n - (i + 1)) (⟨0, 0, 0, 0, 0⟩ : By)).flatMap By.cs := fun y => by
    rw [flatG_set By.len y _ i (by rw [hlen]; exact hi1), put_set hi1]
  have hlen2 : ∀ y, ((putL big n s).take i ++ y :: List.replicate (n - (i + 1)) (⟨0, 0, 0, 0, 0⟩ : By)).length = n := fun y => by
    rw [List.length_append, List.length_take, putL_len, List.length_cons, List.length_replicate]; omega
  have hlc2 : ∀ y, i * 5 + 5 ≤ (((putL big n s).take i ++ y :: List.replicate (n - (i + 1)) (⟨0, 0, 0, 0, 0⟩ : By)).flatMap By.cs).length := fun y => by
    rw [flatG_len By.len, hlen2]; omega
  have fs2 : ∀ x y : By, (((putL big n s).take i ++ x :: List.replicate (n - (i + 1)) (⟨0, 0, 0, 0, 0⟩ : By)).flatMap By.cs).take (i * 5) ++ y.cs ++ (((putL big n s).take i ++ x :: List.replicate (n - (i + 1)) (⟨0, 0, 0, 0, 0⟩ : By)).flatMap By.cs).drop (i * 5 + 5) = ((putL big n s).take i ++ y :: List.replicate (n - (i + 1)) (⟨0, 0, 0, 0, 0⟩ : By)).flatMap By.cs := fun x y => by
    rw [flatG_set By.len y _ i (by rw [hlen2]; exact hi1), put_set2 hi1]
  have fin : ∀ (y : By) σ', y = putB big n s i → Ax.look σ' 9 = some (.int .i64 ((i + 1 : Nat) : Int)) → Nxt (putI big n s r3 r5 r15 ptr F M) n i σ' F (((M.upd r3 ⟨[.bool big, .int .i64 ptr], 23, 2⟩).upd r5 ⟨s.cs, 119, 4⟩).upd r15 ⟨((putL big n s).take i ++ y :: List.replicate (n - (i + 1)) ⟨0, 0, 0, 0, 0⟩).flatMap By.cs, 83, n * 5⟩) := fun y σ' hy h =>
    ⟨hi1, rfl, by rw [hy, put_next hi1], h⟩
  have fs' := fun a b c d e => fs ⟨a, b, c, d, e⟩
  have fs2' := fun x a b c d e => fs2 x ⟨a, b, c, d, e⟩
  simp only [Go.Ax.By.cs] at fs' fs2'
  clear fs fs2
  rcases Bool.eq_false_or_eq_true big with rfl | rfl
  · rcases Bool.eq_false_or_eq_true s.p with hsp | hsp
    · by_cases hsb : 0 < s.b
      · have ep : putB true n s i = ⟨2, 0, s.b, s.o, i⟩ := by unfold putB wantB; rw [if_pos hsp, if_pos hsb]
        simp only [setH, Hp.upd_upd, go_sem, reduceIte, Nat.reduceEqDiff, Nat.reduceAdd, Nat.reduceLeDiff, q3, q5, q7, q8, h9, hil, hi0, hM15, hM5, Int.toNat_natCast, ew1, ew2, ew4, en4, fs', fs2', hlc, hlc2, hsp, hsb, ei]
        exact fin _ _ ep.symm (by simp only [go_sem, *] <;> rfl)
      · have ep : putB true n s i = ⟨1, 0, 0, 0, 0⟩ := by unfold putB wantB; rw [if_pos hsp, if_neg hsb]
        simp only [setH, Hp.upd_upd, go_sem, reduceIte, Nat.reduceEqDiff, Nat.reduceAdd, Nat.reduceLeDiff, q3, q5, q7, q8, h9, hil, hi0, hM15, hM5, Int.toNat_natCast, ew1, ew2, ew4, en4, fs', fs2', hlc, hlc2, hsp, hsb, ei]
        exact fin _ _ ep.symm (by simp only [go_sem, *] <;> rfl)
    · have ep : putB true n s i = ⟨1, band .i64 (shrv .i64 s.n (8 * ((n - 1 - i : Nat) : Int))) 255, 0, 0, 0⟩ := by unfold putB; rw [if_neg (by rw [hsp]; exact Bool.false_ne_true), if_pos rfl]
      simp only [setH, Hp.upd_upd, go_sem, reduceIte, Nat.reduceEqDiff, Nat.reduceAdd, Nat.reduceLeDiff, q3, q5, q7, q8, h9, hil, hi0, hM15, hM5, Int.toNat_natCast, ew1, ew2, ew4, en4, fs', hlc, hsp, ei]
      exact fin _ _ ep.symm (by simp only [go_sem, *] <;> rfl)
  · rcases Bool.eq_false_or_eq_true s.p with hsp | hsp
    · by_cases hsb : 0 < s.b
      · have ep : putB false n s i = ⟨2, 0, s.b, s.o, i⟩ := by unfold putB wantB; rw [if_pos hsp, if_pos hsb]
        simp only [setH, Hp.upd_upd, go_sem, reduceIte, Nat.reduceEqDiff, Nat.reduceAdd, Nat.reduceLeDiff, q3, q5, q7, q8, h9, hil, hi0, hM15, hM5, Int.toNat_natCast, ew3, en3, fs', fs2', hlc, hlc2, hsp, hsb, ei]
        exact fin _ _ ep.symm (by simp only [go_sem, *] <;> rfl)
      · have ep : putB false n s i = ⟨1, 0, 0, 0, 0⟩ := by unfold putB wantB; rw [if_pos hsp, if_neg hsb]
        simp only [setH, Hp.upd_upd, go_sem, reduceIte, Nat.reduceEqDiff, Nat.reduceAdd, Nat.reduceLeDiff, q3, q5, q7, q8, h9, hil, hi0, hM15, hM5, Int.toNat_natCast, ew3, en3, fs', fs2', hlc, hlc2, hsp, hsb, ei]
        exact fin _ _ ep.symm (by simp only [go_sem, *] <;> rfl)
    · have ep : putB false n s i = ⟨1, band .i64 (shrv .i64 s.n (8 * (i : Int))) 255, 0, 0, 0⟩ := by unfold putB; rw [if_neg (by rw [hsp]; exact Bool.false_ne_true), if_neg Bool.false_ne_true]
      simp only [setH, Hp.upd_upd, go_sem, reduceIte, Nat.reduceEqDiff, Nat.reduceAdd, Nat.reduceLeDiff, q3, q5, q7, q8, h9, hil, hi0, hM15, hM5, Int.toNat_natCast, ew3, en3, fs', hlc, hsp, ei]
      exact fin _ _ ep.symm (by simp only [go_sem, *] <;> rfl)
theorem stIs_succ {n : Int} {l : List By} {i : Nat} (h : i < l.length) : stIs n (l.take (i + 1)) = (stIs n (l.take i) || decide ((l[i]).st = n)) := by
  rw [List.take_succ_eq_append_getElem h]
  unfold stIs
  rw [List.any_append]; simp
theorem stIs_at {n : Int} {l : List By} {i : Nat} (h : i < l.length) (e : (l[i]).st = n) : stIs n l = true := by
  unfold stIs
  rw [List.any_eq_true]
  exact ⟨l[i], List.getElem_mem h, by simp [e]⟩
def getI (l : List By) (F0 : Fz) (M0 : Hp) (i : Nat) (σ : Env) (F : Fz) (M : Hp) : Prop :=
  F0 = F ∧ M0 = M ∧ Ax.look σ 9 = some (.int .i64 i) ∧ ∃ c : Nat, c ≤ i ∧ Ax.look σ 8 = some (.int .i64 c) ∧ decide (0 < c) = stIs 2 (l.take i) ∧ stIs 0 (l.take i) = false
def getI2 (l : List By) (F0 : Fz) (M0 : Hp) (i : Nat) (σ : Env) (F : Fz) (M : Hp) : Prop :=
  F0 = F ∧ M0 = M ∧ Ax.look σ 10 = some (.int .i64 i) ∧ (l.take i).all (fun x => decide (x.n = 0)) = true
def getI3 (big : Bool) (l : List By) (F0 : Fz) (M0 : Hp) (i : Nat) (σ : Env) (F : Fz) (M : Hp) : Prop :=
  F0 = F ∧ M0 = M ∧ Ax.look σ 13 = some (.int .i64 i) ∧ Ax.look σ 12 = some (.int .i64 (numL ((ordL big l).take i)))
theorem k90 (big : Bool) (ptr k : Int) (a : Option Addr) (c : Nat) (l : List By) (hp : ptr = 2 ∨ ptr = 4) (hold : Old F M) (h : RdG 5 By.cs F M (.slice a l.length c) l) (hl : 0 < l.length) (hb : ∀ x ∈ l, byteB x = true) (hk : k = 7 → (sizeK ptr k).toNat = l.length) :
    CallsA Tryz.prog 90 [.agg #[.bool big, .int .i64 ptr], .int .i64 k, .slice a l.length c] F M (Same F M (.tuple #[(readV big k l).1.val, .int .i64 (readV big k l).2])) := by
  refine callsA_of hm Tryz.func90 e90 (Nat.le_of_ble_eq_true rfl) ?_
  have hle := h.1
  simp only [c90, go_sem, Nat.reduceAdd]
  intro r3 hF3 hM3
  simp only [go_sem, Nat.reduceAdd]
  intro r6 hF6 hM6
  simp only [upd_none2] at hM6
  have kp6 : Keep M ((M.upd r3 ⟨[.bool big, .int .i64 ptr], 23, 2⟩).upd r6 ⟨[.bool false, .int .i64 0, .int .i64 0, .int .i64 0], 119, 4⟩) := (by repeat' first | exact Keep.refl _ | (refine Keep.new ?_ (by simp only [*])))
  have old6 : Old F ((M.upd r3 ⟨[.bool big, .int .i64 ptr], 23, 2⟩).upd r6 ⟨[.bool false, .int .i64 0, .int .i64 0, .int .i64 0], 119, 4⟩) := (by repeat' first | assumption | (refine Old.upd ?_ (by assumption)))
  have f3 : ((M.upd r3 ⟨[.bool big, .int .i64 ptr], 23, 2⟩).upd r6 ⟨[.bool false, .int .i64 0, .int .i64 0, .int .i64 0], 119, 4⟩) r3 = some ⟨[.bool big, .int .i64 ptr], 23, 2⟩ := by rw [Hp.upd_ne' hM6.1.2]; exact Hp.upd_same _ _ _
  have f6 : ((M.upd r3 ⟨[.bool big, .int .i64 ptr], 23, 2⟩).upd r6 ⟨[.bool false, .int .i64 0, .int .i64 0, .int .i64 0], 119, 4⟩) r6 = some ⟨[.bool false, .int .i64 0, .int .i64 0, .int .i64 0], 119, 4⟩ := Hp.upd_same _ _ _
  have n6 : M r6 = none := hM6.2
  generalize (M.upd r3 ⟨[.bool big, .int .i64 ptr], 23, 2⟩).upd r6 ⟨[.bool false, .int .i64 0, .int .i64 0, .int .i64 0], 119, 4⟩ = M1 at *
  have h1 := h.keep kp6 old6
  have b3 := blk_M (F := F) f3
  have b6 := blk_M (F := F) f6
  clear hF3 hM3 hF6 hM6 h
  obtain ⟨b, o, cs, rfl, hbk, rows⟩ := h1.rows hl
  have fin : ∀ s bad, readV big k l = (s, bad) → ∀ M3, Keep M1 M3 → ∀ x, endK F (M3.upd r6 x) (Same F M (.tuple #[(readV big k l).1.val, .int .i64 (readV big k l).2])) (.tuple #[s.val, .int .i64 bad]) := fun s bad e M3 kp x => endK_keep ((kp6.trans kp).new n6) ⟨by rw [e], rfl, rfl⟩
  simp only [go_sem]
  refine loop_up l.length (getI l F M1) ⟨rfl, rfl, (by simp only [go_sem, *] <;> rfl), 0, Nat.le_refl _, (by simp only [go_sem, Nat.reduceEqDiff, *] <;> rfl), by simp [stIs], by simp [stIs]⟩ ?_
  rintro i σ F' M' hi hst ⟨rfl, rfl, q9, n, hn, q8, e2, e0⟩
  have q1 := hst 1 rfl
  have q2 := hst 2 rfl
  have q3 := hst 3 rfl
  have q6 := hst 6 rfl
  simp only [go_sem, reduceCtorEq, Nat.reduceEqDiff] at q1 q2 q3 q6
  clear hst
  by_cases hil : (i : Int) < l.length
  · have hi0 : (0 : Int) ≤ i := by omega
    have hi1 : i < l.length := by omega
    have ei : IntKind.i64.wrap ((i : Int) + 1) = i + 1 := w64 (by omega) (by omega)
    have en : IntKind.i64.wrap ((n : Int) + 1) = n + 1 := w64 (by omega) (by omega)
    obtain ⟨g1, g2⟩ := rows i hi1
    have t2 := stIs_succ (n := 2) hi1
    have t0 := stIs_succ (n := 0) hi1
    have s0 := stIs_at (n := 0) hi1
    clear rows
    generalize l[i] = x at *
    obtain ⟨g2, _⟩ := Go.Ax.By.row g2
    by_cases x0 : x.st = 0
    · have hv : readV big k l = (⟨false, 0, 0, 0⟩, 7) := by unfold readV; rw [if_pos (s0 x0)]
      simp only [setH, go_sem, reduceIte, Nat.reduceEqDiff, Nat.reduceAdd, q2, q6, q9, hil, hi0, Int.toNat_natCast, Nat.add_zero, hbk, g2, x0, f6]
      exact fin _ _ hv M1 (Keep.refl _) _
    by_cases x2 : x.st = 2
    · simp only [go_sem, reduceIte, Nat.reduceEqDiff, Int.reduceEq, q2, q8, q9, hil, hi0, Int.toNat_natCast, Nat.add_zero, hbk, g2, x2, ei, en]
      exact ⟨hi1, rfl, rfl, (by simp only [go_sem, *] <;> rfl), n + 1, by omega, (by simp only [go_sem, Nat.reduceEqDiff, *] <;> rfl), by rw [t2]; simp [x2], by rw [t0, e0]; simp [x0]⟩
    · simp only [go_sem, reduceIte, Nat.reduceEqDiff, q2, q9, hil, hi0, Int.toNat_natCast, Nat.add_zero, hbk, g2, x0, x2, ei]
      exact ⟨hi1, rfl, rfl, (by simp only [go_sem, *] <;> rfl), n, by omega, (by simp only [go_sem, Nat.reduceEqDiff, *] <;> rfl), by rw [t2, e2]; simp [x2], by rw [t0, e0]; simp [x0]⟩
  rw [List.take_of_length_le (by omega)] at e2 e0
  by_cases h7 : k = 7
  · have hv : readV big k l = ((pointerV l).1, (pointerV l).2) := by unfold readV; rw [if_neg (by simp [e0]), if_pos h7]
    by_cases hn0 : n = 0
    · have e2' : stIs 2 l = false := by rw [← e2]; simp [hn0]
      have hn0' : (n : Int) = 0 := by omega
      rw [ptr_none hb e0 e2' hl] at hv
      simp only [go_sem, reduceIte, Nat.reduceEqDiff, q1, q2, q8, q9, hil, h7, hn0']
      clear q9 q8 e2 e0 hil
      refine loop_up l.length (getI2 l F M1) ⟨rfl, rfl, (by simp only [go_sem, *] <;> rfl), rfl⟩ ?_
      rintro i σ F' M' hi hst ⟨rfl, rfl, q10, ha⟩
      have p1 := hst 1 rfl
      have p2 := hst 2 rfl
      have p3 := hst 3 rfl
      have p6 := hst 6 rfl
      simp only [go_sem, Nat.reduceEqDiff, q1, q2, q3, q6] at p1 p2 p3 p6
      clear hst
      by_cases hil : (i : Int) < l.length
      · have hi0 : (0 : Int) ≤ i := by omega
        have hi1 : i < l.length := by omega
        have ei : IntKind.i64.wrap ((i : Int) + 1) = i + 1 := w64 (by omega) (by omega)
        obtain ⟨g1, g2⟩ := rows i hi1
        have t1 := List.take_succ_eq_append_getElem hi1
        have hall : ¬ (l[i]).n = 0 → l.all (fun x => decide (x.n = 0)) = false := fun h => by
          rw [List.all_eq_false]
          exact ⟨l[i], List.getElem_mem hi1, by simp [h]⟩
        clear rows
        generalize l[i] = x at *
        obtain ⟨_, g2, _⟩ := Go.Ax.By.row g2
        by_cases x0 : x.n = 0
        · simp only [go_sem, reduceIte, Nat.reduceEqDiff, p2, q10, hil, hi0, Int.toNat_natCast, hbk, g2, x0, ei]
          exact ⟨hi1, rfl, rfl, (by simp only [go_sem, *] <;> rfl), by rw [t1, List.all_append, ha]; simp [x0]⟩
        · rw [hall x0, if_neg Bool.false_ne_true] at hv
          simp only [setH, go_sem, reduceIte, Nat.reduceEqDiff, Nat.reduceAdd, p2, p6, q10, hil, hi0, Int.toNat_natCast, hbk, g2, x0, f6]
          rw [h7] at hv fin
          exact fin _ _ hv M1 (Keep.refl _) _
      · rw [List.take_of_length_le (by omega)] at ha
        rw [ha, if_pos rfl] at hv
        simp only [setH, go_sem, reduceIte, Nat.reduceEqDiff, Nat.reduceAdd, Nat.reduceLeDiff, p2, p6, q10, hil, f6]
        rw [h7] at hv fin
        exact fin _ _ hv M1 (Keep.refl _) _
    · have e2' : stIs 2 l = true := by rw [← e2]; simp; omega
      have hn0' : ¬ (n : Int) = 0 := by omega
      rw [ptr_some hb e2' hl] at hv
      obtain ⟨g1, g2⟩ := rows 0 hl
      have hx0 : byAt l 0 = l[0] := by unfold byAt; rw [List.getElem?_eq_getElem hl]; rfl
      rw [hx0] at hv
      have hz0 : (0 : Int) < l.length := by omega
      generalize l[0] = x at *
      obtain ⟨g2, _, g3, g4, _⟩ := Go.Ax.By.row g2
      rw [Nat.zero_mul, Nat.add_zero] at g1 g2 g3 g4
      simp only [go_sem, reduceIte, Nat.reduceEqDiff, Nat.reduceAdd, Nat.reduceLeDiff, Int.reduceLE, q1, q2, q8, q9, hil, h7, hn0', hz0, Int.toNat_zero, Nat.zero_mul, Nat.add_zero, hbk, g3, g4]
      intro r11 hF11 hM11
      have m3 := ne_of_none hM11 f3
      have m6 := ne_of_none hM11 f6
      have hb11 := ne_of_blk hbk hF11 hM11
      have kp11 : ∀ e, Keep M1 (M1.upd r11 e) := fun e => (Keep.refl M1).new hM11
      have old11 : ∀ e, Old F (M1.upd r11 e) := fun e => old6.upd hF11
      by_cases x2 : x.st = 2
      · simp only [setH, Hp.upd_upd, go_sem, reduceIte, Nat.reduceEqDiff, Nat.reduceAdd, Int.reduceLE, q1, q2, q3, m3, hb11, hz0, Int.toNat_zero, Nat.zero_mul, Nat.add_zero, hbk, g2, x2, b3]
        have ko := k127 F (M1.upd r11 ⟨(Sc.mk true 0 x.b x.o).cs, 119, 4⟩) big ptr k ⟨true, 0, x.b, x.o⟩ hp (old11 _)
        rw [hk h7, putL_ptr] at ko
        with_reducible refine callK_of ko ?_
        intro u F' M3 hu
        obtain ⟨rfl, le3, keep3, o3, a3, c3, rfl, hk3⟩ := hu.le By.len (by rw [ptrL_len]; exact hle)
        have hk3' := hk3
        rw [ptrL_len] at hk3'
        refine ⟨fun _ => le3, ?_⟩
        have h3' := h1.keep ((kp11 _).trans keep3) (o3 (old11 _))
        have heq := k126 F' M3 a3 (some ⟨b, o, none⟩) c3 c (ptrL x.b x.o l.length) l hk3 h3'
        have f11 := keep3 _ _ (Hp.upd_same M1 r11 ⟨(Sc.mk true 0 x.b x.o).cs, 119, 4⟩)
        have f6' := keep3 _ _ ((kp11 ⟨(Sc.mk true 0 x.b x.o).cs, 119, 4⟩) _ _ f6)
        have b6' := blk_M (F := F') f6'
        have b11 := blk_M (F := F') f11
        simp only [go_sem, Nat.reduceEqDiff, q2]
        with_reducible refine callK_same heq ?_
        by_cases he : ptrL x.b x.o l.length = l
        · rw [if_pos ⟨x2, he⟩] at hv
          rw [h7] at hv fin
          simp only [setH, go_sem, reduceCtorEq, reduceIte, Nat.reduceEqDiff, Nat.reduceAdd, q6, he, f6', b11]
          exact fin _ _ hv M3 ((kp11 _).trans keep3) _
        · rw [if_neg (fun h => he h.2)] at hv
          rw [h7] at hv fin
          simp only [setH, go_sem, reduceCtorEq, reduceIte, Nat.reduceEqDiff, Nat.reduceAdd, q6, he, f6']
          exact fin _ _ hv M3 ((kp11 _).trans keep3) _
      · simp only [setH, Hp.upd_upd, go_sem, reduceIte, Nat.reduceEqDiff, Nat.reduceAdd, Int.reduceLE, q2, q6, m6, hb11, hz0, Int.toNat_zero, Nat.zero_mul, Nat.add_zero, hbk, g2, x2, f6]
        rw [if_neg (fun h => x2 h.1)] at hv
        rw [h7] at hv fin
        exact fin _ _ hv _ (kp11 _) _
  by_cases hn0 : n = 0
  rotate_left
  · have e2' : stIs 2 l = true := by rw [← e2]; simp; omega
    have hn0' : (0 : Int) < n := by omega
    have hv : readV big k l = (⟨false, 0, 0, 0⟩, 8) := by unfold readV; rw [if_neg (by simp [e0]), if_neg h7, if_pos e2']
    simp only [setH, go_sem, reduceIte, Nat.reduceEqDiff, Nat.reduceAdd, q1, q2, q6, q8, q9, hil, h7, hn0', f6]
    exact fin _ _ hv M1 (Keep.refl _) _
  have e2' : stIs 2 l = false := by rw [← e2]; simp [hn0]
  have hn0' : ¬ (0 : Int) < n := by omega
  have hv : readV big k l = (⟨false, numL (ordL big l), 0, 0⟩, 0) := by unfold readV; rw [if_neg (by simp [e0]), if_neg h7, if_neg (by simp [e2'])]
  simp only [go_sem, reduceIte, Nat.reduceEqDiff, q1, q2, q8, q9, hil, h7, hn0']
  clear q9 q8 e2 e0 hil
  refine loop_up l.length (getI3 big l F M1) ⟨rfl, rfl, (by simp only [go_sem, *] <;> rfl), by simp only [go_sem, Nat.reduceEqDiff]; rfl⟩ ?_
  rintro i σ F' M' hi hst ⟨rfl, rfl, q13, q12⟩
  have p1 := hst 1 rfl
  have p2 := hst 2 rfl
  have p3 := hst 3 rfl
  have p6 := hst 6 rfl
  simp only [go_sem, Nat.reduceEqDiff, q1, q2, q3, q6] at p1 p2 p3 p6
  clear hst
  by_cases hil : (i : Int) < l.length
  rotate_left
  · rw [List.take_of_length_le (by rw [ordL_len]; omega)] at q12
    simp only [setH, go_sem, reduceIte, Nat.reduceEqDiff, Nat.reduceAdd, Nat.reduceLeDiff, p2, p6, q12, q13, hil, f6, Sc.fold]
    exact fin _ _ hv M1 (Keep.refl _) _
  have hi0 : (0 : Int) ≤ i := by omega
  have hi1 : i < l.length := by omega
  have ei : IntKind.i64.wrap ((i : Int) + 1) = i + 1 := w64 (by omega) (by omega)
  have ew1 : IntKind.i64.wrap ((l.length : Int) - 1) = l.length - 1 := w64 (by omega) (by omega)
  have ew2 : IntKind.i64.wrap ((l.length : Int) - 1 - i) = ((l.length - 1 - i : Nat) : Int) := by rw [w64 (by omega) (by omega)]; omega
  have hj : l.length - 1 - i < l.length := by omega
  have hj0 : (0 : Int) ≤ ((l.length - 1 - i : Nat) : Int) := by omega
  have hjl : ((l.length - 1 - i : Nat) : Int) < l.length := by omega
  obtain ⟨d1, d2⟩ := rows i hi1
  obtain ⟨d3, d4⟩ := rows (l.length - 1 - i) hj
  obtain ⟨_, d2, _⟩ := Go.Ax.By.row d2
  obtain ⟨_, d4, _⟩ := Go.Ax.By.row d4
  have hsucc := numL_succ (l := ordL big l) (i := i) (by rw [ordL_len]; exact hi1)
  have hsel : ((ordL big l)[i]'(by rw [ordL_len]; exact hi1)) = if big = true then l[i] else l[l.length - 1 - i] := by
    cases big
    · simp [ordL, List.getElem_reverse]
    · simp [ordL]
  rw [hsel] at hsucc
  clear hsel rows
  generalize l[i] = x at *
  generalize l[l.length - 1 - i] = y at *
  cases big
  · simp only [go_sem, reduceIte, Nat.reduceEqDiff, Int.reduceLT, p2, p3, q12, q13, hil, b3, ew1, ew2, hj0, hjl, Int.toNat_natCast, hbk, d4, ei]
    exact ⟨hi1, rfl, rfl, (by simp only [go_sem, *] <;> rfl), by simp only [go_sem, Nat.reduceEqDiff]; rw [hsucc]; rfl⟩
  · simp only [go_sem, reduceIte, Nat.reduceEqDiff, Int.reduceLT, p2, p3, q12, q13, hil, b3, ew1, ew2, hi0, Int.toNat_natCast, hbk, d2, ei]
    exact ⟨hi1, rfl, rfl, (by simp only [go_sem, *] <;> rfl), by simp only [go_sem, Nat.reduceEqDiff]; rw [hsucc]; rfl⟩
end Go.Proofs.Tryz.K
namespace Go.Ax
open Go
set_option linter.unusedVariables false
set_option linter.unusedSimpArgs false
theorem RdG.cut {α : Type} {sz : Nat} {f : α → List Value} {F : Fz} {M : Hp} {a : Option Addr} {c : Nat} {l : List α} (h : RdG sz f F M (.slice a l.length c) l) {lo n : Nat} (h2 : lo + n ≤ l.length) :
    RdG sz f F M (.slice (if (c : Int) = lo then a else a.map (·.add (lo * sz))) ((l.drop lo).take n).length (c - lo)) ((l.drop lo).take n) := by
  have hlen : ((l.drop lo).take n).length = n := by simp; omega
  obtain ⟨h1, ad, cap, hc, e, h⟩ := h
  cases e
  refine ⟨by omega, _, _, by omega, rfl, ?_⟩
  by_cases hn : n = 0
  · left; subst hn; simp
  right
  rcases h with h | ⟨b, o, cs, rfl, hb, rows⟩
  · rw [h] at h2; simp at h2; omega
  rw [if_neg (by omega)]
  refine ⟨b, o + lo * sz, cs, ?_, hb, ?_⟩
  · simp only [Option.map_some, Addr.add]
    split
    · rename_i h0; rw [h0]; rfl
    · rfl
  intro i hi
  have hi' : lo + i < l.length := by omega
  have := rows (lo + i) hi'
  rw [Nat.add_mul, ← Nat.add_assoc] at this
  rw [List.getElem_take, List.getElem_drop]
  exact this
theorem cut_len {α : Type} {l : List α} {lo n : Nat} (h2 : lo + n ≤ l.length) : ((l.drop lo).take n).length = n := by simp; omega
def sayV (big : Bool) (c : Pc) (l : List By) : Bool :=
  if c.k = 0 then decide ((byAt l 0).st = 0) else if c.k = 11 then decide ((byAt l 0).st = 2) && (c.v.has (byAt l 0).i && pointsB c.l (byAt l 0).b (byAt l 0).o)
  else decide ((readV big c.k l).2 = 0) && hasB c.k c.v c.l (readV big c.k l).1
def blAt (m : List Bl) (b : Int) : Bl := (m[b.toNat]?).getD ⟨0, none, 0, []⟩
def cutB (ptr : Int) (m : List Bl) (c : Pc) : List By := ((blAt m c.b).l.drop c.p.toNat).take (spanK ptr c.k).toNat
def saysB (p : Pg) (m : List Bl) (c : Pc) : Bool := !decide ((blAt m c.b).st = 1) || sayV p.big c (cutB p.ptr m c)
def newB (p : Pg) (m : List Bl) (news : List Int) (i : Nat) : Bool := !decide (band .i64 (shrv .i64 ((news[i]?).getD 0) (blAt m (p.vars.length + 1 + i)).st) 1 = 0)
def inEnv (p : Pg) (e : Pe) (m : List Bl) : Bool := !e.no && (e.cells.all (saysB p m) && (List.range e.news.length).all (newB p m e.news))
theorem byAt_mem {l : List By} (h : 0 < l.length) : byAt l 0 ∈ l := by
  unfold byAt; rw [List.getElem?_eq_getElem h]; exact List.getElem_mem h
theorem byteB_o {x : By} (h : byteB x = true) : x.o ≤ 32 := by
  unfold byteB at h
  split at h
  · have := of_decide_eq_true h
    rw [this]; decide
  split at h
  · simp only [Bool.and_eq_true, decide_eq_true_eq] at h; omega
  split at h
  · simp only [Bool.and_eq_true, decide_eq_true_eq] at h; omega
  · cases h
theorem read_o {big : Bool} {k : Int} {l : List By} (hb : ∀ x ∈ l, byteB x = true) (hl : 0 < l.length) : (readV big k l).1.o ≤ 32 := by
  have := byteB_o (hb _ (byAt_mem hl))
  unfold readV
  split
  · decide
  split
  · unfold pointerV
    split
    · exact this
    · decide
  split
  · decide
  · show (0 : Int) ≤ 32; decide
end Go.Ax
namespace Go.Proofs.Tryz.K
open Go Go.Ax Go.Proofs.Tryz.S
set_option maxRecDepth 100000
set_option linter.unusedSimpArgs false
set_option linter.unusedVariables false
set_option maxHeartbeats 4000000
variable (F : Fz) (M : Hp)
theorem say0 {big : Bool} {c : Pc} {l : List By} (h : c.k = 0) : sayV big c l = decide ((byAt l 0).st = 0) := by unfold sayV; rw [if_pos h]
theorem say11 {big : Bool} {c : Pc} {l : List By} (h : c.k = 11) : sayV big c l = (decide ((byAt l 0).st = 2) && (c.v.has (byAt l 0).i && pointsB c.l (byAt l 0).b (byAt l 0).o)) := by unfold sayV; rw [if_neg (by omega), if_pos h]
theorem sayS {big : Bool} {c : Pc} {l : List By} (h0 : ¬ c.k = 0) (h : ¬ c.k = 11) : sayV big c l = (decide ((readV big c.k l).2 = 0) && hasB c.k c.v c.l (readV big c.k l).1) := by unfold sayV; rw [if_neg h0, if_neg h]
theorem k86 (big : Bool) (ptr : Int) (c : Cl) (a : Option Addr) (cap : Nat) (l : List By) (hold : Old F M) (h : c.rd F M) (hl : RdG 5 By.cs F M (.slice a l.length cap) l) (hpos : 0 < l.length) (hb : ∀ x ∈ l, byteB x = true) :
    CallsA Tryz.prog 86 [.agg #[.bool big, .int .i64 ptr], c.val, .slice a l.length cap] F M (Same F M (.bool (sayV big c.pc l))) := by
  refine callsA_of hm Tryz.func86 e86 (Nat.le_of_ble_eq_true rfl) ?_
  simp only [c86, go_sem, Nat.reduceAdd]
  intro r3 hF3 hM3
  simp only [go_sem, reduceCtorEq, Nat.reduceEqDiff]
  intro r4 hF4 hM4
  simp only [upd_none2] at hM4
  have kp4 : Keep M ((M.upd r3 ⟨[.bool big, .int .i64 ptr], 23, 2⟩).upd r4 ⟨c.cs, 87, 10⟩) := (by repeat' first | exact Keep.refl _ | (refine Keep.new ?_ (by simp only [*])))
  have old4 : Old F ((M.upd r3 ⟨[.bool big, .int .i64 ptr], 23, 2⟩).upd r4 ⟨c.cs, 87, 10⟩) := (by repeat' first | assumption | (refine Old.upd ?_ (by assumption)))
  have f3 : ((M.upd r3 ⟨[.bool big, .int .i64 ptr], 23, 2⟩).upd r4 ⟨c.cs, 87, 10⟩) r3 = some ⟨[.bool big, .int .i64 ptr], 23, 2⟩ := by rw [Hp.upd_ne' hM4.1.2]; exact Hp.upd_same _ _ _
  have f4 : ((M.upd r3 ⟨[.bool big, .int .i64 ptr], 23, 2⟩).upd r4 ⟨c.cs, 87, 10⟩) r4 = some ⟨c.cs, 87, 10⟩ := Hp.upd_same _ _ _
  generalize (M.upd r3 ⟨[.bool big, .int .i64 ptr], 23, 2⟩).upd r4 ⟨c.cs, 87, 10⟩ = M1 at *
  have h1 : c.rd F M1 := RdG.keep h kp4 old4
  have hl1 := hl.keep kp4 old4
  have b3 := blk_M (F := F) f3
  have b4 := blk_M (F := F) f4
  clear h hl f3 f4 hF3 hM3 hF4 hM4
  obtain ⟨b, o, cs, rfl, hbk, rows⟩ := hl1.rows hpos
  obtain ⟨g1, g2⟩ := rows 0 hpos
  have hx0 : byAt l 0 = l[0] := by unfold byAt; rw [List.getElem?_eq_getElem hpos]; rfl
  have ho := byteB_o (hb _ (byAt_mem hpos))
  obtain ⟨g2, _, g3, g4, g5⟩ := Go.Ax.By.row g2
  rw [Nat.zero_mul, Nat.add_zero] at g1 g2 g3 g4 g5
  rw [← hx0] at g2 g3 g4 g5
  have hro := read_o (big := big) (k := c.k) hb hpos
  have hz0 : (0 : Int) < l.length := by omega
  have fin : ∀ v : Bool, sayV big c.pc l = v → ∀ M3, Keep M1 M3 → endK F M3 (Same F M (.bool (sayV big c.pc l))) (.bool v) := fun v e M3 kp => endK_keep (kp4.trans kp) ⟨by rw [e], rfl, rfl⟩
  clear rows hx0
  by_cases h0 : c.k = 0
  · have hv := say0 (big := big) (c := c.pc) (l := l) h0
    simp only [go_sem, reduceCtorEq, reduceIte, Nat.reduceEqDiff, Int.reduceLE, b4, h0, hz0, Int.toNat_zero, Nat.zero_mul, Nat.add_zero, hbk, g2]
    exact fin _ hv _ (Keep.refl _)
  by_cases h11 : c.k = 11
  · have hv := say11 (big := big) (c := c.pc) (l := l) h11
    by_cases x2 : (byAt l 0).st = 2
    rotate_left
    · simp only [go_sem, reduceCtorEq, reduceIte, Nat.reduceEqDiff, Int.reduceLE, Int.reduceEq, b4, h11, hz0, Int.toNat_zero, Nat.zero_mul, Nat.add_zero, hbk, g2, x2]
      exact fin _ (by rw [hv, decide_eq_false x2]; rfl) _ (Keep.refl _)
    simp only [go_sem, reduceCtorEq, reduceIte, Nat.reduceEqDiff, Nat.reduceAdd, Nat.reduceLeDiff, Int.reduceLE, Int.reduceEq, b4, h11, hz0, Int.toNat_zero, Nat.zero_mul, Nat.add_zero, hbk, g2, g5, x2]
    with_reducible refine callK_same (k122 F M1 c.v (byAt l 0).i) ?_
    cases e1 : c.v.has (byAt l 0).i
    · simp only [go_sem, reduceCtorEq, reduceIte, Nat.reduceEqDiff]
      exact fin _ (by rw [hv]; show (_ && (c.v.has (byAt l 0).i && _)) = false; rw [e1]; simp) _ (Keep.refl _)
    simp only [go_sem, reduceCtorEq, reduceIte, Nat.reduceEqDiff, Nat.reduceAdd, Int.reduceLE, b4, hz0, Int.toNat_zero, Nat.zero_mul, Nat.add_zero, hbk, g3, g4]
    with_reducible refine callK_same (k123 F M1 (.slice c.lA c.l.length c.lC) c.l (byAt l 0).b (byAt l 0).o (by unfold Cl.rd at h1; exact h1)) ?_
    simp only [go_sem, reduceIte, Nat.reduceEqDiff]
    exact fin _ (by rw [hv, decide_eq_true x2, decide_eq_true ho]; show (_ && (c.v.has (byAt l 0).i && _)) = _; rw [e1]; rfl) _ (Keep.refl _)
  have hv : sayV big c.pc l = (decide ((readV big c.k l).2 = 0) && hasB c.k c.v c.l (readV big c.k l).1) := sayS (big := big) (c := c.pc) (l := l) h0 h11
  simp only [go_sem, reduceCtorEq, reduceIte, Nat.reduceEqDiff, Nat.reduceAdd, b3, b4, h0, h11]
  with_reducible refine callK_same (k108 F M1 big ptr c.k _ _ l old4 hl1 hpos) ?_
  generalize readV big c.k l = rv at *
  obtain ⟨s, bad⟩ := rv
  simp only [go_sem, Nat.reduceEqDiff, Nat.reduceAdd]
  intro r7 hF7 hM7
  have m4 := blk_upd_ne (F := F) (M := M1) (e := ⟨[.bool false, .int .i64 0, .int .i64 0, .int .i64 0], 119, 4⟩) (ne_of_blk b4 hF7 hM7)
  have h7 : c.rd F (M1.upd r7 ⟨s.cs, 119, 4⟩) := RdG.new h1 hF7 hM7
  have n4 := ne_of_blk b4 hF7 hM7
  by_cases hbad : bad = 0
  rotate_left
  · simp only [setH, Hp.upd_upd, go_sem, reduceCtorEq, reduceIte, Nat.reduceEqDiff, Nat.reduceAdd, hbad]
    exact fin _ (by rw [hv]; show (decide (bad = 0) && _) = false; rw [decide_eq_false hbad]; rfl) _ (by repeat' first | exact Keep.refl _ | (refine Keep.new ?_ (by simp only [*])))
  simp only [setH, Hp.upd_upd, go_sem, reduceIte, Nat.reduceEqDiff, Nat.reduceAdd, b4, n4, hbad, blk_upd_ne]
  with_reducible refine callK_same (k124 F _ c.k c.v (.slice c.lA c.l.length c.lC) c.l s (by unfold Cl.rd at h7; exact h7)) ?_
  simp only [go_sem, reduceIte, Nat.reduceEqDiff]
  refine fin _ ?_ _ (by repeat' first | exact Keep.refl _ | (refine Keep.new ?_ (by simp only [*])))
  rw [hv]
  show (decide (bad = 0) && hasB c.k c.v c.l s) = holdsB c.k c.v c.l s
  rw [decide_eq_true hbad]
  unfold hasB holdsB
  split
  · rw [decide_eq_true hro]
  · rfl
theorem byAt_cut {l : List By} {q n : Nat} (h : q < l.length) (hn : 0 < n) : byAt ((l.drop q).take n) 0 = l[q] := by
  unfold byAt
  rw [List.getElem?_take_of_lt hn, List.getElem?_drop, Nat.add_zero, List.getElem?_eq_getElem h]; rfl
theorem k46 (p : Pg) (ma : Option Addr) (mc : Nat) (m : List Bl) (c : Cl) (hold : Old F M) (hp : p.ptr = 2 ∨ p.ptr = 4) (h : c.rd F M) (hmem : RdG 2 Bl.cs F M (.slice ma m.length mc) m) (hbl : ∀ x ∈ m, x.rd F M)
    (hbi : 0 ≤ c.b ∧ c.b < m.length) (hin : (blAt m c.b).st = 1 → 0 ≤ c.p ∧ c.p + spanK p.ptr c.k ≤ (blAt m c.b).l.length) (hby : ∀ x ∈ (blAt m c.b).l, byteB x = true) (hk : c.k = 0 ∨ c.k = 11 ∨ isS c.k = true) :
    CallsA Tryz.prog 46 [p.val, .slice ma m.length mc, c.val] F M (Same F M (.bool (saysB p m c.pc))) := by
  refine callsA_of hm Tryz.func46 e46 (Nat.le_of_ble_eq_true rfl) ?_
  simp only [c46, go_sem, Nat.reduceAdd]
  intro r3 hF3 hM3
  simp only [go_sem, reduceCtorEq, Nat.reduceEqDiff]
  intro r5 hF5 hM5
  simp only [upd_none2] at hM5
  have kp5 : Keep M ((M.upd r3 ⟨p.cs, 28, 7⟩).upd r5 ⟨c.cs, 87, 10⟩) := (by repeat' first | exact Keep.refl _ | (refine Keep.new ?_ (by simp only [*])))
  have old5 : Old F ((M.upd r3 ⟨p.cs, 28, 7⟩).upd r5 ⟨c.cs, 87, 10⟩) := (by repeat' first | assumption | (refine Old.upd ?_ (by assumption)))
  have f3 : ((M.upd r3 ⟨p.cs, 28, 7⟩).upd r5 ⟨c.cs, 87, 10⟩) r3 = some ⟨p.cs, 28, 7⟩ := by rw [Hp.upd_ne' hM5.1.2]; exact Hp.upd_same _ _ _
  have f5 : ((M.upd r3 ⟨p.cs, 28, 7⟩).upd r5 ⟨c.cs, 87, 10⟩) r5 = some ⟨c.cs, 87, 10⟩ := Hp.upd_same _ _ _
  generalize (M.upd r3 ⟨p.cs, 28, 7⟩).upd r5 ⟨c.cs, 87, 10⟩ = M1 at *
  have h1 : c.rd F M1 := RdG.keep h kp5 old5
  have hm1 := hmem.keep kp5 old5
  have b3 := blk_M (F := F) f3
  have b5 := blk_M (F := F) f5
  have fin : ∀ v : Bool, saysB p m c.pc = v → ∀ M3, Keep M1 M3 → endK F M3 (Same F M (.bool (saysB p m c.pc))) (.bool v) := fun v e M3 kp => endK_keep (kp5.trans kp) ⟨by rw [e], rfl, rfl⟩
  obtain ⟨i, hi⟩ := Int.eq_ofNat_of_zero_le hbi.1
  have hil : i < m.length := by omega
  have hi0 : (0 : Int) ≤ i := by omega
  have hil' : (i : Int) < m.length := by omega
  obtain ⟨b, o, cs, rfl, hb, rows⟩ := hm1.rows (by omega)
  obtain ⟨d1, d2⟩ := rows i hil
  obtain ⟨d2, d3⟩ := Go.Ax.Bl.row d2
  have hat : blAt m c.b = m[i] := by unfold blAt; rw [hi, Int.toNat_natCast, List.getElem?_eq_getElem hil]; rfl
  have hx1 : m[i].rd F M1 := RdG.keep (hbl _ (List.getElem_mem hil)) kp5 old5
  have hR : saysB p m c.pc = (!decide ((m[i]).st = 1) || sayV p.big c.pc (((m[i]).l.drop c.p.toNat).take (spanK p.ptr c.k).toNat)) := by
    rw [← hat]; rfl
  rw [hat] at hin hby
  clear hat rows hbl hmem hm1 h hold f3 f5 hM3 hF3 hF5 hM5 hbi
  generalize saysB p m c.pc = R at *
  generalize m[i] = x at *
  by_cases hst : x.st = 1
  rotate_left
  · simp only [go_sem, reduceCtorEq, reduceIte, Nat.reduceEqDiff, b5, hi, hi0, hil', Int.toNat_natCast, Nat.add_zero, hb, d2, hst]
    exact fin _ (by rw [hR, decide_eq_false hst]; rfl) _ (Keep.refl _)
  obtain ⟨n1, n4⟩ := spanK_in hp hk
  have hs7 : c.k = 7 → (sizeK p.ptr c.k).toNat = (spanK p.ptr c.k).toNat := fun h7 => by
    unfold sizeK spanK; rw [h7]; rfl
  obtain ⟨n, hn⟩ := Int.eq_ofNat_of_zero_le (by omega : 0 ≤ spanK p.ptr c.k)
  obtain ⟨hp0, hpl⟩ := hin hst
  obtain ⟨q, hq⟩ := Int.eq_ofNat_of_zero_le hp0
  rw [hn] at hpl n1 n4
  rw [hq] at hpl
  have hn1 : 0 < n := by omega
  have hql : q < x.l.length := by omega
  have hq0 : (0 : Int) ≤ q := by omega
  have hql' : (q : Int) < x.l.length := by omega
  have hxl := hx1.1
  rw [hst, hq, hn, Int.toNat_natCast, Int.toNat_natCast] at hR
  have hcl := cut_len (l := x.l) (lo := q) (n := n) (by omega)
  have hcut := RdG.cut hx1 (lo := q) (n := n) (by omega)
  have hb0 := byAt_cut (n := n) hql hn1
  obtain ⟨b', o', cs', ea, hb', rows⟩ := hx1.rows (by omega)
  obtain ⟨g1, g2⟩ := rows q hql
  generalize x.l[q] = y at *
  simp only [go_sem, reduceCtorEq, reduceIte, Nat.reduceEqDiff, Nat.reduceAdd, b5, hi, hi0, hil', Int.toNat_natCast, Nat.add_zero, hb, d2, d3, hst, hq, hq0, hql', ea, hb', g1, g2]
  intro r7 hF7 hM7
  have n3 := ne_of_blk b3 hF7 hM7
  have n5 := ne_of_blk b5 hF7 hM7
  have nb := ne_of_blk hb hF7 hM7
  have nb' := ne_of_blk hb' hF7 hM7
  have old7 : ∀ e, Old F (M1.upd r7 e) := fun e => old5.upd hF7
  have kp7 : ∀ e, Keep M1 (M1.upd r7 e) := fun e => (Keep.refl M1).new hM7
  have hc7 : ∀ e, c.rd F (M1.upd r7 e) := fun e => RdG.new h1 hF7 hM7
  by_cases h0 : c.k = 0
  · have hv := say0 (big := p.big) (c := c.pc) (l := (x.l.drop q).take n) h0
    rw [hb0] at hv
    simp only [setH, Hp.upd_upd, go_sem, reduceIte, Nat.reduceEqDiff, Nat.reduceAdd, b5, n5, h0]
    exact fin _ (by rw [hR, hv]; rfl) _ (kp7 _)
  by_cases h11 : c.k = 11
  · have hv := say11 (big := p.big) (c := c.pc) (l := (x.l.drop q).take n) h11
    rw [hb0] at hv
    by_cases x2 : y.st = 2
    rotate_left
    · simp only [setH, Hp.upd_upd, go_sem, reduceCtorEq, reduceIte, Nat.reduceEqDiff, Nat.reduceAdd, Int.reduceEq, b5, n5, h11, x2]
      exact fin _ (by rw [hR, hv, decide_eq_false x2]; rfl) _ (kp7 _)
    simp only [setH, Hp.upd_upd, go_sem, reduceIte, Nat.reduceEqDiff, Nat.reduceAdd, Nat.reduceLeDiff, Int.reduceEq, b5, n5, h11, x2]
    with_reducible refine callK_same (k88 F _ c.v y.i) ?_
    cases e1 : c.v.has y.i
    · simp only [go_sem, reduceCtorEq, reduceIte, Nat.reduceEqDiff]
      exact fin _ (by rw [hR, hv]; show (_ || (_ && (c.v.has y.i && _))) = false; rw [e1]; simp) _ (kp7 _)
    simp only [go_sem, reduceIte, Nat.reduceEqDiff, Nat.reduceAdd, b5, n5]
    have hcc := hc7 ⟨y.cs, 83, 5⟩
    with_reducible refine callK_same (k89 F _ (.slice c.lA c.l.length c.lC) c.l y.b y.o (by unfold Cl.rd at hcc; exact hcc)) ?_
    simp only [go_sem, reduceIte, Nat.reduceEqDiff]
    exact fin _ (by rw [hR, hv, decide_eq_true x2]; show (_ || (_ && (c.v.has y.i && _))) = _; rw [e1]; rfl) _ (kp7 _)
  have hv : sayV p.big c.pc ((x.l.drop q).take n) = (decide ((readV p.big c.k ((x.l.drop q).take n)).2 = 0) && hasB c.k c.v c.l (readV p.big c.k ((x.l.drop q).take n)).1) := sayS (big := p.big) (c := c.pc) (l := (x.l.drop q).take n) h0 h11
  have hks : isS c.k = true := by
    rcases hk with h | h | h
    · exact absurd h h0
    · exact absurd h h11
    · exact h
  have hle := hx1.1
  have ew : IntKind.i64.wrap ((q : Int) + n) = ((q + n : Nat) : Int) := by rw [w64 (by omega) (by omega)]; omega
  have e1 : (0 : Int) ≤ ((q + n : Nat) : Int) := by omega
  have e2 : (q : Int) ≤ ((q + n : Nat) : Int) := by omega
  have e3 : ((q + n : Nat) : Int) ≤ x.l.length := by omega
  have e4 : x.l.length ≤ x.lC := by
    obtain ⟨_, ad, cap, hc, e, _⟩ := hx1
    cases e; exact hc
  have e4' : (x.l.length : Int) ≤ x.lC := by omega
  have e5 : q + n - q = n := by omega
  simp only [setH, Hp.upd_upd, go_sem, reduceCtorEq, reduceIte, Nat.reduceEqDiff, Nat.reduceAdd, Nat.reduceLeDiff, b3, n3, b5, n5, nb, h0, h11, hi, hi0, hil', Int.toNat_natCast, hb, d3, hq]
  with_reducible refine callK_same (k36 F _ p c.k) ?_
  simp only [go_sem, reduceIte, Nat.reduceEqDiff, hn, ew, e2, e3, e4, e5, Int.toNat_natCast, hq0]
  have hby' : ∀ z ∈ (x.l.drop q).take n, byteB z = true := fun z hz => hby z (List.mem_of_mem_drop (List.mem_of_mem_take hz))
  have hc7' := RdG.new (e := ⟨y.cs, 83, 5⟩) hcut hF7 hM7
  have kG := k90 F _ p.big p.ptr c.k _ _ ((x.l.drop q).take n) hp (old7 _) hc7' (by rw [hcl]; exact hn1) hby' (fun h => by rw [hcl, hs7 h, hn]; rfl)
  rw [hcl] at kG
  with_reducible refine callK_same kG ?_
  have hro := read_o (big := p.big) (k := c.k) hby' (by rw [hcl]; exact hn1)
  clear kG hc7' hcut hby' hby
  generalize readV p.big c.k ((x.l.drop q).take n) = rv at *
  obtain ⟨s, bad⟩ := rv
  have b5' := blk_upd_ne (F := F) (M := M1) (e := ⟨y.cs, 83, 5⟩) n5
  rw [b5] at b5'
  have hc7 := hc7 ⟨y.cs, 83, 5⟩
  have kp7 := kp7 ⟨y.cs, 83, 5⟩
  have old7 := old7 ⟨y.cs, 83, 5⟩
  generalize M1.upd r7 ⟨y.cs, 83, 5⟩ = M2 at *
  simp only [go_sem, Nat.reduceEqDiff, Nat.reduceAdd]
  intro r8 hF8 hM8
  have n5 := ne_of_blk b5' hF8 hM8
  have hc8 : c.rd F (M2.upd r8 ⟨s.cs, 119, 4⟩) := RdG.new hc7 hF8 hM8
  by_cases hbad : bad = 0
  rotate_left
  · simp only [setH, Hp.upd_upd, go_sem, reduceCtorEq, reduceIte, Nat.reduceEqDiff, Nat.reduceAdd, hbad]
    exact fin _ (by rw [hR, hv]; show (_ || (decide (bad = 0) && _)) = false; rw [decide_eq_false hbad]; rfl) _ (kp7.trans (by repeat' first | exact Keep.refl _ | (refine Keep.new ?_ (by simp only [*]))))
  simp only [setH, Hp.upd_upd, go_sem, reduceIte, Nat.reduceEqDiff, Nat.reduceAdd, hbad, b5', n5]
  with_reducible refine callK_same (k91 F _ c.k c.v (.slice c.lA c.l.length c.lC) c.l s (by unfold Cl.rd at hc8; exact hc8)) ?_
  simp only [go_sem, reduceIte, Nat.reduceEqDiff]
  refine fin _ ?_ _ (kp7.trans (by repeat' first | exact Keep.refl _ | (refine Keep.new ?_ (by simp only [*]))))
  rw [hR, hv]
  show (_ || (decide (bad = 0) && hasB c.k c.v c.l s)) = hasB c.k c.v c.l s
  rw [decide_eq_true hbad]; rfl
end Go.Proofs.Tryz.K
namespace Go.Ax
open Go
set_option linter.unusedVariables false
set_option linter.unusedSimpArgs false
structure FitM (p : Pg) (m : List Bl) : Prop where
  len : m.length = 1 + p.vars.length + p.news.length
  bytes : ∀ i (h : i < m.length), (∀ x ∈ (m[i]).l, byteB x = true) ∧ 0 ≤ (m[i]).st ∧ (m[i]).st ≤ 3 ∧ (m[i]).l.length ≤ 32
  size : ∀ i (h : i < m.length), (m[i]).st = 1 → ((m[i]).l.length : Int) = szAt (sizesL p) i
  dead : ∀ i (h : i < m.length), ¬ (m[i]).st = 1 → (m[i]).l = []
  zero : ∀ h : 0 < m.length, (m[0]).st = 0
  ptrs : ∀ i (h : i < m.length), (m[i]).l.all (ptrIn (sizesL p)) = true
  live : ∀ i (h : i < m.length), 1 ≤ i → i ≤ p.vars.length → (m[i]).st = 1
theorem FitM.of {p : Pg} {m : List Bl} (h : memIn p m = true) : FitM p m := by
  have hl := sizes_len p
  simp only [memIn, Bool.and_eq_true, decide_eq_true_eq] at h
  obtain ⟨⟨h1, h2⟩, h3⟩ := h
  have hb : ∀ i (h : i < m.length), okBlk p.vars.length (sizesL p) i m[i] = true := fun i hi => by
    unfold okAll at h3
    rw [List.all_eq_true] at h3
    have := h3 i (List.mem_range.2 hi)
    simp only [List.getElem?_eq_getElem hi] at this
    exact this
  have hbl : ∀ i (h : i < m.length), blockB m[i] = true := fun i hi => memoryB_block h1 (List.getElem_mem hi)
  refine ⟨by omega, fun i hi => ?_, fun i hi hs => ?_, fun i hi hs => ?_, fun hz => ?_, fun i hi => ?_, fun i hi hi1 hi2 => ?_⟩
  · have := hbl i hi
    simp only [blockB, Bool.and_eq_true, decide_eq_true_eq, List.all_eq_true] at this
    obtain ⟨⟨⟨a, b⟩, c⟩, d⟩ := this
    exact ⟨d, a.1, a.2, b⟩
  · have := hb i hi
    simp only [okBlk, hs, Bool.and_eq_true, Bool.not_eq_true', decide_true, Bool.true_and, Bool.not_eq_false', decide_eq_true_eq] at this
    exact this.1.1
  · have := hbl i hi
    simp only [blockB, Bool.and_eq_true, Bool.or_eq_true, decide_eq_true_eq] at this
    obtain ⟨⟨_, c⟩, _⟩ := this
    rcases c with c | c
    · exact absurd c hs
    · exact List.eq_nil_of_length_eq_zero c
  · simp only [memoryB, Bool.and_eq_true] at h1
    have := of_decide_eq_true h1.1.2
    unfold stAt at this
    rw [List.getElem?_eq_getElem hz] at this
    exact this
  · have := hb i hi
    simp only [okBlk, Bool.and_eq_true] at this
    exact this.2
  · have := hb i hi
    simp only [okBlk, Bool.and_eq_true] at this
    have h4 := this.1.2
    have e1 : (1 : Int) ≤ i := by omega
    have e2 : (i : Int) ≤ p.vars.length := by omega
    simp only [e1, e2, decide_true, Bool.true_and, Bool.and_true, Bool.not_not, decide_eq_true_eq] at h4
    exact h4
structure FitC (p : Pg) (m : List Bl) (c : Pc) : Prop where
  block : 1 ≤ c.b ∧ c.b < m.length
  inside : (blAt m c.b).st = 1 → 0 ≤ c.p ∧ c.p + spanK p.ptr c.k ≤ (blAt m c.b).l.length
  kind : c.k = 0 ∨ c.k = 11 ∨ isS c.k = true
  content : contentB c = true
theorem blAt_get {m : List Bl} {i : Nat} (h : i < m.length) : blAt m (i : Int) = m[i] := by
  unfold blAt; rw [Int.toNat_natCast, List.getElem?_eq_getElem h]; rfl
theorem FitC.of {p : Pg} {m : List Bl} {c : Pc} (hm : FitM p m) (h : cellB p.ptr (sizesL p) c = true) : FitC p m c := by
  have hl := sizes_len p
  have hl2 := hm.len
  simp only [cellB, Bool.and_eq_true, decide_eq_true_eq] at h
  obtain ⟨⟨⟨⟨⟨h1, h2⟩, h3⟩, h4⟩, h5⟩, h6⟩ := h
  refine ⟨by omega, fun hs => ⟨h3, ?_⟩, content_kind h1, h1⟩
  obtain ⟨i, hi⟩ := Int.eq_ofNat_of_zero_le (by omega : 0 ≤ c.b)
  have hil : i < m.length := by omega
  rw [hi] at hs h6 ⊢
  rw [blAt_get hil] at hs ⊢
  have := hm.size i hil hs
  omega
theorem envB_cells {p : Pg} {e : Pe} (h : envB p e = true) (hn : e.no = false) : (∀ c ∈ e.cells, cellB p.ptr (sizesL p) c = true) ∧ e.news.length = p.news.length ∧ e.news.all inB = true ∧ e.cells.length ≤ 200 := by
  unfold envB at h
  rw [if_neg (by rw [hn]; exact Bool.false_ne_true)] at h
  simp only [Bool.and_eq_true, decide_eq_true_eq] at h
  obtain ⟨⟨⟨h1, h2⟩, h3⟩, h4⟩ := h
  refine ⟨fun c hc => ?_, h2, h3, h1⟩
  obtain ⟨i, hi, e1⟩ := List.getElem_of_mem hc
  unfold cellsUp at h4
  rw [List.all_eq_true] at h4
  have := h4 i (List.mem_range.2 hi)
  rw [upAt_get (List.getElem?_eq_getElem hi), e1, Bool.and_eq_true] at this
  exact this.1
end Go.Ax
