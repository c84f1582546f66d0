/- Parts K20to24: the machine's runs of small codes, contracts of functions, plain facts. -/
import Derived.Test.YtlcjihpdkdngkabGreatProg
import Derived.Test.YtlcjihpdkdngkabGreatK17to19
namespace Go.Proofs.Tryz.S
open Go Go.Ax Go.Ax.N
set_option maxRecDepth 100000

/-- cellar/val.Span -/
def c67 : SF := ⟨19, [.c true 6 6], (.seq (.ops [k 6 (.al 30 [.int .i64 0, .bool false, .int .i64 0, .int .i64 0, .int .i64 0, .int .i64 0])])
 (.seq (.seq (.ops [o 7 (.mv (t 1)),
 o 8 (.mv (t 2)),
 o 9 (.bin .eql (t 7) (t 8))])
 (.cond (t 9)
 (.seq (.ops [o 10 (.mv (t 0)),
 o 11 (.mv (t 1)),
 k 12 (.ca (.func 76) [(t 10), (t 11)]),
 kn (.st [] 6 (t 6) (t 12))])
 .ret)
 .skip))
 (.seq (.ops [o 13 (.mv (t 0)),
 o 14 (.mv (t 1)),
 o 15 (.mv (t 2)),
 o 16 (.mv (t 0)),
 k 17 (.ca (.func 65) [(t 16)]),
 o 18 (.bd [.int .i64 0, .bool false, .int .i64 0, .int .i64 0, .int .i64 0, .int .i64 0] [(0, 1, (t 13)), (2, 1, (t 14)), (3, 1, (t 15)), (4, 1, (t 17))]),
 kn (.st [] 6 (t 6) (t 18))])
 .ret)))⟩
theorem e67 : slimF Tryz.prog Tryz.f67 [] = some c67 := by kernel_rfl
end Go.Proofs.Tryz.S
/- Contracts: ranges, the rows that a set grows to. -/
namespace Go.Proofs.Tryz.K
open Go Go.Ax Go.Proofs.Tryz.S
set_option maxRecDepth 100000
set_option linter.unusedSimpArgs false
set_option linter.unusedVariables false
variable (F : Fz) (M : Hp)

theorem k67 (w l h : Int) (h0 : 0 ≤ w) (h1 : w ≤ 62) : CallsA Tryz.prog 67 [.int .i64 w, .int .i64 l, .int .i64 h] F M (Same F M (V.span w l h).val) := by
  refine callsA_of hm Tryz.func67 e67 (Nat.le_of_ble_eq_true rfl) ?_
  simp only [c67, go_sem, reduceCtorEq, reduceIte, Nat.reduceEqDiff, Nat.reduceAdd, Nat.reduceLeDiff, Nat.reduceMul, Int.reduceLT, Int.reduceLE, Int.reduceAdd, Int.reduceSub, Int.reduceMul, Int.reduceNeg, Int.reduceToNat, Int.reduceEq]
  intro r hF hM
  by_cases e : l = h
  · subst e
    simp only [go_sem, reduceCtorEq, reduceIte, Nat.reduceEqDiff, Nat.reduceAdd, Nat.reduceLeDiff, Nat.reduceMul, Int.reduceLT, Int.reduceLE, Int.reduceAdd, Int.reduceSub, Int.reduceMul, Int.reduceNeg, Int.reduceToNat, Int.reduceEq]
    refine callK_same (k76 F _ w l) ?_
    simp only [go_sem, reduceCtorEq, reduceIte, Nat.reduceEqDiff, Nat.reduceAdd, Nat.reduceLeDiff, Nat.reduceMul, Int.reduceLT, Int.reduceLE, Int.reduceAdd, Int.reduceSub, Int.reduceMul, Int.reduceNeg, Int.reduceToNat, Int.reduceEq]
    exact endK_drop hM (endK_same ⟨by rw [V.span, if_pos rfl], rfl, rfl⟩)
  · simp only [go_sem, reduceCtorEq, reduceIte, Nat.reduceEqDiff, Nat.reduceAdd, Nat.reduceLeDiff, Nat.reduceMul, Int.reduceLT, Int.reduceLE, Int.reduceAdd, Int.reduceSub, Int.reduceMul, Int.reduceNeg, Int.reduceToNat, Int.reduceEq, e]
    refine callK_same (k65 F _ w h0 h1) ?_
    simp only [go_sem, reduceCtorEq, reduceIte, Nat.reduceEqDiff, Nat.reduceAdd, Nat.reduceLeDiff, Nat.reduceMul, Int.reduceLT, Int.reduceLE, Int.reduceAdd, Int.reduceSub, Int.reduceMul, Int.reduceNeg, Int.reduceToNat, Int.reduceEq]
    exact endK_drop hM (endK_same ⟨by rw [V.span, if_neg e], rfl, rfl⟩)

theorem shlm {j : Int} (h1 : 0 ≤ j) (h2 : j ≤ 62) : shlv .i64 (-1) j = -(2 ^ j.toNat) := by
  have hp := pow_le62 (w := j) h2
  unfold shlv
  have e : min j.toNat IntKind.i64.bits = j.toNat := by simp [IntKind.bits]; omega
  rw [e]
  have e2 : (-1 : Int) * ((2 ^ j.toNat : Int)) = -(2 ^ j.toNat) := by omega
  rw [e2]
  exact w64 (by omega) (by omega)
theorem growNs_lt {i : Nat} (h : i < 7) : 4 ≤ growNs.getD i 0 ∧ growNs.getD i 0 ≤ 32 ∧ growNs[i]? = some (growNs.getD i 0) := by
  have : ∀ i, i < 7 → 4 ≤ growNs.getD i 0 ∧ growNs.getD i 0 ≤ 32 ∧ growNs[i]? = some (growNs.getD i 0) := by decide
  exact this i h
theorem growK_at {w : Int} (h : isW w = true) {i : Nat} (hi : i < 7) (hk : i ≤ growK w) : (w ≤ growNs.getD i 0 → i = growK w) ∧ (growNs.getD i 0 < w → i + 1 ≤ growK w) := by
  have a : ∀ i, i < 7 → i ≤ growK 8 → ((8 : Int) ≤ growNs.getD i 0 → i = growK 8) ∧ (growNs.getD i 0 < 8 → i + 1 ≤ growK 8) := by decide
  have b : ∀ i, i < 7 → i ≤ growK 16 → ((16 : Int) ≤ growNs.getD i 0 → i = growK 16) ∧ (growNs.getD i 0 < 16 → i + 1 ≤ growK 16) := by decide
  have c : ∀ i, i < 7 → i ≤ growK 32 → ((32 : Int) ≤ growNs.getD i 0 → i = growK 32) ∧ (growNs.getD i 0 < 32 → i + 1 ≤ growK 32) := by decide
  rcases isW_cases h with rfl | rfl | rfl
  · exact a i hi hk
  · exact b i hi hk
  · exact c i hi hk
theorem growK_le (w : Int) : growK w ≤ 6 := by unfold growK; split; omega; split <;> omega
theorem growL_len (w : Int) : ∀ k, (growL w k).length = 2 * k
  | 0 => rfl
  | k + 1 => by simp [growL, growL_len w k, stepPair]; omega

def stepsR (w : Int) (F : Fz) (M : Hp) (u : Value) (F' : Fz) (M' : Hp) : Prop :=
  F' = F ∧ ∃ g cap, F g = none ∧ M g = none ∧ u = .slice (some ⟨g, 0, none⟩) (growSteps w).length cap ∧ M' = M.upd g ⟨(growSteps w).flatMap V.cs, 30, cap * 6⟩
def stI (w : Int) (F0 : Fz) (M0 : Hp) (r5 : Nat) (m : Nat) (σ : Env) (F : Fz) (M : Hp) : Prop :=
  F = F0 ∧ Keep M0 M ∧ M0 r5 = none ∧ M r5 = some ⟨growNs.map intV, 3, 7⟩ ∧ Ax.look σ 0 = some (.int .i64 w) ∧ Ax.look σ 5 = some (.slice (some ⟨r5, 0, none⟩) 7 7) ∧ Ax.look σ 6 = some (.int .i64 7) ∧
  ∃ i : Nat, i + m = 7 ∧ Ax.look σ 7 = some (.int .i64 i) ∧ i ≤ growK w ∧ ∃ sl, Ax.look σ 2 = some sl ∧ OwnV 30 F M sl (growL w i) ∧ (∀ g c, sl = .slice (some ⟨g, 0, none⟩) (growL w i).length c → M0 g = none ∧ ¬ r5 = g)
end Go.Proofs.Tryz.K

/- Contracts: growing. -/
namespace Go.Proofs.Tryz.K
open Go Go.Ax Go.Proofs.Tryz.S
set_option maxRecDepth 100000
set_option linter.unusedSimpArgs false
set_option linter.unusedVariables false
variable (F : Fz) (M : Hp)

def ouI (a b : V) (l : List V) (F0 : Fz) (M0 : Hp) (ra rb rz g cap : Nat) (m : Nat) (σ : Env) (F : Fz) (M : Hp) : Prop :=
  F = F0 ∧ Keep M0 M ∧ M0 rz = none ∧ M ra = some ⟨a.cs, 30, 6⟩ ∧ M rb = some ⟨b.cs, 30, 6⟩ ∧ M rz = some ⟨V.zero.cs, 30, 6⟩ ∧ blk F0 M g = some (l.flatMap V.cs) ∧ M g ≠ none ∧
  Ax.look σ 2 = some (.pointer (some ⟨ra, 0, none⟩)) ∧ Ax.look σ 3 = some (.pointer (some ⟨rb, 0, none⟩)) ∧ Ax.look σ 4 = some (.pointer (some ⟨rz, 0, none⟩)) ∧
  Ax.look σ 18 = some (.slice (some ⟨g, 0, none⟩) l.length cap) ∧ Ax.look σ 19 = some (.int .i64 l.length) ∧
  ∃ i : Nat, i + m = l.length ∧ Ax.look σ 20 = some (.int .i64 i) ∧ (l.find? (fun x => a.under x && b.under x) = (l.drop i).find? (fun x => a.under x && b.under x))
theorem steps_few {w : Int} (h : isW w = true) : (growSteps w).length ≤ 13 := by
  rcases isW_cases h with rfl | rfl | rfl <;> decide +kernel
end Go.Proofs.Tryz.K

/- Contracts: whether rows of sets may be; what a set grows to, asked. -/
namespace Go.Proofs.Tryz.K
open Go Go.Ax Go.Proofs.Tryz.S
set_option maxRecDepth 100000
set_option linter.unusedSimpArgs false
set_option linter.unusedVariables false
variable (F : Fz) (M : Hp)

def ixI (l : List V) (p : V → Bool) (u f : Value) (F0 : Fz) (M0 : Hp) (m : Nat) (σ : Env) (F : Fz) (M : Hp) : Prop :=
  F = F0 ∧ M = M0 ∧ Ax.look σ 0 = some u ∧ Ax.look σ 1 = some f ∧ Ax.look σ 7 = some (.int .i64 l.length) ∧ ∃ i : Nat, i + m = l.length ∧ Ax.look σ 8 = some (.int .i64 i) ∧ l.any p = (l.drop i).any p
/-- May a row be, all of one width? -/
def askedB (v0 : V) (l : List V) : Bool := (v0 :: l).all fun v => v.ok && decide (v.w = v0.w)
theorem any_asked (v0 : V) (l : List V) : (!(v0 :: l).any fun v => !v.ok || !decide (v.w = v0.w)) = askedB v0 l := by
  unfold askedB
  rw [List.not_any_eq_all_not]
  congr 1
  funext v
  simp
end Go.Proofs.Tryz.K

/- Contracts: growing by a row. -/
namespace Go.Proofs.Tryz.K
open Go Go.Ax Go.Proofs.Tryz.S
set_option maxRecDepth 100000
set_option linter.unusedSimpArgs false
set_option linter.unusedVariables false
variable (F : Fz) (M : Hp)

def roI (v0 : V) (l : List V) (F0 : Fz) (M0 : Hp) (r2 r4 b cap : Nat) (ad : Option Addr) (cs : List Value) (m : Nat) (σ : Env) (F : Fz) (M : Hp) : Prop :=
  F = F0 ∧ Keep M0 M ∧ M0 r4 = none ∧ M0 r2 = none ∧ ¬ r2 = r4 ∧ ¬ b = r4 ∧ blk F0 M b = some cs ∧ M r2 = some ⟨V.zero.cs, 30, 6⟩ ∧
  Ax.look σ 2 = some (.pointer (some ⟨r2, 0, none⟩)) ∧ Ax.look σ 4 = some (.pointer (some ⟨r4, 0, none⟩)) ∧ Ax.look σ 13 = some (.slice ad l.length cap) ∧ Ax.look σ 14 = some (.int .i64 l.length) ∧
  ∃ (i n : Nat) (v : V), i + m = l.length ∧ Ax.look σ 15 = some (.int .i64 i) ∧ Ax.look σ 5 = some (.int .i64 n) ∧ M r4 = some ⟨v.cs, 30, 6⟩ ∧ v.ok = true ∧ v.w = v0.w ∧ n ≤ i ∧
    v0.rows l = ((v.rows (l.drop i)).1, n + (v.rows (l.drop i)).2)
end Go.Proofs.Tryz.K

/- Contracts: growing by a row, asked; itself. -/
namespace Go.Proofs.Tryz.K
open Go Go.Ax Go.Proofs.Tryz.S
set_option maxRecDepth 100000
set_option linter.unusedSimpArgs false
set_option linter.unusedVariables false
variable (F : Fz) (M : Hp)

theorem asked_iff {v0 : V} {l : List V} (h : askedB v0 l = true) : v0.ok = true ∧ ∀ x ∈ l, x.ok = true ∧ x.w = v0.w := by
  unfold askedB at h
  rw [List.all_eq_true] at h
  refine ⟨?_, fun x hx => ?_⟩
  · have := h v0 (by simp)
    simpa using this
  · have := h x (by simp [hx])
    simpa using this
def rowA (l : List V) : Value := match l with
  | [] => .tuple #[V.zero.val, .int .i64 1]
  | v0 :: l => if askedB v0 l then .tuple #[(v0.rows l).1.val, .int .i64 0] else .tuple #[V.zero.val, .int .i64 1]
def stepsA (l : List V) : Value := match l with
  | [] => .tuple #[.int .i64 0, .int .i64 1]
  | v0 :: l => if askedB v0 l then .tuple #[.int .i64 (v0.rows l).2, .int .i64 0] else .tuple #[.int .i64 0, .int .i64 1]
theorem wide38 : (if V.pair (V.just 8 3) (V.just 8 3) then Value.tuple #[((V.just 8 3).out (V.just 8 3)).val, .int .i64 0] else .tuple #[V.zero.val, .int .i64 1]) = .tuple #[(V.just 8 3).val, .int .i64 0] := by
  have e1 : V.pair (V.just 8 3) (V.just 8 3) = true := by decide +kernel
  have e2 : (V.just 8 3).out (V.just 8 3) = V.just 8 3 := by decide +kernel
  rw [if_pos e1, e2]
theorem steps38 : stepsA [V.just 8 3, V.just 8 3, V.just 8 3] = .tuple #[.int .i64 0, .int .i64 0] := by
  have e1 : askedB (V.just 8 3) [V.just 8 3, V.just 8 3] = true := by decide +kernel
  have e2 : ((V.just 8 3).rows [V.just 8 3, V.just 8 3]).2 = 0 := by decide +kernel
  simp only [stepsA]
  rw [if_pos e1, e2]; rfl
end Go.Proofs.Tryz.K
