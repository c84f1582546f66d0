/- Sets of numbers as the program lays them, and small facts on whole numbers for the walks. -/
import Derived.Test.YtplcaoidiohlmaaAx12
import Derived.RowKit
namespace Go.Ax
open Go
set_option linter.unusedVariables false

@[go_sem] theorem gK_undef {P : Program} {s : Bool} {d : Option Nat} {l : List SO} {K : Env → Fz → Hp → Prop} {σ : Env} {F : Fz} {M : Hp} {w : Bool} {k : SK} :
    gK P s d l K σ F M w k (some undef) = opsW P s l K (put σ d undef) F M := by simp [gK, undef]

/-- A set as it lies: width, none, low, high, free, bits. -/
structure V where
  w : Int
  no : Bool
  low : Int
  high : Int
  free : Int
  bits : Int

instance V.dec : DecidableEq V := fun a b => decidable_of_iff (a.w = b.w ∧ a.no = b.no ∧ a.low = b.low ∧ a.high = b.high ∧ a.free = b.free ∧ a.bits = b.bits) (by
  cases a; cases b; simp)

def V.cs (v : V) : List Value := [.int .i64 v.w, .bool v.no, .int .i64 v.low, .int .i64 v.high, .int .i64 v.free, .int .i64 v.bits]
def V.val (v : V) : Value := .agg v.cs.toArray
def V.zero : V := ⟨0, false, 0, 0, 0, 0⟩

theorem decEq_V (a b : V) : decide (a = b) = (decide (a.w = b.w) && ((a.no == b.no) && (decide (a.low = b.low) && (decide (a.high = b.high) && (decide (a.free = b.free) && (decide (a.bits = b.bits) && true)))))) := by
  apply Bool.eq_iff_iff.2
  cases a; cases b
  simp

@[go_sem] theorem V.fold {a c d e f : Int} {b : Bool} : Value.agg [.int .i64 a, .bool b, .int .i64 c, .int .i64 d, .int .i64 e, .int .i64 f].toArray = V.val ⟨a, b, c, d, e, f⟩ := rfl
@[go_sem] theorem cells_int {k : IntKind} {n : Int} : (Value.int k n).cells = #[.int k n] := rfl
@[go_sem] theorem cells_bool {b : Bool} : (Value.bool b).cells = #[.bool b] := rfl
@[go_sem] theorem cells_slice {a : Option Addr} {n c : Nat} : (Value.slice a n c).cells = #[.slice a n c] := rfl
@[go_sem] theorem cells_ptr {a : Option Addr} : (Value.pointer a).cells = #[.pointer a] := rfl
@[go_sem] theorem cells_str {z : ByteArray} : (Value.string z).cells = #[.string z] := rfl
@[go_sem] theorem cells_agg {cs : Array Value} : (Value.agg cs).cells = cs := rfl
@[go_sem] theorem arr_list {l : List Value} : l.toArray.toList = l := rfl
@[go_sem] theorem V.cells_m {v : V} : Value.cells.match_1 (fun _ => Array Value) v.val (fun cs => cs) (fun u => #[u]) = v.cs.toArray := rfl
@[go_sem] theorem V.cells_val {v : V} : v.val.cells = v.cs.toArray := rfl
@[go_sem] theorem V.cs_size {v : V} : v.cs.toArray.size = 6 := rfl
@[go_sem] theorem V.cs_len {v : V} : v.cs.length = 6 := rfl
@[go_sem] theorem plain_nil : plainCells [] = True := by simp [plainCells]
@[go_sem] theorem plain_int {k : IntKind} {n : Int} {l : List Value} : plainCells (.int k n :: l) = plainCells l := by simp [plainCells, Value.oneCell']
@[go_sem] theorem plain_bool {b : Bool} {l : List Value} : plainCells (.bool b :: l) = plainCells l := by simp [plainCells, Value.oneCell']
@[go_sem] theorem plain_slice {a : Option Addr} {n c : Nat} {l : List Value} : plainCells (.slice a n c :: l) = plainCells l := by simp [plainCells, Value.oneCell']
@[go_sem] theorem plain_ptr {a : Option Addr} {l : List Value} : plainCells (.pointer a :: l) = plainCells l := by simp [plainCells, Value.oneCell']
@[go_sem] theorem plain_str {z : ByteArray} {l : List Value} : plainCells (.string z :: l) = plainCells l := by simp [plainCells, Value.oneCell']
@[go_sem] theorem V.cs_plain {v : V} : plainCells v.cs = True := by
  apply eq_true
  intro u hu
  simp only [V.cs, List.mem_cons, List.not_mem_nil, or_false] at hu
  rcases hu with rfl | rfl | rfl | rfl | rfl | rfl <;> rfl
@[go_sem] theorem V.take6 {v : V} : v.cs.take 6 = v.cs := rfl
@[go_sem] theorem V.fold2 {v : V} : Value.agg v.cs.toArray = v.val := rfl
@[go_sem] theorem V.take0 {v : V} : v.cs.take 0 = [] := rfl
@[go_sem] theorem V.drop6 {v : V} : v.cs.drop 6 = [] := rfl
@[go_sem] theorem drop_six {a b c d e f : Value} : [a, b, c, d, e, f].drop 6 = [] := rfl
@[go_sem] theorem drop_two {a b : Value} : [a, b].drop 2 = [] := rfl
@[go_sem] theorem no_flags {p : Nat → Prop} : (∀ t ∈ ([] : List Nat), p t) = True := by simp
@[go_sem] theorem V.get0 {v : V} : v.cs[0]? = some (.int .i64 v.w) := rfl
@[go_sem] theorem V.get1 {v : V} : v.cs[1]? = some (.bool v.no) := rfl
@[go_sem] theorem V.get2 {v : V} : v.cs[2]? = some (.int .i64 v.low) := rfl
@[go_sem] theorem V.get3 {v : V} : v.cs[3]? = some (.int .i64 v.high) := rfl
@[go_sem] theorem V.get4 {v : V} : v.cs[4]? = some (.int .i64 v.free) := rfl
@[go_sem] theorem V.get5 {v : V} : v.cs[5]? = some (.int .i64 v.bits) := rfl
@[go_sem] theorem V.ld {v : V} : rd true 6 v.cs 0 = some v.val := rfl
@[go_sem] theorem V.ld0 {v : V} : rd false 1 v.cs 0 = some (.int .i64 v.w) := rfl
@[go_sem] theorem V.ld1 {v : V} : rd false 1 v.cs 1 = some (.bool v.no) := rfl
@[go_sem] theorem V.ld2 {v : V} : rd false 1 v.cs 2 = some (.int .i64 v.low) := rfl
@[go_sem] theorem V.ld3 {v : V} : rd false 1 v.cs 3 = some (.int .i64 v.high) := rfl
@[go_sem] theorem V.ld4 {v : V} : rd false 1 v.cs 4 = some (.int .i64 v.free) := rfl
@[go_sem] theorem V.ld5 {v : V} : rd false 1 v.cs 5 = some (.int .i64 v.bits) := rfl
attribute [go_sem] List.getElem?_toArray List.getElem?_cons_zero List.getElem?_cons_succ List.size_toArray List.drop_succ_cons List.drop_zero List.take_succ_cons List.cons_append List.nil_append List.append_nil List.take_zero and_self Nat.le_refl List.length_cons List.length_nil
@[go_sem] theorem eqV_V (a b : V) : eqV (.st [(false, 0, 1, .i), (false, 1, 1, .b), (false, 2, 1, .i), (false, 3, 1, .i), (false, 4, 1, .i), (false, 5, 1, .i)]) a.val b.val = some (decide (a = b)) := by
  rw [decEq_V]
  simp [eqV, eqFs, V.val, V.cs, rd]

theorem fresh_of {M : Hp} {r b : Nat} {e : Ent} (h : (M.upd b e) r = none) : ¬ r = b ∧ ¬ b = r ∧ M r = none := by
  rw [upd_none] at h
  exact ⟨h.1, fun e => h.1 e.symm, h.2⟩
theorem w64 {n : Int} (h1 : -9223372036854775808 ≤ n) (h2 : n ≤ 9223372036854775807) : IntKind.i64.wrap n = n := by rw [IntKind.wrap_i64]; omega
attribute [go_sem] w64 Nat.zero_add Bool.not_false Bool.not_true decide_true decide_false and_true true_and or_true true_or or_false false_or and_false false_and Int.cast_ofNat_Int Bool.false_and Bool.true_and Bool.and_true Bool.and_false Bool.false_or Bool.true_or Bool.or_false Bool.or_true Bool.xor_self Bool.false_xor Bool.true_xor Bool.xor_true Bool.xor_false
theorem shl1 {j : Int} (h1 : 0 ≤ j) (h2 : j ≤ 62) : shlv .i64 1 j = 2 ^ j.toNat := by
  unfold shlv
  have e : min j.toNat IntKind.i64.bits = j.toNat := by simp [IntKind.bits]; omega
  rw [e, Int.one_mul]
  have h3 : (2 : Nat) ^ j.toNat ≤ 2 ^ 62 := Nat.pow_le_pow_right (by decide) (by omega)
  have h4 : ((2 ^ j.toNat : Nat) : Int) ≤ ((2 ^ 62 : Nat) : Int) := Int.ofNat_le.2 h3
  have h5 : ((2 ^ j.toNat : Nat) : Int) = (2 : Int) ^ j.toNat := by simp
  rw [h5] at h4
  have h6 : (0 : Int) ≤ 2 ^ j.toNat := by rw [← h5]; exact Int.natCast_nonneg _
  exact w64 (by omega) (Int.le_trans h4 (by decide))
def mostV (w : Int) : Int := 2 ^ w.toNat - 1
theorem pow_le62 {w : Int} (h1 : w ≤ 62) : (2 : Int) ^ w.toNat ≤ 4611686018427387904 ∧ 1 ≤ (2 : Int) ^ w.toNat := by
  have h3 : (2 : Nat) ^ w.toNat ≤ 2 ^ 62 := Nat.pow_le_pow_right (by decide) (by omega)
  have h4 : ((2 ^ w.toNat : Nat) : Int) ≤ ((2 ^ 62 : Nat) : Int) := Int.ofNat_le.2 h3
  have h5 : ((2 ^ w.toNat : Nat) : Int) = (2 : Int) ^ w.toNat := by simp
  have h6 : 1 ≤ 2 ^ w.toNat := Nat.one_le_two_pow
  have h7 : ((1 : Nat) : Int) ≤ ((2 ^ w.toNat : Nat) : Int) := Int.ofNat_le.2 h6
  rw [h5] at h4 h7
  exact ⟨Int.le_trans h4 (by decide), h7⟩
theorem most_wrap {w : Int} (h0 : 0 ≤ w) (h1 : w ≤ 62) : IntKind.i64.wrap (2 ^ w.toNat - 1) = mostV w := by
  have := pow_le62 h1
  exact w64 (by omega) (by omega)
def isW (w : Int) : Bool := decide (w = 8) || decide (w = 16) || decide (w = 32)
def isN (n w : Int) : Bool := decide (0 ≤ n) && decide (n ≤ mostV w)
def V.ok (v : V) : Bool := isW v.w && (if v.no then decide (v = ⟨v.w, true, 0, 0, 0, 0⟩) else isN v.low v.w && isN v.high v.w && isN v.free v.w && isN v.bits v.w && decide (band .i64 v.bits v.free = 0))
def V.within (v : V) (n : Int) : Bool := if v.low ≤ v.high then decide (v.low ≤ n) && decide (n ≤ v.high) else decide (v.low ≤ n) || decide (n ≤ v.high)
def V.has (v : V) (n : Int) : Bool := !v.no && decide (bclr .i64 n v.free = v.bits) && v.within n
def V.nothing (w : Int) : V := ⟨w, true, 0, 0, 0, 0⟩
def V.whole (w : Int) : V := ⟨w, false, 0, mostV w, mostV w, 0⟩
def V.just (w n : Int) : V := ⟨w, false, n, n, 0, n⟩
def V.matchStep (v : V) (n : Int) (j : Nat) : Option Int :=
  if shrv .i64 (bxor .i64 (bclr .i64 n v.free) v.bits) (j + 1) = 0 ∧ band .i64 (shrv .i64 n j) 1 = 0 ∧ (band .i64 (shrv .i64 v.free j) 1 = 1 ∨ band .i64 (shrv .i64 v.bits j) 1 = 1) then
    some (bor .i64 (bor .i64 (shlv .i64 (shrv .i64 n (j + 1)) (j + 1)) (2 ^ j)) (band .i64 v.bits (2 ^ j - 1)))
  else none
def V.matchGo (v : V) (n : Int) : Nat → Nat → Int
  | 0, _ => -1
  | f + 1, j => match v.matchStep n j with | some x => x | none => V.matchGo v n f (j + 1)
/-- The least number not below n whose fixed bits are right, as the page finds it. -/
def V.matchF (v : V) (n : Int) : Int := if bclr .i64 n v.free = v.bits then n else v.matchGo n v.w.toNat 0
def V.fillStep (v : V) (n : Int) (j : Nat) : Option Int :=
  if band .i64 n (2 ^ j) = 0 ∧ bclr .i64 (bclr .i64 (bor .i64 (bclr .i64 n (2 ^ j - 1)) (2 ^ j)) v.free) (2 ^ j - 1) = bclr .i64 v.bits (2 ^ j - 1) then
    some (bor .i64 (bor .i64 (bclr .i64 n (2 ^ j - 1)) (2 ^ j)) (band .i64 v.bits (2 ^ j - 1)))
  else none
def V.fillGo (v : V) (n : Int) : Nat → Nat → Int
  | 0, _ => -1
  | f + 1, j => match v.fillStep n j with | some x => x | none => V.fillGo v n f (j + 1)
/-- The least number not below n whose fixed bits are right, as the program finds it. -/
def V.fillF (v : V) (n : Int) : Int := if bclr .i64 n v.free = v.bits then n else v.fillGo n v.w.toNat 0
def mx (a b : Int) : Int := if b > a then b else a
def V.p0 (v : V) : Int × Int := if v.low ≤ v.high then (v.low, v.high) else (0, v.high)
def V.p1 (v : V) : Int × Int := if v.low ≤ v.high then (0, -1) else (v.low, mostV v.w)
def V.tryP (v : V) (n : Int) (p : Int × Int) : Option Int :=
  if p.2 < mx n p.1 then none else if 0 ≤ v.matchF (mx n p.1) ∧ v.matchF (mx n p.1) ≤ p.2 then some (v.matchF (mx n p.1)) else none
/-- The next member, as the page finds it. -/
def V.nextR (v : V) (n : Int) : Int := if v.no = true ∨ 2 ^ v.w.toNat ≤ n then -1 else (v.tryP n v.p0).getD ((v.tryP n v.p1).getD (-1))
theorem maxV_two {a b : Int} : maxV a [.int .i64 b] = some (mx a b) := rfl
attribute [go_sem] maxV_two
theorem fieldOf {c : List Value} {i : Nat} {v : Value} (h : c[i]? = some v) : rd false 1 c i = some v := h
end Go.Ax
