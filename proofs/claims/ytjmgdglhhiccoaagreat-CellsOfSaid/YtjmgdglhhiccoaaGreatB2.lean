/- Parts B2: the machine's runs of small codes, contracts of functions, plain facts. -/
import Derived.Test.YtjmgdglhhiccoaaGreatB1
namespace Go.Ax
open Go
section
variable {P : Program} {s : Bool} {d : Option Nat} {l : List SO} {K : Env → Fz → Hp → Prop} {σ : Env} {F : Fz} {M : Hp} {c : SC} {Q : Post}
def cutQ (I : Env → Fz → Hp → Prop) (Q : Post) : Post
  | .n => I
  | x => Q x
@[go_sem] theorem cut_n {I : Env → Fz → Hp → Prop} : cutQ I Q .n σ F M = I σ F M := rfl
@[go_sem] theorem cut_r {I : Env → Fz → Hp → Prop} : cutQ I Q .r σ F M = Q .r σ F M := rfl
@[go_sem] theorem cut_e {I : Env → Fz → Hp → Prop} {i : Nat} : cutQ I Q (.e i) σ F M = Q (.e i) σ F M := rfl
theorem cut {a b : SC} (I : Env → Fz → Hp → Prop) (h : W P a (cutQ I (Post.andThen (W P b Q) Q)) σ F M) (hn : ∀ σ F M, I σ F M → W P b Q σ F M) : W P (.seq a b) Q σ F M := by
  rw [W_seq]
  exact W_mono (fun x σ F M hx => by
    cases x
    · exact hn _ _ _ hx
    · exact hx
    · exact hx) h
end
end Go.Ax
namespace Go.Ax
open Go
set_option linter.unusedVariables false
set_option linter.unusedSimpArgs false
theorem isW_cases {w : Int} (h : isW w = true) : w = 8 ∨ w = 16 ∨ w = 32 := by
  simp [isW] at h; omega
attribute [go_sem] Option.map_none
theorem blk_ne {F : Fz} {M : Hp} {b r : Nat} {c : List Value} (h : blk F M b = some c) (hF : F r = none) (hM : M r = none) : ¬ b = r := by
  rintro rfl; simp [blk, hM, hF] at h
end Go.Ax
namespace Go.Ax
open Go
set_option linter.unusedVariables false
set_option linter.unusedSimpArgs false
def isK (k : Int) : Bool := decide (1 ≤ k) && decide (k ≤ 6)
def ofW (k : Int) : Int := if k ≤ 2 then 8 else if k ≤ 4 then 16 else 32
def sgn (k : Int) : Bool := decide (k = 2) || decide (k = 4) || decide (k = 6)
def wK (k : Int) : Int := if isK k then ofW k else 0
def halfV (w : Int) : Int := 2 ^ (w - 1).toNat
def lookV (n w : Int) : Int := if halfV w ≤ n then n - 2 ^ w.toNat else n
def seenV (k n : Int) : Int := if sgn k then lookV n (ofW k) else n
def leastK (k : Int) : Int := if sgn k then -(halfV (ofW k)) else 0
def mostK (k : Int) : Int := if sgn k then halfV (ofW k) - 1 else mostV (ofW k)
theorem isK_cases {k : Int} (h : isK k = true) : k = 1 ∨ k = 2 ∨ k = 3 ∨ k = 4 ∨ k = 5 ∨ k = 6 := by
  simp [isK] at h; omega
theorem ofW_isW (k : Int) : isW (ofW k) = true := by
  unfold ofW; split
  · rfl
  · split <;> rfl
theorem pow_w {w : Int} (h : isW w = true) : w = 8 ∧ (2 : Int) ^ w.toNat = 256 ∧ mostV w = 255 ∧ halfV w = 128 ∨ w = 16 ∧ (2 : Int) ^ w.toNat = 65536 ∧ mostV w = 65535 ∧ halfV w = 32768 ∨
    w = 32 ∧ (2 : Int) ^ w.toNat = 4294967296 ∧ mostV w = 4294967295 ∧ halfV w = 2147483648 := by
  rcases isW_cases h with rfl | rfl | rfl
  · exact .inl (by decide)
  · exact .inr (.inl (by decide))
  · exact .inr (.inr (by decide))
structure SeenR (k : Int) (v : V) (lo hi : Int) : Prop where
  all : ∀ n, 0 ≤ n → n ≤ mostV v.w → v.has n = true → lo ≤ seenV k n ∧ seenV k n ≤ hi
  low : ∃ n, 0 ≤ n ∧ n ≤ mostV v.w ∧ v.has n = true ∧ seenV k n = lo
  high : ∃ n, 0 ≤ n ∧ n ≤ mostV v.w ∧ v.has n = true ∧ seenV k n = hi
end Go.Ax
namespace Go.Proofs.Tryz.K
open Go Go.Ax Go.Proofs.Tryz.S
set_option maxRecDepth 100000
set_option linter.unusedSimpArgs false
set_option linter.unusedVariables false
variable (F : Fz) (M : Hp)
theorem k102 (k : Int) : CallsA Tryz.prog 102 [.int .i64 k] F M (Same F M (.bool (isK k))) := by
  refine callsA_of hm Tryz.func102 e102 (Nat.le_of_ble_eq_true rfl) ?_
  by_cases h1 : 1 ≤ k
  · by_cases h2 : k ≤ 6
    · simp only [c102, go_sem, reduceCtorEq, reduceIte, Nat.reduceEqDiff, h1, h2]
      exact endK_same ⟨by simp [isK, h1, h2], rfl, rfl⟩
    · simp only [c102, go_sem, reduceCtorEq, reduceIte, Nat.reduceEqDiff, h1, h2]
      exact endK_same ⟨by simp [isK, h1, h2], rfl, rfl⟩
  · simp only [c102, go_sem, reduceCtorEq, reduceIte, Nat.reduceEqDiff, h1]
    exact endK_same ⟨by simp [isK, h1], rfl, rfl⟩
theorem k112 (k : Int) (hk : isK k = true) : CallsA Tryz.prog 112 [.int .i64 k] F M (Same F M (.int .i64 (ofW k))) := by
  refine callsA_of hm Tryz.func112 e112 (Nat.le_of_ble_eq_true rfl) ?_
  have q0 : (0 : Int).tdiv 2 = 0 := by decide
  have q1 : (1 : Int).tdiv 2 = 0 := by decide
  have q2 : (2 : Int).tdiv 2 = 1 := by decide
  have q3 : (3 : Int).tdiv 2 = 1 := by decide
  have q4 : (4 : Int).tdiv 2 = 2 := by decide
  have q5 : (5 : Int).tdiv 2 = 2 := by decide
  have w0 : IntKind.i64.wrap 0 = 0 := by decide
  have w1 : IntKind.i64.wrap 1 = 1 := by decide
  have w2 : IntKind.i64.wrap 2 = 2 := by decide
  have w3 : IntKind.i64.wrap 3 = 3 := by decide
  have w4 : IntKind.i64.wrap 4 = 4 := by decide
  have w5 : IntKind.i64.wrap 5 = 5 := by decide
  have s0 : shlv .i64 8 0 = 8 := by decide +kernel
  have s1 : shlv .i64 8 1 = 16 := by decide +kernel
  have s2 : shlv .i64 8 2 = 32 := by decide +kernel
  have n2 : ¬ (2 : Int) = 0 := by decide
  rcases isK_cases hk with rfl | rfl | rfl | rfl | rfl | rfl <;>
    simp only [c112, go_sem, reduceCtorEq, reduceIte, Int.reduceLT, Int.reduceSub, w0, w1, w2, w3, w4, w5, q0, q1, q2, q3, q4, q5, s0, s1, s2, n2, not_false_eq_true, Int.sub_self] <;>
    exact endK_same ⟨rfl, rfl, rfl⟩
theorem k51 (k : Int) : CallsA Tryz.prog 51 [.int .i64 k] F M (Same F M (.int .i64 (wK k))) := by
  refine callsA_of hm Tryz.func51 e51 (Nat.le_of_ble_eq_true rfl) ?_
  by_cases h : isK k = true
  · rcases isK_cases h with rfl | rfl | rfl | rfl | rfl | rfl <;>
      simp only [c51, go_sem, reduceCtorEq, reduceIte, Nat.reduceEqDiff, Int.reduceEq] <;>
      exact endK_same ⟨rfl, rfl, rfl⟩
  · have hn : ¬ k = 1 ∧ ¬ k = 2 ∧ ¬ k = 3 ∧ ¬ k = 4 ∧ ¬ k = 5 ∧ ¬ k = 6 := by simp [isK] at h; omega
    simp only [c51, go_sem, reduceCtorEq, reduceIte, Nat.reduceEqDiff, hn]
    exact endK_same ⟨by simp [wK, h], rfl, rfl⟩
theorem wK_of {k : Int} (h : isK k = true) : wK k = ofW k := by simp [wK, h]
end Go.Proofs.Tryz.K
namespace Go.Ax
open Go
set_option linter.unusedVariables false
theorem blk_keep {F : Fz} {M M' : Hp} {b : Nat} {c : List Value} (h : blk F M b = some c) (kp : Keep M M') (hold : Old F M') : blk F M' b = some c := by
  unfold blk at h
  cases hm : M b with
  | some e => rw [hm] at h; rw [blk_M (kp _ _ hm)]; exact h
  | none => rw [hm] at h; exact hold.blk h
theorem Old.free {F : Fz} {M : Hp} (h : Old F M) {b : Nat} {e : Ent} (hb : M b = some e) : F b = none := by
  cases hf : F b with
  | none => rfl
  | some c => have := h b (by rw [hf]; simp); rw [hb] at this; cases this
end Go.Ax
namespace Go.Ax
open Go
set_option linter.unusedVariables false
set_option linter.unusedSimpArgs false
structure Sc where
  p : Bool
  n : Int
  b : Int
  o : Int
instance Sc.dec : DecidableEq Sc := fun x y => decidable_of_iff (x.p = y.p ∧ x.n = y.n ∧ x.b = y.b ∧ x.o = y.o) (by cases x; cases y; simp)
def Sc.cs (s : Sc) : List Value := [.bool s.p, .int .i64 s.n, .int .i64 s.b, .int .i64 s.o]
def Sc.val (s : Sc) : Value := .agg s.cs.toArray
@[go_sem] theorem Sc.fold {p : Bool} {n b o : Int} : Value.agg [.bool p, .int .i64 n, .int .i64 b, .int .i64 o].toArray = Sc.val ⟨p, n, b, o⟩ := rfl
@[go_sem] theorem Sc.fold2 {s : Sc} : Value.agg s.cs.toArray = s.val := rfl
@[go_sem] theorem Sc.cells_m {s : Sc} : Value.cells.match_1 (fun _ => Array Value) s.val (fun cs => cs) (fun u => #[u]) = s.cs.toArray := rfl
@[go_sem] theorem Sc.cells_val {s : Sc} : s.val.cells = s.cs.toArray := rfl
@[go_sem] theorem Sc.cs_size {s : Sc} : s.cs.toArray.size = 4 := rfl
@[go_sem] theorem Sc.cs_len {s : Sc} : s.cs.length = 4 := rfl
@[go_sem] theorem Sc.cs_plain {s : Sc} : plainCells s.cs = True := by
  apply eq_true
  intro u hu
  simp only [Sc.cs, List.mem_cons, List.not_mem_nil, or_false] at hu
  rcases hu with rfl | rfl | rfl | rfl <;> rfl
@[go_sem] theorem Sc.take4 {s : Sc} : s.cs.take 4 = s.cs := rfl
@[go_sem] theorem Sc.take0 {s : Sc} : s.cs.take 0 = [] := rfl
@[go_sem] theorem Sc.drop4 {s : Sc} : s.cs.drop 4 = [] := rfl
@[go_sem] theorem Sc.drop_four {a b c d : Value} : [a, b, c, d].drop 4 = [] := rfl
@[go_sem] theorem Sc.get0 {s : Sc} : s.cs[0]? = some (.bool s.p) := rfl
@[go_sem] theorem Sc.get1 {s : Sc} : s.cs[1]? = some (.int .i64 s.n) := rfl
@[go_sem] theorem Sc.get2 {s : Sc} : s.cs[2]? = some (.int .i64 s.b) := rfl
@[go_sem] theorem Sc.get3 {s : Sc} : s.cs[3]? = some (.int .i64 s.o) := rfl
@[go_sem] theorem Sc.ld {s : Sc} : rd true 4 s.cs 0 = some s.val := rfl
@[go_sem] theorem Sc.ld0 {s : Sc} : rd false 1 s.cs 0 = some (.bool s.p) := rfl
@[go_sem] theorem Sc.ld1 {s : Sc} : rd false 1 s.cs 1 = some (.int .i64 s.n) := rfl
@[go_sem] theorem Sc.ld2 {s : Sc} : rd false 1 s.cs 2 = some (.int .i64 s.b) := rfl
@[go_sem] theorem Sc.ld3 {s : Sc} : rd false 1 s.cs 3 = some (.int .i64 s.o) := rfl
theorem decEq_Sc (a b : Sc) : decide (a = b) = ((a.p == b.p) && (decide (a.n = b.n) && (decide (a.b = b.b) && (decide (a.o = b.o) && true)))) := by
  apply Bool.eq_iff_iff.2
  cases a; cases b
  simp
@[go_sem] theorem eqV_Sc (a b : Sc) : eqV (.st [(false, 0, 1, .b), (false, 1, 1, .i), (false, 2, 1, .i), (false, 3, 1, .i)]) a.val b.val = some (decide (a = b)) := by
  rw [decEq_Sc]
  simp [eqV, eqFs, Sc.val, Sc.cs, rd]
structure Ba where
  b : Int
  v : V
instance Ba.dec : DecidableEq Ba := fun x y => decidable_of_iff (x.b = y.b ∧ x.v = y.v) (by cases x; cases y; simp)
def Ba.cs (x : Ba) : List Value := .int .i64 x.b :: x.v.cs
def Ba.val (x : Ba) : Value := .agg x.cs.toArray
@[go_sem] theorem Ba.fold {b a c d e f : Int} {k : Bool} : Value.agg [.int .i64 b, .int .i64 a, .bool k, .int .i64 c, .int .i64 d, .int .i64 e, .int .i64 f].toArray = Ba.val ⟨b, ⟨a, k, c, d, e, f⟩⟩ := rfl
@[go_sem] theorem Ba.fold2 {x : Ba} : Value.agg x.cs.toArray = x.val := rfl
@[go_sem] theorem Ba.fold3 {b : Int} {v : V} : Value.agg (.int .i64 b :: v.cs).toArray = Ba.val ⟨b, v⟩ := rfl
@[go_sem] theorem Ba.cells_m {s : Ba} : Value.cells.match_1 (fun _ => Array Value) s.val (fun cs => cs) (fun u => #[u]) = s.cs.toArray := rfl
@[go_sem] theorem Ba.cells_val {s : Ba} : s.val.cells = s.cs.toArray := rfl
@[go_sem] theorem Ba.cs_size {s : Ba} : s.cs.toArray.size = 7 := rfl
@[go_sem] theorem Ba.cs_len {s : Ba} : s.cs.length = 7 := rfl
@[go_sem] theorem Ba.cs_plain {s : Ba} : plainCells s.cs = True := by
  apply eq_true
  intro u hu
  simp only [Ba.cs, List.mem_cons] at hu
  rcases hu with rfl | hu
  · rfl
  · exact (of_eq_true (V.cs_plain (v := s.v))) u hu
@[go_sem] theorem Ba.take7 {s : Ba} : s.cs.take 7 = s.cs := rfl
@[go_sem] theorem Ba.take0 {s : Ba} : s.cs.take 0 = [] := rfl
@[go_sem] theorem Ba.drop7 {s : Ba} : s.cs.drop 7 = [] := rfl
@[go_sem] theorem Ba.drop_seven {a b c d e f g : Value} : [a, b, c, d, e, f, g].drop 7 = [] := rfl
@[go_sem] theorem Ba.get0 {s : Ba} : s.cs[0]? = some (.int .i64 s.b) := rfl
@[go_sem] theorem Ba.get1 {s : Ba} : s.cs[1]? = some (.int .i64 s.v.w) := rfl
@[go_sem] theorem Ba.drop1 {s : Ba} : s.cs.drop 1 = s.v.cs := rfl
@[go_sem] theorem Ba.ld {s : Ba} : rd true 7 s.cs 0 = some s.val := rfl
@[go_sem] theorem Ba.ld0 {s : Ba} : rd false 1 s.cs 0 = some (.int .i64 s.b) := rfl
@[go_sem] theorem Ba.ld1 {s : Ba} : rd true 6 s.cs 1 = some s.v.val := rfl
@[go_sem] theorem Ba.ldw {s : Ba} : rd false 1 s.cs 1 = some (.int .i64 s.v.w) := rfl
def abCs (v : V) (u : Value) : List Value := v.cs ++ [u]
def abV (v : V) (u : Value) : Value := .agg (abCs v u).toArray
@[go_sem] theorem ab_fold {a c d e f : Int} {k : Bool} {u : Option Addr} {n m : Nat} : Value.agg [.int .i64 a, .bool k, .int .i64 c, .int .i64 d, .int .i64 e, .int .i64 f, .slice u n m].toArray = abV ⟨a, k, c, d, e, f⟩ (.slice u n m) := rfl
@[go_sem] theorem ab_fold2 {v : V} {u : Value} : Value.agg (abCs v u).toArray = abV v u := rfl
@[go_sem] theorem ab_fold3 {v : V} {u : Option Addr} {n m : Nat} : Value.agg (v.cs ++ [Value.slice u n m]).toArray = abV v (.slice u n m) := rfl
@[go_sem] theorem ab_cells_m {v : V} {u : Value} : Value.cells.match_1 (fun _ => Array Value) (abV v u) (fun cs => cs) (fun u => #[u]) = (abCs v u).toArray := rfl
@[go_sem] theorem ab_cells {v : V} {u : Value} : (abV v u).cells = (abCs v u).toArray := rfl
@[go_sem] theorem ab_size {v : V} {u : Value} : (abCs v u).toArray.size = 7 := rfl
@[go_sem] theorem ab_len {v : V} {u : Value} : (abCs v u).length = 7 := rfl
@[go_sem] theorem ab_plain {v : V} {a : Option Addr} {n m : Nat} : plainCells (abCs v (.slice a n m)) = True := by
  apply eq_true
  intro u hu
  simp only [abCs, List.mem_append, List.mem_cons, List.not_mem_nil, or_false] at hu
  rcases hu with hu | rfl
  · exact (of_eq_true (V.cs_plain (v := v))) u hu
  · rfl
@[go_sem] theorem ab_take {v : V} {u : Value} : (abCs v u).take 7 = abCs v u := rfl
@[go_sem] theorem ab_take0 {v : V} {u : Value} : (abCs v u).take 0 = [] := rfl
@[go_sem] theorem ab_drop {v : V} {u : Value} : (abCs v u).drop 7 = [] := rfl
@[go_sem] theorem ab_get0 {v : V} {u : Value} : (abCs v u)[0]? = some (.int .i64 v.w) := rfl
@[go_sem] theorem ab_get6 {v : V} {u : Value} : (abCs v u)[6]? = some u := rfl
@[go_sem] theorem ab_take6 {v : V} {u : Value} : (abCs v u).take 6 = v.cs := rfl
@[go_sem] theorem ab_ld {v : V} {u : Value} : rd true 7 (abCs v u) 0 = some (abV v u) := rfl
@[go_sem] theorem ab_ldv {v : V} {u : Value} : rd true 6 (abCs v u) 0 = some v.val := rfl
@[go_sem] theorem ab_ldw {v : V} {u : Value} : rd false 1 (abCs v u) 0 = some (.int .i64 v.w) := rfl
@[go_sem] theorem ab_ldu {v : V} {u : Value} : rd false 1 (abCs v u) 6 = some u := rfl
def RdG {α : Type} (sz : Nat) (f : α → List Value) (F : Fz) (M : Hp) (u : Value) (l : List α) : Prop :=
  l.length ≤ 4611686018427387904 ∧ ∃ ad cap, l.length ≤ cap ∧ u = .slice ad l.length cap ∧
    (l = [] ∨ ∃ b o cs, ad = some ⟨b, o, none⟩ ∧ blk F M b = some cs ∧ ∀ i (hi : i < l.length), o + i * sz + sz ≤ cs.length ∧ (cs.drop (o + i * sz)).take sz = f l[i])
theorem RdG.new {α : Type} {sz : Nat} {f : α → List Value} {F : Fz} {M : Hp} {u : Value} {l : List α} (h : RdG sz f F M u l) {r : Nat} {e : Ent} (hF : F r = none) (hM : M r = none) : RdG sz f F (M.upd r e) u l := by
  obtain ⟨hl, ad, cap, hlc, rfl, h⟩ := h
  refine ⟨hl, ad, cap, hlc, rfl, ?_⟩
  rcases h with h | ⟨b, o, cs, h1, h2, h3⟩
  · exact .inl h
  · exact .inr ⟨b, o, cs, h1, by rw [blk_upd_ne (blk_ne h2 hF hM)]; exact h2, h3⟩
theorem RdG.keep {α : Type} {sz : Nat} {f : α → List Value} {F : Fz} {M M' : Hp} {u : Value} {l : List α} (h : RdG sz f F M u l) (kp : Keep M M') (hold : Old F M') : RdG sz f F M' u l := by
  obtain ⟨hl, ad, cap, hc, rfl, h⟩ := h
  refine ⟨hl, ad, cap, hc, rfl, ?_⟩
  rcases h with h | ⟨b, o, cs, h1, h2, h3⟩
  · exact .inl h
  · exact .inr ⟨b, o, cs, h1, blk_keep h2 kp hold, h3⟩
theorem flatG_len {α : Type} {sz : Nat} {f : α → List Value} (hf : ∀ x, (f x).length = sz) (l : List α) : (l.flatMap f).length = l.length * sz := by
  induction l with
  | nil => simp
  | cons x l ih => rw [List.flatMap_cons, List.length_append, ih, hf, List.length_cons, Nat.succ_mul]; omega
theorem flatG_get {α : Type} {sz : Nat} {f : α → List Value} (hf : ∀ x, (f x).length = sz) : ∀ (l : List α) (i : Nat) (hi : i < l.length), ((l.flatMap f).drop (i * sz)).take sz = f l[i]
  | [], i, hi => by simp at hi
  | x :: l, 0, hi => by
    rw [List.flatMap_cons, Nat.zero_mul, List.drop_zero, List.take_append_of_le_length (by rw [hf]; exact Nat.le_refl _), List.take_of_length_le (by rw [hf]; exact Nat.le_refl _)]
    rfl
  | x :: l, i + 1, hi => by
    have := flatG_get hf l i (by simpa using hi)
    rw [List.flatMap_cons, List.drop_append]
    have e : (i + 1) * sz - (f x).length = i * sz := by rw [hf, Nat.succ_mul]; omega
    have e2 : (f x).drop ((i + 1) * sz) = [] := List.drop_eq_nil_of_le (by rw [hf, Nat.succ_mul]; omega)
    rw [e, e2]
    simpa using this
theorem rdG_flat {α : Type} {sz : Nat} {f : α → List Value} {F : Fz} {M : Hp} {g : Nat} {l : List α} {cap : Nat} (hf : ∀ x, (f x).length = sz) (hl : l.length ≤ 4611686018427387904) (hlc : l.length ≤ cap) (h : blk F M g = some (l.flatMap f)) : RdG sz f F M (.slice (some ⟨g, 0, none⟩) l.length cap) l :=
  ⟨hl, _, _, hlc, rfl, .inr ⟨g, 0, _, rfl, h, fun i hi => ⟨by
    rw [flatG_len hf, Nat.zero_add]
    have : (i + 1) * sz ≤ l.length * sz := Nat.mul_le_mul_right _ hi
    rw [Nat.succ_mul] at this; exact this, by rw [Nat.zero_add]; exact flatG_get hf l i hi⟩⟩⟩
theorem rdG_nil {α : Type} {sz : Nat} {f : α → List Value} {F : Fz} {M : Hp} : RdG sz f F M (.slice none 0 0) ([] : List α) := ⟨by simp, none, 0, by simp, rfl, .inl rfl⟩
theorem rdG_of {α : Type} {sz bytes : Nat} {e : Sh} {f : α → List Value} {Q : α → Prop} {B : Bk} {v : Value} (h : Rd B (.slice sz bytes e) [v]) (hb : 0 < bytes) (hsz : 0 < sz) (hx : ∀ x : List Value, x.length = sz → Rd B e x → ∃ a : α, x = f a ∧ Q a) :
    ∃ (a : Option Addr) (cap : Nat) (l : List α), v = .slice a l.length cap ∧ l.length ≤ 140737488351232 ∧ (∀ x ∈ l, Q x) ∧ ∀ (F : Fz) (M : Hp), (∀ b c, B b = some c → blk F M b = some c) → RdG sz f F M (.slice a l.length cap) l := by
  obtain ⟨v', rows, h1, ⟨a, cap, rfl, hl, hm, h0, hlen, hc⟩, hs, hr⟩ := h
  cases h1
  have hlist : ∃ l : List α, rows = l.map f ∧ ∀ x ∈ l, Q x := by
    clear hc hs hl
    induction rows with
    | nil => exact ⟨[], rfl, by simp⟩
    | cons x rows ih =>
      obtain ⟨l, e, hq⟩ := ih (fun y hy => hlen y (List.mem_cons_of_mem _ hy)) (fun y hy => hr y (List.mem_cons_of_mem _ hy))
      obtain ⟨n, e', hn⟩ := hx x (hlen x (by simp)) (hr x (by simp))
      exact ⟨n :: l, by simp [e, e'], by simp [hn]; exact hq⟩
  obtain ⟨l, rfl, hQ⟩ := hlist
  rw [List.length_map] at hl hs ⊢
  have hle : l.length ≤ 140737488351232 := by
    have h1 : l.length * 1 ≤ l.length * bytes := Nat.mul_le_mul_left _ hb
    simp only [reachBytes] at hs
    omega
  refine ⟨a, cap, l, rfl, hle, hQ, fun F M hB => ⟨by omega, a, cap, hl, rfl, ?_⟩⟩
  rcases hc with hc | ⟨b, o, cs, rfl, hb', hc⟩
  · exact .inl (by simpa using hc)
  · refine .inr ⟨b, o, cs, rfl, hB _ _ hb', fun i hi => ?_⟩
    have h2 := hc i (f l[i]) (by simp [hi])
    refine ⟨?_, h2⟩
    have h3 := congrArg List.length h2
    have h4 := hlen (f l[i]) (List.mem_map.2 ⟨l[i], List.getElem_mem _, rfl⟩)
    rw [h4] at h3
    simp only [List.length_take, List.length_drop] at h3
    omega
end Go.Ax
namespace Go.Ax
open Go
set_option linter.unusedVariables false
def isS (k : Int) : Bool := decide (1 ≤ k) && decide (k ≤ 7)
def abR (e : TypeId) (num : V) (l : List Ba) (F : Fz) (M : Hp) (u : Value) (F' : Fz) (M' : Hp) : Prop :=
  F' = F ∧ ((l = [] ∧ u = abV num (.slice none 0 0) ∧ M' = M) ∨ ∃ g cap, F g = none ∧ M g = none ∧ u = abV num (.slice (some ⟨g, 0, none⟩) l.length cap) ∧ (l.length ≤ cap ∧ cap ≤ maxLen) ∧ M' = M.upd g ⟨l.flatMap Ba.cs, e, cap * 7⟩)
def OwnG {α : Type} (sz : Nat) (f : α → List Value) (e : TypeId) (F : Fz) (M : Hp) (u : Value) (l : List α) : Prop :=
  u = .slice none 0 0 ∧ l = [] ∨ ∃ g cap, u = .slice (some ⟨g, 0, none⟩) l.length cap ∧ F g = none ∧ M g = some ⟨l.flatMap f, e, cap * sz⟩ ∧ l.length ≤ cap ∧ cap ≤ maxLen
theorem OwnG.own {α : Type} {sz : Nat} {f : α → List Value} {e : TypeId} {F : Fz} {M : Hp} {u : Value} {l : List α} (hf : ∀ x, (f x).length = sz) (h : OwnG sz f e F M u l) : Own M e sz u l.length (l.flatMap f) := by
  refine ⟨flatG_len hf l, ?_⟩
  rcases h with ⟨h1, h2⟩ | ⟨g, cap, h1, h2, h3, h4, h5⟩
  · exact .inl ⟨h1, by rw [h2]; rfl⟩
  · exact .inr ⟨g, cap, h1, h3, h4, h5⟩
theorem OwnG.rd {α : Type} {sz : Nat} {f : α → List Value} {e : TypeId} {F : Fz} {M : Hp} {u : Value} {l : List α} (hf : ∀ x, (f x).length = sz) (h : OwnG sz f e F M u l) (hl : l.length ≤ 4611686018427387904) : RdG sz f F M u l := by
  rcases h with ⟨h1, h2⟩ | ⟨g, cap, h1, h2, h3, h4, h5⟩
  · subst h2; rw [h1]; exact rdG_nil
  · rw [h1]; exact rdG_flat hf hl h4 (blk_M h3)
theorem OwnG.new {α : Type} {sz : Nat} {f : α → List Value} {e : TypeId} {F : Fz} {M : Hp} {u : Value} {l : List α} (h : OwnG sz f e F M u l) {r : Nat} {x : Ent} (hM : M r = none) : OwnG sz f e F (M.upd r x) u l := by
  rcases h with h | ⟨g, cap, h1, h2, h3, h4, h5⟩
  · exact .inl h
  · exact .inr ⟨g, cap, h1, h2, by rw [Hp.upd_ne' (ne_of_none hM h3).1]; exact h3, h4, h5⟩
theorem OwnG.ne {α : Type} {sz : Nat} {f : α → List Value} {e : TypeId} {F : Fz} {M : Hp} {l : List α} {g n c r : Nat} {x : Ent} (h : OwnG sz f e F M (.slice (some ⟨g, 0, none⟩) n c) l) (hr : M r = some x) (hx : ¬ x.elem = e) : ¬ r = g := by
  rcases h with ⟨h, _⟩ | ⟨g', cap, h, _, h3, _⟩
  · cases h
  · cases h
    rintro rfl
    rw [hr] at h3; cases h3; exact hx rfl
theorem plainG {α : Type} {f : α → List Value} (hp : ∀ x, plainCells (f x)) (l : List α) : plainCells (l.flatMap f) := by
  intro u hu
  obtain ⟨v, _, hv⟩ := List.mem_flatMap.1 hu
  exact hp v u hv
theorem apG_of {α : Type} {sz bytes : Nat} {f : α → List Value} {P : Program} {s : Bool} {d : Option Nat} {l : List SO} {K : Env → Fz → Hp → Prop} {σ : Env} {F : Fz} {M : Hp} {e : TypeId} {v u : Value} {xs ys : List α}
    (hf : ∀ x, (f x).length = sz) (hp : ∀ x, plainCells (f x)) (hbytes : bytes ≤ 1000) (h : OwnG sz f e F M v xs) (hs : Src F M sz u ys.length (ys.flatMap f)) (hy : 0 < ys.length) (hb : xs.length + ys.length ≤ 1000000)
    (hk : ∀ g cap M', (M g = none ∨ ∃ c, v = .slice (some ⟨g, 0, none⟩) xs.length c) → F g = none → M' = M.upd g ⟨(xs ++ ys).flatMap f, e, cap * sz⟩ →
      OwnG sz f e F M' (.slice (some ⟨g, 0, none⟩) (xs ++ ys).length cap) (xs ++ ys) → opsW P s l K (put σ d (.slice (some ⟨g, 0, none⟩) (xs ++ ys).length cap)) F M') :
    apK P s d l K σ F M e sz bytes (some v) (some u) := by
  have hm : (xs.length + ys.length) * bytes ≤ 1000000 * 1000 := Nat.mul_le_mul hb hbytes
  refine apK_of (h.own hf) hs (plainG hp ys) (by simp only [maxLen]; omega) (by omega) ?_
  rintro v' M' (⟨_, h0, _⟩ | ⟨g, cap, hg, rfl, h1, h2, rfl⟩)
  · omega
  rw [← List.length_append, ← List.flatMap_append]
  have key : F g = none ∧ (M g = none ∨ ∃ c, v = .slice (some ⟨g, 0, none⟩) xs.length c) := by
    rcases hg with ⟨c, hx⟩ | ⟨hx, hy⟩
    · rcases h with ⟨h1, _⟩ | ⟨g', cap', h1, h2, _⟩
      · rw [h1] at hx; cases hx
      · rw [h1] at hx; cases hx; exact ⟨h2, .inr ⟨_, h1⟩⟩
    · exact ⟨hx, .inl hy⟩
  exact hk g cap _ key.2 key.1 rfl (.inr ⟨g, cap, rfl, key.1, Hp.upd_same _ _ _, by rw [List.length_append]; exact h1, h2⟩)
end Go.Ax
namespace Go.Proofs.Tryz.K
open Go Go.Ax Go.Proofs.Tryz.S
set_option maxRecDepth 100000
set_option linter.unusedSimpArgs false
set_option linter.unusedVariables false
variable (F : Fz) (M : Hp)
theorem k101 (k : Int) : CallsA Tryz.prog 101 [.int .i64 k] F M (Same F M (.bool (isS k))) := by
  refine callsA_of hm Tryz.func101 e101 (Nat.le_of_ble_eq_true rfl) ?_
  by_cases h1 : 1 ≤ k
  · simp only [c101, go_sem, reduceCtorEq, reduceIte, Nat.reduceEqDiff, h1]
    exact endK_same ⟨by simp [isS, h1], rfl, rfl⟩
  · simp only [c101, go_sem, reduceCtorEq, reduceIte, Nat.reduceEqDiff, h1]
    exact endK_same ⟨by simp [isS, h1], rfl, rfl⟩
theorem k52 (k : Int) : CallsA Tryz.prog 52 [.int .i64 k] F M (Same F M (.bool (isS k))) := by
  refine callsA_of hm Tryz.func52 e52 (Nat.le_of_ble_eq_true rfl) ?_
  simp only [c52, go_sem, reduceCtorEq]
  refine callK_same (k33 _ _ k 1 7) ?_
  simp only [go_sem]
  exact endK_same ⟨rfl, rfl, rfl⟩
theorem k160 (n m : Int) : CallsA Tryz.prog 160 [.int .i64 n, .int .i64 m] F M (Same F M (.bool (decide (0 ≤ n) && decide (n ≤ m)))) := by
  refine callsA_of hm Tryz.func160 e160 (Nat.le_of_ble_eq_true rfl) ?_
  by_cases h1 : 0 ≤ n
  · simp only [c160, go_sem, reduceCtorEq, reduceIte, Nat.reduceEqDiff, h1]
    exact endK_same ⟨by simp [], rfl, rfl⟩
  · simp only [c160, go_sem, reduceCtorEq, reduceIte, Nat.reduceEqDiff, h1]
    exact endK_same ⟨by simp [], rfl, rfl⟩
theorem not_isK7 : isK 7 = false := by decide
theorem k110 (v : V) : CallsA Tryz.prog 110 [v.val] F M (Same F M (abV v (.slice none 0 0))) := by
  refine callsA_of hm Tryz.func110 e110 (Nat.le_of_ble_eq_true rfl) ?_
  simp only [c110, go_sem]
  intro r1 hF1 hM1
  simp only [go_sem, Nat.reduceAdd]
  intro r2 hF2 hM2
  have g := fresh_of hM2
  simp only [go_sem, reduceIte, Nat.reduceEqDiff, Nat.reduceAdd, Nat.reduceLeDiff, g]
  exact endK_drop hM2 (endK_drop hM1 (endK_same ⟨rfl, rfl, rfl⟩))
theorem k109 (b o : Int) : CallsA Tryz.prog 109 [.int .i64 b, .int .i64 o] F M (abR 157 V.zero [⟨b, V.just 8 o⟩] F M) := by
  refine callsA_of hm Tryz.func109 e109 (Nat.le_of_ble_eq_true rfl) ?_
  simp only [c109, go_sem, Nat.reduceAdd]
  intro r4 hF4 hM4
  simp only [go_sem, reduceCtorEq, Nat.reduceEqDiff]
  refine callK_same (k111 _ _ 8 o) ?_
  simp only [go_sem, reduceIte, Nat.reduceEqDiff, Nat.reduceAdd, Nat.reduceLeDiff]
  intro g hFg hMg
  have gg := fresh_of hMg
  simp only [go_sem, reduceIte, Nat.reduceEqDiff, Nat.reduceAdd, gg]
  refine endK_keep (M := M.upd g ⟨[Ba.mk b (V.just 8 o)].flatMap Ba.cs, 157, 1 * 7⟩) ?_ ⟨rfl, .inr ⟨g, 1, hFg, gg.2.2, rfl, ⟨by simp, by decide⟩, rfl⟩⟩
  exact ((Keep.refl M).new hM4).both
theorem k69 (k : Int) (s : Sc) (hk : k = 7 ∨ isK k = true) : CallsA Tryz.prog 69 [.int .i64 k, s.val] F M (abR 157 (if k = 7 then V.zero else V.just (ofW k) s.n) (if k = 7 then [⟨s.b, V.just 8 s.o⟩] else []) F M) := by
  refine callsA_of hm Tryz.func69 e69 (Nat.le_of_ble_eq_true rfl) ?_
  simp only [c69, go_sem, reduceCtorEq]
  intro r3 hF3 hM3
  simp only [go_sem, Nat.reduceAdd]
  intro r4 hF4 hM4
  have g4 := fresh_of hM4
  by_cases h7 : k = 7
  · simp only [go_sem, reduceCtorEq, reduceIte, Nat.reduceEqDiff, g4, h7]
    refine callK_of (k109 _ _ s.b s.o) ?_
    rintro u G M' ⟨hG, ⟨h, _⟩ | ⟨g, cap, hFg, hMg, rfl, hcap, hM'⟩⟩
    · cases h
    rw [hG, hM']
    refine ⟨(fun h => by cases h), ?_⟩
    have g1 := fresh_of hMg
    have g2 := fresh_of g1.2.2
    simp only [go_sem, reduceIte, Nat.reduceEqDiff, Nat.reduceAdd, g1]
    refine endK_keep (M := M.upd g ⟨[Ba.mk s.b (V.just 8 s.o)].flatMap Ba.cs, 157, cap * 7⟩) ?_ ⟨rfl, .inr ⟨g, cap, hFg, g2.2.2, rfl, hcap, rfl⟩⟩
    exact (((Keep.refl M).new hM3).new g4.2.2).both
  · have hk' : isK k = true := by rcases hk with h | h; exact absurd h h7; exact h
    simp only [go_sem, reduceCtorEq, reduceIte, Nat.reduceEqDiff, g4, h7]
    refine callK_same (k112 _ _ k hk') ?_
    simp only [go_sem, Nat.reduceEqDiff]
    refine callK_same (k111 _ _ (ofW k) s.n) ?_
    simp only [go_sem]
    refine callK_same (k110 _ _ _) ?_
    simp only [go_sem, reduceIte, Nat.reduceEqDiff, Nat.reduceAdd]
    exact endK_keep (M := M) (((Keep.refl M).new hM3).new g4.2.2) ⟨rfl, .inl ⟨rfl, rfl, rfl⟩⟩
end Go.Proofs.Tryz.K
namespace Go.Ax
open Go
set_option linter.unusedVariables false
set_option linter.unusedSimpArgs false
theorem ba_row {cs : List Value} {p : Nat} {x : Ba} (h1 : p + 7 ≤ cs.length) (h : (cs.drop p).take 7 = x.cs) :
    cs[p]? = some (.int .i64 x.b) ∧ cs[p + 1]? = some (.int .i64 x.v.w) ∧ (cs.drop (p + 1)).take 6 = x.v.cs ∧ p + 1 + 6 ≤ cs.length := by
  refine ⟨?_, ?_, ?_, by omega⟩
  · have := congrArg (fun t => t[0]?) h
    simpa [Ba.cs] using this
  · have := congrArg (fun t => t[1]?) h
    simpa [Ba.cs, V.cs] using this
  · have := congrArg (fun t => t.drop 1) h
    rw [List.drop_take, List.drop_drop] at this
    simpa [Ba.cs] using this
def baseB (x : Ba) : Bool := (decide (0 ≤ x.b) && decide (x.b ≤ 6)) && x.v.ok && decide (x.v.w = 8) && !(decide (x.b = 0) && !(x.v.is1 && decide (x.v.nextR 0 = 0)))
def okAt (l : List Ba) (i : Nat) : Bool := match l[i]? with
  | none => true
  | some x => baseB x && (decide (i = 0) || match l[i - 1]? with | none => true | some y => decide (y.b < x.b))
def ptrsB (l : List Ba) : Bool := decide (l.length ≤ 7) && (List.range l.length).all (okAt l)
theorem ptrs_no {l : List Ba} {i : Nat} (hi : i < l.length) (h : okAt l i = false) : ptrsB l = false := by
  unfold ptrsB
  have : (List.range l.length).all (okAt l) = false := by
    rw [List.all_eq_false]
    exact ⟨i, by simpa using hi, by simp [h]⟩
  rw [this]; simp
theorem ptrs_yes {l : List Ba} (h7 : l.length ≤ 7) (h : ∀ j, j < l.length → okAt l j = true) : ptrsB l = true := by
  unfold ptrsB
  have : (List.range l.length).all (okAt l) = true := by
    rw [List.all_eq_true]
    intro x hx
    exact h x (by simpa using hx)
  rw [this]; simp [h7]
def absB (k : Int) (v : V) (l : List Ba) : Bool :=
  if k = 7 then decide (v = V.zero) && ptrsB l else decide (0 < wK k) && v.ok && decide (v.w = wK k) && decide (l.length = 0)
def onlyStep (acc : Sc × Nat) (x : Ba) : Sc × Nat :=
  if x.v.nextR 0 < 0 ∨ 32 < x.v.nextR 0 then acc
  else (⟨true, 0, x.b, x.v.nextR 0⟩, acc.2 + 1 + (if 0 ≤ x.v.nextR (x.v.nextR 0 + 1) ∧ x.v.nextR (x.v.nextR 0 + 1) ≤ 32 then 1 else 0))
def onlyP (l : List Ba) : Sc × Nat := l.foldl onlyStep (⟨false, 0, 0, 0⟩, 0)
def onlyB (k : Int) (v : V) (l : List Ba) : Sc × Bool := if k = 7 then ((onlyP l).1, decide ((onlyP l).2 = 1)) else (⟨false, v.nextR 0, 0, 0⟩, v.is1)
def pointsB (l : List Ba) (b o : Int) : Bool := l.any fun x => decide (x.b = b) && x.v.has o
def hasB (k : Int) (v : V) (l : List Ba) (s : Sc) : Bool := if k = 7 then pointsB l s.b s.o else v.has s.n
theorem okAt_ge {l : List Ba} (h : ∀ j, j < l.length → okAt l j = true) : ∀ j (hj : j < l.length), (j : Int) ≤ (l[j]).b ∧ (l[j]).b ≤ 6
  | 0, hj => by
    have h0 := h 0 hj
    unfold okAt at h0
    rw [List.getElem?_eq_getElem hj] at h0
    simp only [baseB, Bool.and_eq_true, decide_eq_true_eq] at h0
    omega
  | j + 1, hj => by
    have ih := okAt_ge h j (by omega)
    have h0 := h (j + 1) hj
    unfold okAt at h0
    rw [List.getElem?_eq_getElem hj] at h0
    simp only [baseB, Bool.and_eq_true, decide_eq_true_eq, Nat.add_sub_cancel, List.getElem?_eq_getElem (by omega : j < l.length), Bool.or_eq_true] at h0
    omega
theorem okAt_few {l : List Ba} (h : ∀ j, j < l.length → okAt l j = true) : l.length ≤ 7 := by
  by_cases h0 : l.length = 0
  · omega
  · have := okAt_ge h (l.length - 1) (by omega)
    omega
theorem ptrs_all {l : List Ba} (h : ∀ j, j < l.length → okAt l j = true) : ptrsB l = true := ptrs_yes (okAt_few h) h
end Go.Ax
namespace Go.Proofs.Tryz.K
open Go Go.Ax Go.Proofs.Tryz.S
set_option maxRecDepth 100000
set_option linter.unusedSimpArgs false
set_option linter.unusedVariables false
variable (F : Fz) (M : Hp)
def pnI (l : List Ba) (u : Value) (b o : Int) (F0 : Fz) (M0 : Hp) (m : Nat) (σ : Env) (F : Fz) (M : Hp) : Prop :=
  F = F0 ∧ M = M0 ∧ Ax.look σ 0 = some u ∧ Ax.look σ 1 = some (.int .i64 b) ∧ Ax.look σ 2 = some (.int .i64 o) ∧ ∃ i : Nat, i + m = l.length ∧ Ax.look σ 7 = some (.int .i64 i) ∧ pointsB l b o = pointsB (l.drop i) b o
theorem k89 (u : Value) (l : List Ba) (b o : Int) (h : RdG 7 Ba.cs F M u l) : CallsA Tryz.prog 89 [u, .int .i64 b, .int .i64 o] F M (Same F M (.bool (pointsB l b o))) := by
  refine callsA_of hm Tryz.func89 e89 (Nat.le_of_ble_eq_true rfl) ?_
  obtain ⟨hl, ad, cap, hlc, rfl, h⟩ := h
  simp only [c89, go_sem, Nat.reduceAdd]
  refine loop_of (pnI l (.slice ad l.length cap) b o F M) l.length ?_ ?_
  · exact ⟨rfl, rfl, by simp only [go_sem, reduceCtorEq], by simp only [go_sem, reduceCtorEq, Nat.reduceEqDiff], by simp only [go_sem, reduceCtorEq, Nat.reduceEqDiff], 0, by omega, by simp only [go_sem] <;> rfl, rfl⟩
  rintro m σ F' M' ⟨rfl, rfl, h0, h1, h2, i, hi, h7, ha⟩
  by_cases hil : (i : Int) < l.length
  · have hi0 : (0 : Int) ≤ i := by omega
    have hil' : i < l.length := by omega
    have ei : IntKind.i64.wrap ((i : Int) + 1) = i + 1 := w64 (by omega) (by omega)
    rcases h with h | ⟨g, p, cs, rfl, hb, hc⟩
    · rw [h] at hil'; simp at hil'
    obtain ⟨d1, d2⟩ := hc i hil'
    unfold pointsB at ha
    rw [List.drop_eq_getElem_cons hil', List.any_cons] at ha
    generalize l[i] = x at *
    obtain ⟨r1, r2, r3, r4⟩ := ba_row d1 d2
    by_cases hx : x.b = b
    · simp only [go_sem, reduceCtorEq, reduceIte, Nat.reduceEqDiff, h0, h1, h2, h7, hil, hi0, Int.toNat_natCast, Nat.add_zero, hb, r1, r3, r4, hx]
      refine callK_same (k88 _ _ x.v o) ?_
      cases hh : x.v.has o
      · simp only [go_sem, reduceIte, Nat.reduceEqDiff, h7, ei]
        exact ⟨m - 1, by omega, rfl, rfl, by simp only [go_sem, reduceCtorEq, h0], by simp only [go_sem, Nat.reduceEqDiff, h1], by simp only [go_sem, Nat.reduceEqDiff, h2], i + 1, by omega, by simp only [go_sem]; rfl, by unfold pointsB; rw [ha, hh]; simp⟩
      · simp only [go_sem, reduceIte, Nat.reduceEqDiff]
        exact endK_same ⟨by unfold pointsB; rw [ha, hh]; simp [hx], rfl, rfl⟩
    · simp only [go_sem, reduceCtorEq, reduceIte, Nat.reduceEqDiff, h0, h1, h7, hil, hi0, Int.toNat_natCast, Nat.add_zero, hb, r1, hx, ei]
      exact ⟨m - 1, by omega, rfl, rfl, by simp only [go_sem, reduceCtorEq, h0], by simp only [go_sem, Nat.reduceEqDiff, h1], by simp only [go_sem, Nat.reduceEqDiff, h2], i + 1, by omega, by simp only [go_sem]; rfl, by unfold pointsB; rw [ha]; simp [hx]⟩
  · have : l.drop i = [] := List.drop_eq_nil_of_le (by omega)
    rw [this] at ha
    simp only [go_sem, reduceCtorEq, reduceIte, Nat.reduceEqDiff, h0, h7, hil]
    exact endK_same ⟨by rw [ha]; rfl, rfl, rfl⟩
theorem k91 (k : Int) (v : V) (u : Value) (l : List Ba) (s : Sc) (h : RdG 7 Ba.cs F M u l) : CallsA Tryz.prog 91 [.int .i64 k, abV v u, s.val] F M (Same F M (.bool (hasB k v l s))) := by
  refine callsA_of hm Tryz.func91 e91 (Nat.le_of_ble_eq_true rfl) ?_
  have h' := h
  obtain ⟨_, ad, cap, _, rfl, _⟩ := h
  simp only [c91, go_sem, reduceCtorEq, Nat.reduceAdd]
  intro r4 hF4 hM4
  simp only [go_sem, reduceCtorEq, Nat.reduceEqDiff]
  intro r5 hF5 hM5
  have g5 := fresh_of hM5
  have h2 := (h'.new hF4 hM4 (e := ⟨abCs v (.slice ad l.length cap), 68, 7⟩)).new hF5 hM5 (e := ⟨s.cs, 119, 4⟩)
  by_cases h7 : k = 7
  · simp only [go_sem, reduceCtorEq, reduceIte, Nat.reduceEqDiff, g5, h7]
    refine callK_same (k89 _ _ _ l s.b s.o h2) ?_
    simp only [go_sem]
    exact endK_drop hM5 (endK_drop hM4 (endK_same ⟨by simp [hasB], rfl, rfl⟩))
  · simp only [go_sem, reduceCtorEq, reduceIte, Nat.reduceEqDiff, Nat.reduceLeDiff, g5, h7]
    refine callK_same (k88 _ _ v s.n) ?_
    simp only [go_sem]
    exact endK_drop hM5 (endK_drop hM4 (endK_same ⟨by simp [hasB, h7], rfl, rfl⟩))
def Old' (F : Fz) (M0 M : Hp) : Prop := ∀ {u : Value} {l : List Ba}, RdG 7 Ba.cs F M0 u l → RdG 7 Ba.cs F M u l
def ptI (l : List Ba) (u : Value) (F0 : Fz) (M0 : Hp) (m : Nat) (σ : Env) (F : Fz) (M : Hp) : Prop :=
  F = F0 ∧ Keep M0 M ∧ Old' F0 M0 M ∧ Ax.look σ 0 = some u ∧ ∃ i : Nat, i + m = l.length ∧ Ax.look σ 3 = some (.int .i64 i) ∧ ∀ j, j < i → okAt l j = true
theorem k74 (u : Value) (l : List Ba) (h : RdG 7 Ba.cs F M u l) : CallsA Tryz.prog 74 [u] F M (Same F M (.bool (ptrsB l))) := by
  refine callsA_of hm Tryz.func74 e74 (Nat.le_of_ble_eq_true rfl) ?_
  have h' := h
  obtain ⟨hl, ad, cap, hlc, rfl, _⟩ := h
  simp only [c74, go_sem, reduceCtorEq, reduceIte]
  by_cases hl7 : (7 : Int) < l.length
  · simp only [go_sem, hl7]
    exact endK_same ⟨by simp [ptrsB]; omega, rfl, rfl⟩
  simp only [go_sem, hl7]
  refine loop_of (ptI l (.slice ad l.length cap) F M) l.length ?_ ?_
  · exact ⟨rfl, Keep.refl _, fun h => h, by simp only [go_sem, reduceCtorEq], 0, by omega, by simp only [go_sem] <;> rfl, by omega⟩
  rintro m σ F' M' ⟨rfl, kp, ro, h0, i, hi, h3, hok⟩
  by_cases hil : (i : Int) < l.length
  rotate_left
  · simp only [go_sem, reduceCtorEq, reduceIte, Nat.reduceEqDiff, h0, h3, hil]
    exact endK_keep kp ⟨by rw [ptrs_yes (by omega) (fun j hj => hok j (by omega))], rfl, rfl⟩
  have hi0 : (0 : Int) ≤ i := by omega
  have hil' : i < l.length := by omega
  have ei : IntKind.i64.wrap ((i : Int) + 1) = i + 1 := w64 (by omega) (by omega)
  have ei1 : IntKind.i64.wrap ((i : Int) - 1) = i - 1 := w64 (by omega) (by omega)
  obtain ⟨_, _, _, _, eu, hrd⟩ := ro h'
  cases eu
  rcases hrd with h | ⟨g, p, cs, rfl, hb, hc⟩
  · rw [h] at hil'; simp at hil'
  obtain ⟨d1, d2⟩ := hc i hil'
  have hget : l[i]? = some l[i] := by simp
  obtain ⟨r1, r2, r3, r4⟩ := ba_row d1 d2
  simp only [go_sem, reduceCtorEq, reduceIte, Nat.reduceEqDiff, Nat.reduceAdd, h0, h3, hil, hi0, Int.toNat_natCast, hb, d1, d2]
  intro r hF hM
  have bg := blk_ne hb hF hM
  have no : okAt l i = false → ptrsB l = false := fun h => ptrs_no hil' h
  have kp2 : ∀ e, Keep M (M'.upd r e) := fun e => kp.new (kp.free hM)
  have ok1 : okAt l i = (baseB l[i] && (decide (i = 0) || match l[i - 1]? with | none => true | some y => decide (y.b < l[i].b))) := by
    unfold okAt; rw [hget] <;> rfl
  simp only [go_sem, Nat.reduceEqDiff, Nat.reduceAdd]
  refine callK_same (k32 _ _ l[i].b 6) ?_
  cases hn : (decide (0 ≤ l[i].b) && decide (l[i].b ≤ 6))
  · have hno : ptrsB l = false := no (by rw [ok1]; simp only [baseB, hn]; simp)
    simp only [go_sem, reduceIte, Nat.reduceEqDiff]
    exact endK_keep (kp2 _) ⟨by rw [hno], rfl, rfl⟩
  -- the one ahead
  have prev : (0 : Int) < i → ∃ y, l[i - 1]? = some y ∧ cs[p + (i - 1) * 7]? = some (.int .i64 y.b) := by
    intro hi1
    obtain ⟨e1, e2⟩ := hc (i - 1) (by omega)
    exact ⟨l[i - 1], List.getElem?_eq_getElem (by omega), (ba_row e1 e2).1⟩
  have rest : ∀ (b2 : Bool), (decide (i = 0) || match l[i - 1]? with | none => true | some y => decide (y.b < l[i].b)) = b2 → okAt l i = (baseB l[i] && b2) := fun b2 h => by rw [ok1, h]
  have tail : ∀ (b2 : Bool), (decide (i = 0) || match l[i - 1]? with | none => true | some y => decide (y.b < l[i].b)) = b2 → (b2 = false → ptrsB l = false) ∧ (b2 = true → okAt l i = baseB l[i]) := fun b2 h => ⟨fun hb => no (by rw [rest b2 h, hb]; simp), fun hb => by rw [rest b2 h, hb]; simp⟩
  have nxt : ∀ σ' e, Ax.look σ' 0 = some (.slice (some ⟨g, p, none⟩) l.length cap) → Ax.look σ' 3 = some (.int .i64 (i + 1)) → okAt l i = true → ∃ m', m' < m ∧ ptI l (.slice (some ⟨g, p, none⟩) l.length cap) F' M m' σ' F' (M'.upd r e) := by
    intro σ' e q0 q3 hk
    refine ⟨m - 1, by omega, rfl, kp2 e, fun h => (ro h).new hF hM, q0, i + 1, by omega, q3, fun j hj => ?_⟩
    rcases Nat.lt_or_ge j i with h | h
    · exact hok j h
    · have : j = i := by omega
      rw [this]; exact hk
  generalize l[i] = x at *
  by_cases hi1 : (0 : Int) < i
  · obtain ⟨y, y1, y2⟩ := prev hi1
    have i1 : (0 : Int) ≤ (i : Int) - 1 := by omega
    have i2 : (i : Int) - 1 < l.length := by omega
    have i3 : ((i : Int) - 1).toNat = i - 1 := by omega
    have hi0' : ¬ i = 0 := by omega
    rw [y1] at tail
    by_cases hyx : x.b ≤ y.b
    · have hno := (tail false (by simp [hi0']; omega)).1 rfl
      simp only [go_sem, reduceCtorEq, reduceIte, Nat.reduceEqDiff, h0, h3, hi1, ei1, i1, i2, i3, bg, hb, y2, Nat.add_zero, hyx]
      exact endK_keep (kp2 _) ⟨by rw [hno], rfl, rfl⟩
    · have hk := (tail true (by simp; omega)).2 rfl
      simp only [go_sem, reduceCtorEq, reduceIte, Nat.reduceEqDiff, Nat.reduceAdd, h0, h3, hi1, ei1, i1, i2, i3, bg, hb, y2, Nat.add_zero, hyx]
      refine callK_same (k73 _ _ x.v) ?_
      cases hv : x.v.ok
      · have hno : ptrsB l = false := no (by rw [hk]; simp [baseB, hv])
        simp only [go_sem, reduceCtorEq, reduceIte, Nat.reduceEqDiff]
        exact endK_keep (kp2 _) ⟨by rw [hno], rfl, rfl⟩
      by_cases hw : x.v.w = 8
      rotate_left
      · have hno : ptrsB l = false := no (by rw [hk]; simp [baseB, hw])
        simp only [go_sem, reduceCtorEq, reduceIte, Nat.reduceEqDiff, Nat.reduceAdd, hw]
        exact endK_keep (kp2 _) ⟨by rw [hno], rfl, rfl⟩
      simp only [go_sem, reduceCtorEq, reduceIte, Nat.reduceEqDiff, Nat.reduceAdd, hw]
      refine callK_same (k78 _ _ x.v hv) ?_
      by_cases hb0 : x.b = 0
      rotate_left
      · simp only [onlyA_eq, go_sem, reduceCtorEq, reduceIte, Nat.reduceEqDiff, h3, hb0, ei]
        exact nxt _ _ (by simp only [go_sem, reduceCtorEq, h0]) (by simp only [go_sem]) (by rw [hk]; simp only [baseB, hn, hv, hw]; simp [hb0])
      cases h1 : x.v.is1
      · have hno : ptrsB l = false := no (by rw [hk]; simp [baseB, hb0, h1])
        simp only [onlyA_eq, go_sem, reduceIte, Nat.reduceEqDiff, hb0, h1]
        exact endK_keep (kp2 _) ⟨by rw [hno], rfl, rfl⟩
      by_cases hn0 : x.v.nextR 0 = 0
      rotate_left
      · have hno : ptrsB l = false := no (by rw [hk]; simp [baseB, hb0, hn0])
        simp only [onlyA_eq, go_sem, reduceCtorEq, reduceIte, Nat.reduceEqDiff, hb0, h1, hn0]
        exact endK_keep (kp2 _) ⟨by rw [hno], rfl, rfl⟩
      simp only [onlyA_eq, go_sem, reduceCtorEq, reduceIte, Nat.reduceEqDiff, h3, hb0, h1, hn0, ei]
      exact nxt _ _ (by simp only [go_sem, reduceCtorEq, h0]) (by simp only [go_sem]) (by rw [hk]; simp only [baseB, hn, hv, hw, h1, hn0]; simp)
  · have hi0' : i = 0 := by omega
    have hk := (tail true (by simp [hi0'])).2 rfl
    simp only [go_sem, reduceCtorEq, reduceIte, Nat.reduceEqDiff, Nat.reduceAdd, h3, hi1]
    refine callK_same (k73 _ _ x.v) ?_
    cases hv : x.v.ok
    · have hno : ptrsB l = false := no (by rw [hk]; simp [baseB, hv])
      simp only [go_sem, reduceCtorEq, reduceIte, Nat.reduceEqDiff]
      exact endK_keep (kp2 _) ⟨by rw [hno], rfl, rfl⟩
    by_cases hw : x.v.w = 8
    rotate_left
    · have hno : ptrsB l = false := no (by rw [hk]; simp [baseB, hw])
      simp only [go_sem, reduceCtorEq, reduceIte, Nat.reduceEqDiff, Nat.reduceAdd, hw]
      exact endK_keep (kp2 _) ⟨by rw [hno], rfl, rfl⟩
    simp only [go_sem, reduceCtorEq, reduceIte, Nat.reduceEqDiff, Nat.reduceAdd, hw]
    refine callK_same (k78 _ _ x.v hv) ?_
    by_cases hb0 : x.b = 0
    rotate_left
    · simp only [onlyA_eq, go_sem, reduceCtorEq, reduceIte, Nat.reduceEqDiff, h3, hb0, ei]
      exact nxt _ _ (by simp only [go_sem, reduceCtorEq, h0]) (by simp only [go_sem]) (by rw [hk]; simp only [baseB, hn, hv, hw]; simp [hb0])
    cases h1 : x.v.is1
    · have hno : ptrsB l = false := no (by rw [hk]; simp [baseB, hb0, h1])
      simp only [onlyA_eq, go_sem, reduceIte, Nat.reduceEqDiff, hb0, h1]
      exact endK_keep (kp2 _) ⟨by rw [hno], rfl, rfl⟩
    by_cases hn0 : x.v.nextR 0 = 0
    rotate_left
    · have hno : ptrsB l = false := no (by rw [hk]; simp [baseB, hb0, hn0])
      simp only [onlyA_eq, go_sem, reduceCtorEq, reduceIte, Nat.reduceEqDiff, hb0, h1, hn0]
      exact endK_keep (kp2 _) ⟨by rw [hno], rfl, rfl⟩
    simp only [onlyA_eq, go_sem, reduceCtorEq, reduceIte, Nat.reduceEqDiff, h3, hb0, h1, hn0, ei]
    exact nxt _ _ (by simp only [go_sem, reduceCtorEq, h0]) (by simp only [go_sem]) (by rw [hk]; simp only [baseB, hn, hv, hw, h1, hn0]; simp)
theorem k76 (k : Int) (v : V) (u : Value) (l : List Ba) (h : RdG 7 Ba.cs F M u l) : CallsA Tryz.prog 76 [.int .i64 k, abV v u] F M (Same F M (.bool (absB k v l))) := by
  refine callsA_of hm Tryz.func76 e76 (Nat.le_of_ble_eq_true rfl) ?_
  have h' := h
  obtain ⟨hl, ad, cap, _, rfl, _⟩ := h
  simp only [c76, go_sem, reduceCtorEq]
  intro r3 hF3 hM3
  have h2 := h'.new hF3 hM3 (e := ⟨abCs v (.slice ad l.length cap), 68, 7⟩)
  by_cases h7 : k = 7
  · simp only [go_sem, reduceCtorEq, reduceIte, Nat.reduceEqDiff, Nat.reduceLeDiff, h7]
    cases hv : decide (v = V.zero)
    · simp only [go_sem, reduceCtorEq, reduceIte, Nat.reduceEqDiff]
      exact endK_drop hM3 (endK_same ⟨by simp only [absB, hv]; simp, rfl, rfl⟩)
    simp only [go_sem, Nat.reduceEqDiff]
    refine callK_same (k74 _ _ _ l h2) ?_
    simp only [go_sem, reduceIte, Nat.reduceEqDiff]
    exact endK_drop hM3 (endK_same ⟨by simp only [absB, hv]; simp, rfl, rfl⟩)
  · simp only [go_sem, reduceCtorEq, reduceIte, h7]
    refine callK_same (k51 _ _ k) ?_
    by_cases hw : 0 < wK k
    rotate_left
    · simp only [go_sem, reduceCtorEq, reduceIte, Nat.reduceEqDiff, hw]
      exact endK_drop hM3 (endK_same ⟨by simp [absB, h7, hw], rfl, rfl⟩)
    simp only [go_sem, reduceIte, Nat.reduceEqDiff, Nat.reduceLeDiff, hw]
    refine callK_same (k73 _ _ v) ?_
    cases hv : v.ok
    · simp only [go_sem, reduceCtorEq, reduceIte, Nat.reduceEqDiff]
      exact endK_drop hM3 (endK_same ⟨by simp [absB, h7, hv], rfl, rfl⟩)
    by_cases hvw : v.w = wK k
    rotate_left
    · simp only [go_sem, reduceCtorEq, reduceIte, Nat.reduceEqDiff, hvw]
      exact endK_drop hM3 (endK_same ⟨by simp [absB, h7, hvw], rfl, rfl⟩)
    by_cases hl0 : (l.length : Int) = 0
    · simp only [go_sem, reduceIte, Nat.reduceEqDiff, hvw, hl0]
      have hd : decide (l.length = 0) = true := by rw [decide_eq_true_eq]; omega
      exact endK_drop hM3 (endK_same ⟨by unfold absB; rw [if_neg h7, hv, hd]; simp [hw, hvw], rfl, rfl⟩)
    · simp only [go_sem, reduceIte, Nat.reduceEqDiff, hvw, hl0]
      have hd : decide (l.length = 0) = false := by rw [decide_eq_false_iff_not]; omega
      exact endK_drop hM3 (endK_same ⟨by unfold absB; rw [if_neg h7, hv, hd]; simp, rfl, rfl⟩)
end Go.Proofs.Tryz.K
namespace Go.Proofs.Tryz.K
open Go Go.Ax Go.Proofs.Tryz.S
set_option maxRecDepth 100000
set_option linter.unusedSimpArgs false
set_option linter.unusedVariables false
variable (F : Fz) (M : Hp)
def onI (l : List Ba) (ad : Option Addr) (cap : Nat) (v : V) (F0 : Fz) (M0 : Hp) (r3 r4 r8 : Nat) (m : Nat) (σ : Env) (F : Fz) (M : Hp) : Prop :=
  F = F0 ∧ Keep M0 M ∧ M0 r8 = none ∧ M0 r4 = none ∧ ¬ r3 = r8 ∧ ¬ r4 = r8 ∧ M r3 = some ⟨abCs v (.slice ad l.length cap), 68, 7⟩ ∧ M r4 = some ⟨(Sc.mk false 0 0 0).cs, 119, 4⟩ ∧
  (l = [] ∨ ∃ g p cs, ad = some ⟨g, p, none⟩ ∧ blk F0 M g = some cs ∧ ¬ g = r8 ∧ ∀ i (hi : i < l.length), p + i * 7 + 7 ≤ cs.length ∧ (cs.drop (p + i * 7)).take 7 = (l[i]).cs) ∧
  Ax.look σ 3 = some (.pointer (some ⟨r3, 0, none⟩)) ∧ Ax.look σ 4 = some (.pointer (some ⟨r4, 0, none⟩)) ∧ Ax.look σ 8 = some (.pointer (some ⟨r8, 0, none⟩)) ∧
  ∃ (i : Nat) (acc : Sc × Nat), i + m = l.length ∧ Ax.look σ 10 = some (.int .i64 i) ∧ Ax.look σ 9 = some (.int .i64 acc.2) ∧ M r8 = some ⟨acc.1.cs, 119, 4⟩ ∧ acc.2 ≤ 2 * i ∧ onlyP l = (l.drop i).foldl onlyStep acc
theorem k79 (k : Int) (v : V) (u : Value) (l : List Ba) (h : RdG 7 Ba.cs F M u l) (hs7 : l.length ≤ 1000000) (hv : ¬ k = 7 → v.ok = true) (hl : ∀ x ∈ l, 0 ≤ x.v.w ∧ x.v.w ≤ 62 ∧ x.v.ok = true) :
    CallsA Tryz.prog 79 [.int .i64 k, abV v u] F M (Same F M (.tuple #[(onlyB k v l).1.val, .bool (onlyB k v l).2])) := by
  refine callsA_of hm Tryz.func79 e79 (Nat.le_of_ble_eq_true rfl) ?_
  have h' := h
  obtain ⟨hle, ad, cap, _, rfl, _⟩ := h
  simp only [c79, go_sem, reduceCtorEq]
  intro r3 hF3 hM3
  simp only [go_sem, Nat.reduceAdd]
  intro r4 hF4 hM4
  have g4 := fresh_of hM4
  have h2 := (h'.new hF3 hM3 (e := ⟨abCs v (.slice ad l.length cap), 68, 7⟩)).new hF4 hM4 (e := ⟨(Sc.mk false 0 0 0).cs, 119, 4⟩)
  by_cases h7 : k = 7
  rotate_left
  · simp only [go_sem, reduceCtorEq, reduceIte, Nat.reduceEqDiff, Nat.reduceLeDiff, g4, h7]
    refine callK_same (k78 _ _ v (hv h7)) ?_
    simp only [onlyA_eq, go_sem, reduceIte, Nat.reduceEqDiff, Nat.reduceAdd, Nat.reduceLeDiff]
    exact endK_keep (M := M) (((Keep.refl M).new hM3).new g4.2.2) ⟨by simp [onlyB, h7], rfl, rfl⟩
  simp only [go_sem, reduceCtorEq, reduceIte, Nat.reduceAdd, h7]
  intro r8 hF8 hM8
  have g8 := fresh_of hM8
  have g82 := fresh_of g8.2.2
  simp only [go_sem]
  refine loop_of (onI l ad cap v F M r3 r4 r8) l.length ?_ ?_
  · refine ⟨rfl, (((Keep.refl M).new hM3).new g4.2.2).new g82.2.2, g82.2.2, g4.2.2, g82.2.1, g8.2.1, ?_, ?_, ?_, by simp only [go_sem, Nat.reduceEqDiff], by simp only [go_sem, Nat.reduceEqDiff], by simp only [go_sem, Nat.reduceEqDiff], 0, (⟨false, 0, 0, 0⟩, 0), by omega, by simp only [go_sem] <;> rfl, by simp only [go_sem, Nat.reduceEqDiff] <;> rfl, Hp.upd_same _ _ _, by omega, rfl⟩
    · rw [Hp.upd_ne' g82.2.1, Hp.upd_ne' g4.2.1]; exact Hp.upd_same _ _ _
    · rw [Hp.upd_ne' g8.2.1]; exact Hp.upd_same _ _ _
    · obtain ⟨_, ad', cap', _, e, h3⟩ := h2
      cases e
      rcases h3 with h3 | ⟨b, o, cs, e1, e2, e3⟩
      · exact .inl h3
      · have := blk_ne e2 hF8 (by rw [upd_none]; exact ⟨g8.1, by rw [upd_none]; exact ⟨g82.1, g82.2.2⟩⟩)
        exact .inr ⟨b, o, cs, e1, by rw [blk_upd_ne this]; exact e2, this, e3⟩
  clear g4 g8 g82 h2 hM8 hM4 hM3 hF8 hF4 hF3
  rintro m σ F' M' ⟨rfl, kp, n8, n4, n38, n48, f3, f4, hrow, q3, q4, q8, i, acc, hi, q10, q9, f8, ha2, hf⟩
  have b3 := blk_M (F := F') f3
  have b8 := blk_M (F := F') f8
  by_cases hil : (i : Int) < l.length
  · have hi0 : (0 : Int) ≤ i := by omega
    have hil' : i < l.length := by omega
    have ei : IntKind.i64.wrap ((i : Int) + 1) = i + 1 := w64 (by omega) (by omega)
    rcases hrow with hr | ⟨g, p, cs, rfl, hb, ng, hc⟩
    · rw [hr] at hil'; simp at hil'
    obtain ⟨d1, d2⟩ := hc i hil'
    obtain ⟨w0, w1, xok⟩ := hl l[i] (List.getElem_mem _)
    rw [List.drop_eq_getElem_cons hil', List.foldl_cons] at hf
    generalize l[i] = x at *
    obtain ⟨r1, r2, r3', r4'⟩ := ba_row d1 d2
    have hmp := mostV_pos w1
    have hnx := nextR_le xok 0
    simp only [go_sem, reduceIte, Nat.reduceEqDiff, q3, q10, hil, hi0, Int.toNat_natCast, b3, hb, r3', r4']
    refine callK_same (k116 _ _ x.v 0 w0 w1) ?_
    have e1 : IntKind.i64.wrap ((acc.2 : Int) + 1) = ((acc.2 + 1 : Nat) : Int) := w64 (by omega) (by omega)
    have e1' : IntKind.i64.wrap (((acc.2 + 1 : Nat) : Int) + 1) = ((acc.2 + 1 + 1 : Nat) : Int) := w64 (by omega) (by omega)
    have e2 : IntKind.i64.wrap (x.v.nextR 0 + 1) = x.v.nextR 0 + 1 := w64 (by omega) (by omega)
    have nxt : ∀ σ' (M2 : Hp) (acc' : Sc × Nat), Ax.look σ' 3 = Ax.look σ 3 → Ax.look σ' 4 = Ax.look σ 4 → Ax.look σ' 8 = Ax.look σ 8 → Ax.look σ' 10 = some (.int .i64 (i + 1)) → Ax.look σ' 9 = some (.int .i64 acc'.2) → onlyStep acc x = acc' → M2 = M'.upd r8 ⟨acc'.1.cs, 119, 4⟩ →
        ∃ m', m' < m ∧ onI l (some ⟨g, p, none⟩) cap v F' M r3 r4 r8 m' σ' F' M2 := by
      intro σ' M2 acc' p3 p4 p8 p10 p9 hs hM2
      subst hM2
      refine ⟨m - 1, by omega, rfl, kp.new n8, n8, n4, n38, n48, by rw [Hp.upd_ne' n38]; exact f3, by rw [Hp.upd_ne' n48]; exact f4, .inr ⟨g, p, cs, rfl, by rw [blk_upd_ne ng]; exact hb, ng, hc⟩, p3.trans q3, p4.trans q4, p8.trans q8, i + 1, acc', by omega, p10, p9, Hp.upd_same _ _ _, ?_, by rw [hf, hs]⟩
      rw [← hs]; unfold onlyStep; split
      · omega
      · simp only; split <;> omega
    have skip : ∀ σ', Ax.look σ' 3 = Ax.look σ 3 → Ax.look σ' 4 = Ax.look σ 4 → Ax.look σ' 8 = Ax.look σ 8 → Ax.look σ' 10 = some (.int .i64 (i + 1)) → Ax.look σ' 9 = Ax.look σ 9 → (x.v.nextR 0 < 0 ∨ 32 < x.v.nextR 0) → ∃ m', m' < m ∧ onI l (some ⟨g, p, none⟩) cap v F' M r3 r4 r8 m' σ' F' M' := by
      intro σ' p3 p4 p8 p10 p9 hs
      exact ⟨m - 1, by omega, rfl, kp, n8, n4, n38, n48, f3, f4, .inr ⟨g, p, cs, rfl, hb, ng, hc⟩, p3.trans q3, p4.trans q4, p8.trans q8, i + 1, acc, by omega, p10, p9.trans q9, f8, by omega, by rw [hf, onlyStep, if_pos hs]⟩
    by_cases h1 : x.v.nextR 0 < 0
    · simp only [go_sem, reduceIte, Nat.reduceEqDiff, q10, h1, ei]
      exact skip _ (by simp only [go_sem, Nat.reduceEqDiff]) (by simp only [go_sem, Nat.reduceEqDiff]) (by simp only [go_sem, Nat.reduceEqDiff]) (by simp only [go_sem]) (by simp only [go_sem, Nat.reduceEqDiff]) (.inl h1)
    by_cases h3 : 32 < x.v.nextR 0
    · simp only [go_sem, reduceCtorEq, reduceIte, Nat.reduceEqDiff, q10, h1, h3, ei]
      exact skip _ (by simp only [go_sem, Nat.reduceEqDiff]) (by simp only [go_sem, Nat.reduceEqDiff]) (by simp only [go_sem, Nat.reduceEqDiff]) (by simp only [go_sem]) (by simp only [go_sem, Nat.reduceEqDiff]) (.inr h3)
    have hs : ¬ (x.v.nextR 0 < 0 ∨ 32 < x.v.nextR 0) := by omega
    simp only [go_sem, reduceCtorEq, reduceIte, Nat.reduceEqDiff, q3, q9, q10, h1, h3, hil, hi0, Int.toNat_natCast, b3, hb, r3', r4', e1, e2]
    refine callK_same (k116 _ _ x.v _ w0 w1) ?_
    by_cases h4 : 0 ≤ x.v.nextR (x.v.nextR 0 + 1)
    · by_cases h5 : x.v.nextR (x.v.nextR 0 + 1) ≤ 32
      · simp only [go_sem, reduceIte, Nat.reduceEqDiff, Nat.reduceAdd, Nat.reduceLeDiff, q3, q8, q10, h4, h5, hil, hi0, Int.toNat_natCast, Nat.add_zero, b3, hb, r1, e1', f8, ei]
        simp only [setH, go_sem]
        exact nxt _ _ (⟨true, 0, x.b, x.v.nextR 0⟩, acc.2 + 1 + 1) (by simp only [go_sem, Nat.reduceEqDiff]) (by simp only [go_sem, Nat.reduceEqDiff]) (by simp only [go_sem, Nat.reduceEqDiff]) (by simp only [go_sem]) (by simp only [go_sem, Nat.reduceEqDiff]) (by rw [onlyStep, if_neg hs, if_pos ⟨h4, h5⟩]) rfl
      · simp only [go_sem, reduceIte, Nat.reduceEqDiff, Nat.reduceAdd, Nat.reduceLeDiff, q3, q8, q10, h4, h5, hil, hi0, Int.toNat_natCast, Nat.add_zero, b3, hb, r1, f8, ei]
        simp only [setH, go_sem]
        exact nxt _ _ (⟨true, 0, x.b, x.v.nextR 0⟩, acc.2 + 1) (by simp only [go_sem, Nat.reduceEqDiff]) (by simp only [go_sem, Nat.reduceEqDiff]) (by simp only [go_sem, Nat.reduceEqDiff]) (by simp only [go_sem]) (by simp only [go_sem, Nat.reduceEqDiff]) (by rw [onlyStep, if_neg hs, if_neg (fun h => h5 h.2)]) rfl
    · simp only [go_sem, reduceCtorEq, reduceIte, Nat.reduceEqDiff, Nat.reduceAdd, Nat.reduceLeDiff, q3, q8, q10, h4, hil, hi0, Int.toNat_natCast, Nat.add_zero, b3, hb, r1, f8, ei]
      simp only [setH, go_sem]
      exact nxt _ _ (⟨true, 0, x.b, x.v.nextR 0⟩, acc.2 + 1) (by simp only [go_sem, Nat.reduceEqDiff]) (by simp only [go_sem, Nat.reduceEqDiff]) (by simp only [go_sem, Nat.reduceEqDiff]) (by simp only [go_sem]) (by simp only [go_sem, Nat.reduceEqDiff]) (by rw [onlyStep, if_neg hs, if_neg (fun h => h4 h.1)]) rfl
  · have : l.drop i = [] := List.drop_eq_nil_of_le (by omega)
    rw [this] at hf
    simp only [List.foldl_nil] at hf
    simp only [go_sem, reduceIte, Nat.reduceEqDiff, q3, q4, q8, q9, q10, hil, b3, b8, f4]
    simp only [setH, go_sem, reduceIte]
    refine endK_keep (M := M) (kp.new n4) ⟨?_, rfl, rfl⟩
    simp only [onlyB, if_true, hf]
    congr 2
    simp
    omega
end Go.Proofs.Tryz.K
namespace Go.Proofs.Tryz.K
open Go Go.Ax Go.Proofs.Tryz.S
set_option maxRecDepth 100000
set_option linter.unusedSimpArgs false
set_option linter.unusedVariables false
variable (F : Fz) (M : Hp)
def ixB (l : List Ba) (p : Ba → Bool) (u f : Value) (F0 : Fz) (M0 : Hp) (m : Nat) (σ : Env) (F : Fz) (M : Hp) : Prop :=
  F = F0 ∧ M = M0 ∧ Ax.look σ 0 = some u ∧ Ax.look σ 1 = some f ∧ Ax.look σ 7 = some (.int .i64 l.length) ∧ ∃ i : Nat, i + m = l.length ∧ Ax.look σ 8 = some (.int .i64 i) ∧ l.any p = (l.drop i).any p
theorem k159 (u : Value) (l : List Ba) (g : Nat) (ca : List Value) (p : Ba → Bool) (h : RdG 7 Ba.cs F M u l)
    (hp : ∀ v ∈ l, CallsA Tryz.prog g ([v.val] ++ ca) F M (Same F M (.bool (p v)))) :
    CallsA Tryz.prog 159 [u, .func (.func g) #[] ca.toArray] F M fun r F' M' => F' = F ∧ M' = M ∧ ∃ z : Int, r = .int .i64 z ∧ (0 ≤ z ↔ l.any p = true) := by
  refine callsA_of hm Tryz.func159 e159 (Nat.le_of_ble_eq_true rfl) ?_
  obtain ⟨hl, ad, cap, hlc, rfl, h⟩ := h
  simp only [c159, go_sem, reduceCtorEq, Int.reduceNeg]
  refine loop_of (ixB l p (.slice ad l.length cap) (.func (.func g) #[] ca.toArray) F M) l.length ?_ ?_
  · exact ⟨rfl, rfl, by simp only [go_sem, reduceCtorEq], by simp only [go_sem, reduceCtorEq, Nat.reduceEqDiff], by simp only [go_sem, Nat.reduceEqDiff], 0, by omega, by simp only [go_sem] <;> rfl, rfl⟩
  rintro m σ F' M' ⟨rfl, rfl, h0, h1, h7, i, hi, h8, ha⟩
  by_cases hil : (i : Int) < l.length
  · have hi0 : (0 : Int) ≤ i := by omega
    have hil' : i < l.length := by omega
    have ei : IntKind.i64.wrap ((i : Int) + 1) = i + 1 := w64 (by omega) (by omega)
    rcases h with h | ⟨b, o, cs, rfl, hb, hc⟩
    · rw [h] at hil'; simp at hil'
    obtain ⟨d1, d2⟩ := hc i hil'
    rw [List.drop_eq_getElem_cons hil', List.any_cons] at ha
    have hq := hp l[i] (List.getElem_mem _)
    generalize l[i] = v at *
    simp only [go_sem, reduceCtorEq, reduceIte, Nat.reduceEqDiff, Int.reduceNeg, h0, h1, h7, h8, hil, hi0, Int.toNat_natCast, hb, d1, d2]
    refine callK_same hq ?_
    cases hv : p v
    · rw [hv, Bool.false_or] at ha
      simp only [go_sem, reduceIte, Nat.reduceEqDiff, Int.reduceNeg, h8, ei]
      exact ⟨m - 1, by omega, rfl, rfl, by simp only [go_sem, reduceCtorEq, h0], by simp only [go_sem, Nat.reduceEqDiff, h1], by simp only [go_sem, Nat.reduceEqDiff, h7], i + 1, by omega, by simp only [go_sem]; rfl, ha⟩
    · rw [hv, Bool.true_or] at ha
      simp only [go_sem, Nat.reduceEqDiff, Int.reduceNeg]
      exact endK_same ⟨rfl, rfl, _, rfl, by simp [ha]⟩
  · have : l.drop i = [] := List.drop_eq_nil_of_le (by omega)
    rw [this] at ha
    simp only [go_sem, reduceIte, Int.reduceNeg, h7, h8, hil]
    exact endK_same ⟨rfl, rfl, _, rfl, by rw [ha]; simp⟩
theorem k146 (u : Value) (l : List Ba) (g : Nat) (ca : List Value) (p : Ba → Bool) (h : RdG 7 Ba.cs F M u l)
    (hp : ∀ v ∈ l, CallsA Tryz.prog g ([v.val] ++ ca) F M (Same F M (.bool (p v)))) :
    CallsA Tryz.prog 146 [u, .func (.func g) #[] ca.toArray] F M (Same F M (.bool (l.any p))) := by
  refine callsA_of hm Tryz.func146 e146 (Nat.le_of_ble_eq_true rfl) ?_
  simp only [c146, go_sem, reduceCtorEq, Nat.reduceEqDiff]
  refine callK_of (k159 F M u l g ca p h hp) ?_
  rintro r G M' ⟨hG, rfl, z, rfl, hz⟩
  rw [hG]
  refine ⟨(fun h => by cases h), ?_⟩
  simp only [go_sem, reduceIte]
  have : decide (0 ≤ z) = l.any p := by
    cases hq : l.any p
    · rw [hq] at hz; simp at hz; simp; omega
    · simp [hz.2 hq]
  exact endK_same ⟨by rw [← this], rfl, rfl⟩
theorem k147 (x : Ba) (b o : Int) (p4 p5 : Nat) (e4 e5 : Ent) (h4 : M p4 = some e4) (c4 : e4.cells = [.int .i64 b]) (h5 : M p5 = some e5) (c5 : e5.cells = [.int .i64 o]) :
    CallsA Tryz.prog 147 [x.val, .pointer (some ⟨p4, 0, none⟩), .pointer (some ⟨p5, 0, none⟩)] F M (Same F M (.bool (decide (x.b = b) && x.v.has o))) := by
  refine callsA_of hm Tryz.func147 e147 (Nat.le_of_ble_eq_true rfl) ?_
  have b4 := blk_M (F := F) h4
  have b5 := blk_M (F := F) h5
  rw [c4] at b4
  rw [c5] at b5
  simp only [c147, go_sem, Nat.reduceAdd]
  intro r3 hF3 hM3
  have g4 := ne_of_none hM3 h4
  have g5 := ne_of_none hM3 h5
  by_cases hx : x.b = b
  · simp only [go_sem, reduceCtorEq, reduceIte, Nat.reduceEqDiff, Nat.reduceAdd, g4, g5, b4, b5, hx]
    refine callK_same (k122 _ _ x.v o) ?_
    simp only [go_sem, reduceIte, Nat.reduceEqDiff]
    exact endK_drop hM3 (endK_same ⟨by simp, rfl, rfl⟩)
  · simp only [go_sem, reduceCtorEq, reduceIte, Nat.reduceEqDiff, g4, b4, hx]
    exact endK_drop hM3 (endK_same ⟨by simp, rfl, rfl⟩)
theorem k123 (u : Value) (l : List Ba) (b o : Int) (h : RdG 7 Ba.cs F M u l) : CallsA Tryz.prog 123 [u, .int .i64 b, .int .i64 o] F M (Same F M (.bool (decide (o ≤ 32) && pointsB l b o))) := by
  refine callsA_of hm Tryz.func123 e123 (Nat.le_of_ble_eq_true rfl) ?_
  have h' := h
  obtain ⟨_, ad, cap, _, rfl, _⟩ := h
  simp only [c123, go_sem, reduceCtorEq, Nat.reduceAdd]
  intro r4 hF4 hM4
  simp only [go_sem, reduceCtorEq, Nat.reduceEqDiff]
  intro r5 hF5 hM5
  have g5 := fresh_of hM5
  by_cases ho : o ≤ 32
  · have h2 := (h'.new hF4 hM4 (e := ⟨[.int .i64 b], 3, 1⟩)).new hF5 hM5 (e := ⟨[.int .i64 o], 3, 1⟩)
    simp only [go_sem, reduceCtorEq, reduceIte, Nat.reduceEqDiff, ho]
    refine callK_same (k146 F _ _ l _ [.pointer (some ⟨r4, 0, none⟩), .pointer (some ⟨r5, 0, none⟩)] (fun x => decide (x.b = b) && x.v.has o) h2 ?_) ?_
    · intro x hx
      exact k147 F _ x b o r4 r5 _ _ (by rw [Hp.upd_ne' g5.2.1]; exact Hp.upd_same _ _ _) rfl (Hp.upd_same _ _ _) rfl
    simp only [go_sem, reduceIte, Nat.reduceEqDiff]
    exact endK_drop hM5 (endK_drop hM4 (endK_same ⟨by simp [pointsB], rfl, rfl⟩))
  · simp only [go_sem, reduceCtorEq, reduceIte, Nat.reduceEqDiff, ho]
    exact endK_drop hM5 (endK_drop hM4 (endK_same ⟨by simp, rfl, rfl⟩))
def holdsB (k : Int) (v : V) (l : List Ba) (s : Sc) : Bool := if k = 7 then decide (s.o ≤ 32) && pointsB l s.b s.o else v.has s.n
theorem k124 (k : Int) (v : V) (u : Value) (l : List Ba) (s : Sc) (h : RdG 7 Ba.cs F M u l) : CallsA Tryz.prog 124 [.int .i64 k, abV v u, s.val] F M (Same F M (.bool (holdsB k v l s))) := by
  refine callsA_of hm Tryz.func124 e124 (Nat.le_of_ble_eq_true rfl) ?_
  have h' := h
  obtain ⟨_, ad, cap, _, rfl, _⟩ := h
  simp only [c124, go_sem, reduceCtorEq, Nat.reduceAdd]
  intro r4 hF4 hM4
  simp only [go_sem, reduceCtorEq, Nat.reduceEqDiff]
  intro r5 hF5 hM5
  have g5 := fresh_of hM5
  have h2 := (h'.new hF4 hM4 (e := ⟨abCs v (.slice ad l.length cap), 68, 7⟩)).new hF5 hM5 (e := ⟨s.cs, 119, 4⟩)
  by_cases h7 : k = 7
  · simp only [go_sem, reduceCtorEq, reduceIte, Nat.reduceEqDiff, g5, h7]
    refine callK_same (k123 _ _ _ l s.b s.o h2) ?_
    simp only [go_sem]
    exact endK_drop hM5 (endK_drop hM4 (endK_same ⟨by simp [holdsB], rfl, rfl⟩))
  · simp only [go_sem, reduceCtorEq, reduceIte, Nat.reduceEqDiff, Nat.reduceLeDiff, g5, h7]
    refine callK_same (k122 _ _ v s.n) ?_
    simp only [go_sem]
    exact endK_drop hM5 (endK_drop hM4 (endK_same ⟨by simp [holdsB, h7], rfl, rfl⟩))
theorem baseB_eq (x : Ba) : baseB x = ((decide (0 ≤ x.b) && decide (x.b ≤ 6)) && x.v.ok && decide (x.v.w = 8) && (decide (0 < x.b) || x.v.is1 && decide (x.v.nextR 0 = 0))) := by
  unfold baseB
  by_cases h0 : 0 ≤ x.b
  · by_cases h1 : x.b = 0
    · simp [h1]
    · have : 0 < x.b := by omega
      simp [h1, this]
  · simp [h0]
theorem k163 (x : Ba) : CallsA Tryz.prog 163 [x.val] F M (Same F M (.bool (baseB x))) := by
  refine callsA_of hm Tryz.func163 e163 (Nat.le_of_ble_eq_true rfl) ?_
  rw [baseB_eq]
  simp only [c163, go_sem]
  intro r1 hF1 hM1
  by_cases h0 : x.b < 0
  · have : ¬ 0 ≤ x.b := by omega
    simp only [go_sem, reduceIte, Nat.reduceEqDiff, h0]
    exact endK_drop hM1 (endK_same ⟨by simp [this], rfl, rfl⟩)
  by_cases h6 : 6 < x.b
  · have : ¬ x.b ≤ 6 := by omega
    simp only [go_sem, reduceCtorEq, reduceIte, Nat.reduceEqDiff, h0, h6]
    exact endK_drop hM1 (endK_same ⟨by simp [this], rfl, rfl⟩)
  by_cases hw : x.v.w = 8
  rotate_left
  · simp only [go_sem, reduceCtorEq, reduceIte, Nat.reduceEqDiff, Nat.reduceAdd, h0, h6, hw]
    exact endK_drop hM1 (endK_same ⟨by simp [], rfl, rfl⟩)
  simp only [go_sem, reduceCtorEq, reduceIte, Nat.reduceEqDiff, Nat.reduceAdd, h0, h6, hw]
  refine callK_same (k154 _ _ x.v) ?_
  cases hv : x.v.ok
  · simp only [go_sem, reduceCtorEq, reduceIte, Nat.reduceEqDiff]
    exact endK_drop hM1 (endK_same ⟨by simp, rfl, rfl⟩)
  have e0 : 0 ≤ x.b := by omega
  have e6 : x.b ≤ 6 := by omega
  simp only [go_sem, reduceCtorEq, reduceIte, Nat.reduceEqDiff, Nat.reduceAdd]
  refine callK_same (k164 _ _ x.v hv) ?_
  by_cases hb : 0 < x.b
  · simp only [loneA, go_sem, reduceIte, Nat.reduceEqDiff, hb]
    exact endK_drop hM1 (endK_same ⟨by simp [e0, e6], rfl, rfl⟩)
  cases h1 : x.v.is1
  · simp only [loneA, go_sem, reduceCtorEq, reduceIte, Nat.reduceEqDiff, hb, h1]
    exact endK_drop hM1 (endK_same ⟨by simp [], rfl, rfl⟩)
  · simp only [loneA, go_sem, reduceCtorEq, reduceIte, Nat.reduceEqDiff, hb, h1]
    exact endK_drop hM1 (endK_same ⟨by simp [e0, e6], rfl, rfl⟩)
end Go.Proofs.Tryz.K
namespace Go.Proofs.Tryz.K
open Go Go.Ax Go.Proofs.Tryz.S
set_option maxRecDepth 100000
set_option linter.unusedSimpArgs false
set_option linter.unusedVariables false
variable (F : Fz) (M : Hp)
def mpI (l : List Ba) (u : Value) (F0 : Fz) (M0 : Hp) (m : Nat) (σ : Env) (F : Fz) (M : Hp) : Prop :=
  F = F0 ∧ Keep M0 M ∧ Old' F0 M0 M ∧ Ax.look σ 0 = some u ∧ Ax.look σ 5 = some u ∧ Ax.look σ 6 = some (.int .i64 l.length) ∧ ∃ i : Nat, i + m = l.length ∧ Ax.look σ 7 = some (.int .i64 i) ∧ ∀ j, j < i → okAt l j = true
theorem k155 (u : Value) (l : List Ba) (h : RdG 7 Ba.cs F M u l) : CallsA Tryz.prog 155 [u] F M (Same F M (.bool (ptrsB l))) := by
  refine callsA_of hm Tryz.func155 e155 (Nat.le_of_ble_eq_true rfl) ?_
  have h' := h
  obtain ⟨hl, ad, cap, hlc, rfl, _⟩ := h
  simp only [c155, go_sem, reduceCtorEq]
  refine loop_of (mpI l (.slice ad l.length cap) F M) l.length ?_ ?_
  · exact ⟨rfl, Keep.refl _, fun h => h, by simp only [go_sem, reduceCtorEq], by simp only [go_sem, Nat.reduceEqDiff], by simp only [go_sem, Nat.reduceEqDiff], 0, by omega, by simp only [go_sem] <;> rfl, by omega⟩
  rintro m σ F' M' ⟨rfl, kp, ro, h0, h5, h6, i, hi, h7, hok⟩
  by_cases hil : (i : Int) < l.length
  rotate_left
  · simp only [go_sem, reduceIte, h6, h7, hil]
    exact endK_keep kp ⟨by rw [ptrs_all (fun j hj => hok j (by omega))], rfl, rfl⟩
  have hi0 : (0 : Int) ≤ i := by omega
  have hil' : i < l.length := by omega
  have ei : IntKind.i64.wrap ((i : Int) + 1) = i + 1 := w64 (by omega) (by omega)
  have ei1 : IntKind.i64.wrap ((i : Int) - 1) = i - 1 := w64 (by omega) (by omega)
  obtain ⟨_, _, _, _, eu, hrd⟩ := ro h'
  cases eu
  rcases hrd with h | ⟨g, p, cs, rfl, hb, hc⟩
  · rw [h] at hil'; simp at hil'
  obtain ⟨d1, d2⟩ := hc i hil'
  have hget : l[i]? = some l[i] := by simp
  simp only [go_sem, reduceIte, Nat.reduceEqDiff, Nat.reduceAdd, h5, h6, h7, hil, hi0, Int.toNat_natCast, hb, d1, d2]
  intro r hF hM
  have bg := blk_ne hb hF hM
  have no : okAt l i = false → ptrsB l = false := fun h => ptrs_no hil' h
  have kp2 : ∀ e, Keep M (M'.upd r e) := fun e => kp.new (kp.free hM)
  have ok1 : okAt l i = (baseB l[i] && (decide (i = 0) || match l[i - 1]? with | none => true | some y => decide (y.b < l[i].b))) := by
    unfold okAt; rw [hget] <;> rfl
  have prev : (0 : Int) < i → ∃ y, l[i - 1]? = some y ∧ cs[p + (i - 1) * 7]? = some (.int .i64 y.b) := by
    intro hi1
    obtain ⟨e1, e2⟩ := hc (i - 1) (by omega)
    exact ⟨l[i - 1], List.getElem?_eq_getElem (by omega), (ba_row e1 e2).1⟩
  have nxt : ∀ σ' e, Ax.look σ' 0 = some (.slice (some ⟨g, p, none⟩) l.length cap) → Ax.look σ' 5 = some (.slice (some ⟨g, p, none⟩) l.length cap) → Ax.look σ' 6 = some (.int .i64 l.length) → Ax.look σ' 7 = some (.int .i64 (i + 1)) → okAt l i = true → ∃ m', m' < m ∧ mpI l (.slice (some ⟨g, p, none⟩) l.length cap) F' M m' σ' F' (M'.upd r e) := by
    intro σ' e q0 q5 q6 q7 hk
    refine ⟨m - 1, by omega, rfl, kp2 e, fun h => (ro h).new hF hM, q0, q5, q6, i + 1, by omega, q7, fun j hj => ?_⟩
    rcases Nat.lt_or_ge j i with h | h
    · exact hok j h
    · have : j = i := by omega
      rw [this]; exact hk
  generalize l[i] = x at *
  simp only [go_sem, reduceIte, Nat.reduceEqDiff, Nat.reduceAdd]
  refine callK_same (k163 _ _ x) ?_
  cases hbx : baseB x
  · have hno : ptrsB l = false := no (by rw [ok1, hbx]; rfl)
    simp only [go_sem, reduceIte, Nat.reduceEqDiff]
    exact endK_keep (kp2 _) ⟨by rw [hno], rfl, rfl⟩
  rw [hbx, Bool.true_and] at ok1
  by_cases hi1 : (0 : Int) < i
  · obtain ⟨y, y1, y2⟩ := prev hi1
    have i1 : (0 : Int) ≤ (i : Int) - 1 := by omega
    have i2 : (i : Int) - 1 < l.length := by omega
    have i3 : ((i : Int) - 1).toNat = i - 1 := by omega
    have hi0' : ¬ i = 0 := by omega
    rw [y1] at ok1
    by_cases hyx : x.b ≤ y.b
    · have hno : ptrsB l = false := no (by rw [ok1]; simp [hi0']; omega)
      simp only [go_sem, reduceCtorEq, reduceIte, Nat.reduceEqDiff, h0, hi1, ei1, i1, i2, i3, bg, hb, y2, Nat.add_zero, hyx]
      exact endK_keep (kp2 _) ⟨by rw [hno], rfl, rfl⟩
    · simp only [go_sem, reduceCtorEq, reduceIte, Nat.reduceEqDiff, h0, h7, hi1, ei1, i1, i2, i3, bg, hb, y2, Nat.add_zero, hyx, ei]
      exact nxt _ _ (by simp only [go_sem, reduceCtorEq, h0]) (by simp only [go_sem, Nat.reduceEqDiff, h5]) (by simp only [go_sem, Nat.reduceEqDiff, h6]) (by simp only [go_sem]) (by rw [ok1]; simp; omega)
  · have hi0' : i = 0 := by omega
    simp only [go_sem, reduceCtorEq, reduceIte, Nat.reduceEqDiff, h7, hi1, ei]
    exact nxt _ _ (by simp only [go_sem, reduceCtorEq, h0]) (by simp only [go_sem, Nat.reduceEqDiff, h5]) (by simp only [go_sem, Nat.reduceEqDiff, h6]) (by simp only [go_sem]) (by rw [ok1]; simp [hi0'])
theorem k156 (k : Int) (v : V) (u : Value) (l : List Ba) (h : RdG 7 Ba.cs F M u l) : CallsA Tryz.prog 156 [.int .i64 k, abV v u] F M (Same F M (.bool (absB k v l))) := by
  refine callsA_of hm Tryz.func156 e156 (Nat.le_of_ble_eq_true rfl) ?_
  have h' := h
  obtain ⟨hl, ad, cap, _, rfl, _⟩ := h
  simp only [c156, go_sem, reduceCtorEq]
  intro r3 hF3 hM3
  have h2 := h'.new hF3 hM3 (e := ⟨abCs v (.slice ad l.length cap), 68, 7⟩)
  simp only [go_sem, reduceCtorEq]
  refine callK_same (k102 _ _ k) ?_
  cases hk : isK k
  · have hw0 : ¬ 0 < wK k := by simp [wK, hk]
    by_cases h7 : k = 7
    · simp only [go_sem, reduceCtorEq, reduceIte, Nat.reduceEqDiff, Nat.reduceLeDiff, h7]
      cases hv : decide (v = V.zero)
      · simp only [go_sem, reduceCtorEq, reduceIte, Nat.reduceEqDiff]
        exact endK_drop hM3 (endK_same ⟨by simp only [absB, hv]; simp, rfl, rfl⟩)
      simp only [go_sem, Nat.reduceEqDiff]
      refine callK_same (k155 _ _ _ l h2) ?_
      simp only [go_sem, reduceIte, Nat.reduceEqDiff]
      exact endK_drop hM3 (endK_same ⟨by simp only [absB, hv]; simp, rfl, rfl⟩)
    · simp only [go_sem, reduceCtorEq, reduceIte, h7]
      exact endK_drop hM3 (endK_same ⟨by unfold absB; rw [if_neg h7]; simp [hw0], rfl, rfl⟩)
  · have h7 : ¬ k = 7 := by rintro rfl; rw [not_isK7] at hk; cases hk
    have e0 : wK k = ofW k := wK_of hk
    have hpw := pow_w (ofW_isW k)
    have e1 : (0 : Int) < ofW k := by omega
    simp only [go_sem, reduceIte, Nat.reduceEqDiff, Nat.reduceLeDiff]
    refine callK_same (k154 _ _ v) ?_
    cases hv : v.ok
    · simp only [go_sem, reduceCtorEq, reduceIte, Nat.reduceEqDiff]
      exact endK_drop hM3 (endK_same ⟨by simp [absB, h7, hv], rfl, rfl⟩)
    simp only [go_sem, reduceCtorEq, Nat.reduceEqDiff]
    refine callK_same (k112 _ _ k hk) ?_
    by_cases hvw : v.w = ofW k
    rotate_left
    · simp only [go_sem, reduceCtorEq, reduceIte, Nat.reduceEqDiff, hvw]
      exact endK_drop hM3 (endK_same ⟨by simp [absB, h7, e0, hvw], rfl, rfl⟩)
    by_cases hl0 : (l.length : Int) = 0
    · simp only [go_sem, reduceIte, Nat.reduceEqDiff, hvw, hl0]
      have hd : decide (l.length = 0) = true := by rw [decide_eq_true_eq]; omega
      exact endK_drop hM3 (endK_same ⟨by unfold absB; rw [if_neg h7, hv, hd, e0]; simp [e1, hvw], rfl, rfl⟩)
    · simp only [go_sem, reduceIte, Nat.reduceEqDiff, hvw, hl0]
      have hd : decide (l.length = 0) = false := by rw [decide_eq_false_iff_not]; omega
      exact endK_drop hM3 (endK_same ⟨by unfold absB; rw [if_neg h7, hv, hd]; simp, rfl, rfl⟩)
end Go.Proofs.Tryz.K
namespace Go.Ax
open Go
set_option linter.unusedVariables false
set_option linter.unusedSimpArgs false
abbrev shBa : Sh := .cons 1 (.int .i64) (.cons 6 shV .nil)
abbrev shAb : Sh := .cons 6 shV (.cons 1 (.slice 7 56 shBa) .nil)
structure Ab where
  v : V
  a : Option Addr
  n : Nat
  c : Nat
def Ab.u (x : Ab) : Value := .slice x.a x.n x.c
def Ab.cs (x : Ab) : List Value := abCs x.v x.u
theorem rd_V {B : Bk} {x : List Value} (hlen : x.length = 6) (h : Rd B shV x) : ∃ v : V, x = v.cs := by
  obtain ⟨_, ⟨n0, e0, _⟩, _, ⟨n1, e1⟩, _, ⟨n2, e2, _⟩, _, ⟨n3, e3, _⟩, _, ⟨n4, e4, _⟩, _, ⟨n5, e5, _⟩, _⟩ := h
  match x, hlen with
  | [x0, x1, x2, x3, x4, x5], _ =>
    simp at e0 e1 e2 e3 e4 e5
    subst e0; subst e1; subst e2; subst e3; subst e4; subst e5
    exact ⟨⟨n0, n1, n2, n3, n4, n5⟩, rfl⟩
theorem rd_Ba {B : Bk} {x : List Value} (hlen : x.length = 7) (h : Rd B shBa x) : ∃ s : Ba, x = s.cs := by
  obtain ⟨_, ⟨n0, e0, _⟩, h1, h2, _⟩ := h
  match x, hlen with
  | [x0, x1, x2, x3, x4, x5, x6], _ =>
    simp at e0
    subst e0
    obtain ⟨v, hv⟩ := rd_V (x := [x1, x2, x3, x4, x5, x6]) rfl h2
    exact ⟨⟨n0, v⟩, by rw [Ba.cs, ← hv]⟩
def Ab.row (B : Bk) (x : Ab) : Prop := ∃ l : List Ba, l.length = x.n ∧ l.length ≤ 140737488351232 ∧ ∀ (F : Fz) (M : Hp), (∀ b c, B b = some c → blk F M b = some c) → RdG 7 Ba.cs F M x.u l
theorem rd_Ab {B : Bk} {x : List Value} (hlen : x.length = 7) (h : Rd B shAb x) : ∃ s : Ab, x = s.cs ∧ s.row B := by
  obtain ⟨h0, h1, h2, h3, _⟩ := h
  match x, hlen with
  | [x0, x1, x2, x3, x4, x5, x6], _ =>
    obtain ⟨v, hv⟩ := rd_V (x := [x0, x1, x2, x3, x4, x5]) rfl h1
    have h3' : Rd B (.slice 7 56 shBa) [x6] := h3
    obtain ⟨a, cap, l, e, hl, _, hr⟩ := rdG_of (Q := fun _ : Ba => True) h3' (by decide) (by decide) (fun y hy hyr => by
      obtain ⟨s, hs⟩ := rd_Ba hy hyr
      exact ⟨s, hs, trivial⟩)
    refine ⟨⟨v, a, l.length, cap⟩, ?_, l, rfl, hl, hr⟩
    show _ = v.cs ++ [Value.slice a l.length cap]
    rw [← hv, e]; rfl
end Go.Ax
namespace Go.Proofs.Tryz.K
open Go Go.Ax Go.Proofs.Tryz.S
set_option maxRecDepth 100000
set_option linter.unusedSimpArgs false
set_option linter.unusedVariables false
variable (F : Fz) (M : Hp)
theorem k21 (v : V) (a : Option Addr) (n c : Nat) (hn : n ≤ 140737488351232) : CallsA Tryz.prog 21 [abV v (.slice a n c)] F M (Same F M (.int .i64 (1 + n))) := by
  refine callsA_of hm Tryz.func21 e21 (Nat.le_of_ble_eq_true rfl) ?_
  have e1 : IntKind.i64.wrap (1 + (n : Int)) = 1 + n := w64 (by omega) (by omega)
  simp only [c21, go_sem]
  intro r hF hM
  simp only [go_sem, reduceIte, Nat.reduceEqDiff, e1]
  exact endK_drop hM (endK_same ⟨rfl, rfl, rfl⟩)
end Go.Proofs.Tryz.K
namespace Go.Ax
open Go
set_option linter.unusedVariables false
set_option maxRecDepth 100000
theorem pt_one : ∀ b : Nat, b < 7 → ∀ o : Nat, o < 33 → (0 < b ∨ o = 0) → ptrsB [⟨b, V.just 8 o⟩] = true ∧ onlyP [⟨b, V.just 8 o⟩] = (⟨true, 0, b, o⟩, 1) ∧ (V.just 8 o).ok = true := by decide +kernel
theorem rd_slice0 {B : Bk} {sz bytes n cap : Nat} {e : Sh} {a : Option Addr} (h : Rd B (.slice sz bytes e) [.slice a n cap]) : a = none → cap = 0 := by
  obtain ⟨v', rows, h1, ⟨a', cap', e1, hl, hm, h0, _⟩, _⟩ := h
  cases h1
  cases e1
  exact h0
theorem flat_of_rows {α : Type} {sz : Nat} {f : α → List Value} {cs : List Value} : ∀ (l : List α) (o : Nat), (∀ i (hi : i < l.length), (cs.drop (o + i * sz)).take sz = f l[i]) → (cs.drop o).take (l.length * sz) = l.flatMap f
  | [], o, _ => by simp
  | x :: l, o, h => by
    have h0 := h 0 (by simp)
    have ih := flat_of_rows l (o + sz) (fun i hi => by
      have := h (i + 1) (by simpa using hi)
      rw [Nat.succ_mul, Nat.add_comm (i * sz) sz, ← Nat.add_assoc] at this
      simpa using this)
    rw [Nat.zero_mul, Nat.add_zero] at h0
    rw [List.length_cons, Nat.succ_mul, Nat.add_comm (l.length * sz) sz, List.take_add, List.drop_drop, h0, ih]
    rfl
theorem RdG.src {α : Type} {sz : Nat} {f : α → List Value} {F : Fz} {M : Hp} {a : Option Addr} {cap : Nat} {l : List α} (hf : ∀ x, (f x).length = sz) (h : RdG sz f F M (.slice a l.length cap) l) (h0 : a = none → cap = 0) : Src F M sz (.slice a l.length cap) l.length (l.flatMap f) := by
  obtain ⟨_, a', cap', hc, e, h⟩ := h
  cases e
  refine ⟨flatG_len hf l, ?_⟩
  cases a with
  | none =>
    have := h0 rfl
    subst this
    have hl : l.length = 0 := by omega
    exact .inl ⟨by rw [hl], hl⟩
  | some ad =>
    refine .inr ⟨ad, cap, rfl, ?_⟩
    rcases h with h | ⟨b, o, cs, e, hb, hr⟩
    · exact .inl (by rw [h]; rfl)
    · cases e
      exact .inr ⟨b, o, cs, rfl, hb, flat_of_rows l o (fun i hi => (hr i hi).2)⟩
end Go.Ax
namespace Go.Ax
open Go
set_option linter.unusedVariables false
structure MineG {α : Type} (sz : Nat) (f : α → List Value) (e : TypeId) (F : Fz) (M0 M : Hp) (u : Value) (l : List α) : Prop where
  own : OwnG sz f e F M u l
  new : ∀ g n c, u = .slice (some ⟨g, 0, none⟩) n c → M0 g = none
theorem MineG.nil {α : Type} {sz : Nat} {f : α → List Value} {e : TypeId} {F : Fz} {M0 M : Hp} : MineG sz f e F M0 M (.slice none 0 0) ([] : List α) := ⟨.inl ⟨rfl, rfl⟩, fun g n c h => by cases h⟩
theorem MineG.fresh {α : Type} {sz : Nat} {f : α → List Value} {e : TypeId} {F : Fz} {M0 M : Hp} {u : Value} {l : List α} (h : MineG sz f e F M0 M u l) {r : Nat} {x : Ent} (hM : M r = none) : MineG sz f e F M0 (M.upd r x) u l := ⟨h.own.new hM, h.new⟩
theorem OwnG.keep {α : Type} {sz : Nat} {f : α → List Value} {e : TypeId} {F : Fz} {M M' : Hp} {u : Value} {l : List α} (h : OwnG sz f e F M u l) (kp : Keep M M') : OwnG sz f e F M' u l := by
  rcases h with h | ⟨g, cap, h1, h2, h3, h4⟩
  · exact .inl h
  · exact .inr ⟨g, cap, h1, h2, kp _ _ h3, h4⟩
theorem MineG.keep {α : Type} {sz : Nat} {f : α → List Value} {e : TypeId} {F : Fz} {M0 M M' : Hp} {u : Value} {l : List α} (h : MineG sz f e F M0 M u l) (kp : Keep M M') : MineG sz f e F M0 M' u l := ⟨h.own.keep kp, h.new⟩
theorem MineG.shape {α : Type} {sz : Nat} {f : α → List Value} {e : TypeId} {F : Fz} {M0 M : Hp} {u : Value} {l : List α} (h : MineG sz f e F M0 M u l) : ∃ a c, u = .slice a l.length c := by
  rcases h.own with ⟨h1, h2⟩ | ⟨g, cap, h1, _⟩
  · exact ⟨none, 0, by rw [h1, h2]; rfl⟩
  · exact ⟨_, cap, h1⟩
def rowR {α : Type} (sz : Nat) (f : α → List Value) (e : TypeId) (l : List α) (F : Fz) (M : Hp) (u : Value) (F' : Fz) (M' : Hp) : Prop :=
  F' = F ∧ ((l = [] ∧ u = .slice none 0 0 ∧ M' = M) ∨ ∃ g cap, F g = none ∧ M g = none ∧ u = .slice (some ⟨g, 0, none⟩) l.length cap ∧ (l.length ≤ cap ∧ cap ≤ maxLen) ∧ M' = M.upd g ⟨l.flatMap f, e, cap * sz⟩)
theorem rowR.le {α : Type} {sz : Nat} {f : α → List Value} {e : TypeId} {l : List α} {F : Fz} {M : Hp} {u : Value} {F' : Fz} {M' : Hp} (hf : ∀ x, (f x).length = sz) (h : rowR sz f e l F M u F' M') (hl : l.length ≤ 4611686018427387904) :
    F' = F ∧ Le F M F M' ∧ Keep M M' ∧ (Old F M → Old F M') ∧ ∃ a c, u = .slice a l.length c ∧ RdG sz f F M' (.slice a l.length c) l := by
  obtain ⟨hF, h⟩ := h
  refine ⟨hF, ?_⟩
  rcases h with ⟨rfl, rfl, rfl⟩ | ⟨g, cap, h1, h2, rfl, h4, rfl⟩
  · exact ⟨Le.refl _ _, Keep.refl _, fun h => h, none, 0, rfl, rdG_nil⟩
  · exact ⟨Le.upd h1 h2, (Keep.refl _).new h2, fun h => h.upd h1, _, _, rfl, rdG_flat hf hl h4.1 blk_upd_same⟩
theorem MineG.done {α : Type} {sz : Nat} {f : α → List Value} {e : TypeId} {F : Fz} {M0 M : Hp} {u : Value} {l : List α} (h : MineG sz f e F M0 M u l) (kp : Keep M0 M) : endK F M (rowR sz f e l F M0) u := by
  rcases h.own with ⟨h1, h2⟩ | ⟨g, cap, h1, h2, h3, h4, h5⟩
  · exact endK_keep kp ⟨rfl, .inl ⟨h2, h1, rfl⟩⟩
  · exact endK_keep (kp.one h3) ⟨rfl, .inr ⟨g, cap, h2, h.new _ _ _ h1, h1, ⟨h4, h5⟩, rfl⟩⟩
theorem apMG_of {α : Type} {sz bytes : Nat} {f : α → List Value} {P : Program} {s : Bool} {d : Option Nat} {l : List SO} {K : Env → Fz → Hp → Prop} {σ : Env} {F : Fz} {M0 M : Hp} {e : TypeId} {v u : Value} {xs ys : List α}
    (hf : ∀ x, (f x).length = sz) (hp : ∀ x, plainCells (f x)) (hbytes : bytes ≤ 1000) (h : MineG sz f e F M0 M v xs) (kp : Keep M0 M) (hs : Src F M sz u ys.length (ys.flatMap f)) (hy : 0 < ys.length) (hb : xs.length + ys.length ≤ 1000000)
    (hk : ∀ v' M', (∃ g c, v' = .slice (some ⟨g, 0, none⟩) (xs ++ ys).length c) → (∀ r x, M r = some x → ¬ x.elem = e → M' r = some x) → Keep M0 M' → (Old F M → Old F M') → MineG sz f e F M0 M' v' (xs ++ ys) → opsW P s l K (put σ d v') F M') :
    apK P s d l K σ F M e sz bytes (some v) (some u) := by
  refine apG_of hf hp hbytes h.own hs hy hb ?_
  rintro g cap M2 hgo gF rfl own2
  have g0 : M0 g = none := by
    rcases hgo with h1 | ⟨c, rfl⟩
    · exact kp.free h1
    · exact h.new _ _ _ rfl
  refine hk _ _ ⟨g, cap, rfl⟩ (fun r x hr hx => ?_) (kp.new g0) (fun h => h.upd gF) ⟨own2, fun g' n c h => by cases h; exact g0⟩
  have : ¬ r = g := by
    rcases hgo with h1 | ⟨c, rfl⟩
    · exact (ne_of_none h1 hr).1
    · exact h.own.ne hr hx
  rw [Hp.upd_ne' this]; exact hr
theorem decEq_Ba (a b : Ba) : decide (a = b) = (decide (a.b = b.b) && (decide (a.v = b.v) && true)) := by
  apply Bool.eq_iff_iff.2
  cases a; cases b
  simp
end Go.Ax
namespace Go.Ax
open Go
set_option linter.unusedVariables false
@[go_sem] theorem eqV_Ba (a b : Ba) : eqV (.st [(false, 0, 1, .i), (true, 1, 6, (.st [(false, 0, 1, .i), (false, 1, 1, .b), (false, 2, 1, .i), (false, 3, 1, .i), (false, 4, 1, .i), (false, 5, 1, .i)]))]) a.val b.val = some (decide (a = b)) := by
  rw [decEq_Ba]
  have e1 : rd true 6 a.cs 1 = some a.v.val := rfl
  have e2 : rd true 6 b.cs 1 = some b.v.val := rfl
  have e3 : rd false 1 a.cs 0 = some (.int .i64 a.b) := rfl
  have e4 : rd false 1 b.cs 0 = some (.int .i64 b.b) := rfl
  simp only [eqV, eqFs, Ba.val, e1, e2, e3, e4]
  have := eqV_V a.v b.v
  simp only [eqV] at this
  simp [this]
theorem rowR.own {α : Type} {sz : Nat} {f : α → List Value} {e : TypeId} {l : List α} {F : Fz} {M : Hp} {u : Value} {F' : Fz} {M' : Hp} (h : rowR sz f e l F M u F' M') : OwnG sz f e F M' u l := by
  obtain ⟨_, ⟨h1, h2, _⟩ | ⟨g, cap, h1, _, h3, h4, h5⟩⟩ := h
  · exact .inl ⟨h2, h1⟩
  · exact .inr ⟨g, cap, h3, h1, by rw [h5]; exact Hp.upd_same _ _ _, h4⟩
theorem OwnG.frame {α : Type} {sz : Nat} {f : α → List Value} {e e' : TypeId} {l : List α} {F : Fz} {M M' : Hp} {u : Value} (h : OwnG sz f e F M u l) (hfr : ∀ r x, M r = some x → ¬ x.elem = e' → M' r = some x) (hne : ¬ e = e') : OwnG sz f e F M' u l := by
  rcases h with h | ⟨g, cap, h1, h2, h3, h4⟩
  · exact .inl h
  · exact .inr ⟨g, cap, h1, h2, hfr _ _ h3 hne, h4⟩
abbrev intC (n : Int) : List Value := [intV n]
theorem intC_len (n : Int) : (intC n).length = 1 := rfl
theorem intC_plain (n : Int) : plainCells (intC n) := by
  intro u hu
  simp [intC] at hu
  rw [hu]; rfl
theorem one_row {cs : List Value} {p : Nat} {v : Value} (h : (cs.drop p).take 1 = [v]) : cs[p]? = some v := by
  have := congrArg (fun t => t[0]?) h
  simpa using this
theorem abs_pre {k : Int} {v : V} {l : List Ba} (h : absB k v l = true) : l.length ≤ 7 ∧ (¬ k = 7 → v.ok = true ∧ l = []) ∧ (∀ x ∈ l, 0 ≤ x.v.w ∧ x.v.w ≤ 62 ∧ x.v.ok = true ∧ x.v.w = 8 ∧ 0 ≤ x.b ∧ x.b ≤ 6) := by
  by_cases h7 : k = 7
  · simp only [absB, h7, if_true, Bool.and_eq_true, ptrsB, List.all_eq_true, decide_eq_true_eq] at h
    refine ⟨h.2.1, fun h => absurd h7 h, fun x hx => ?_⟩
    obtain ⟨i, hi, rfl⟩ := List.getElem_of_mem hx
    have := h.2.2 i (by simpa using hi)
    unfold okAt at this
    rw [List.getElem?_eq_getElem hi] at this
    simp only [baseB, Bool.and_eq_true, decide_eq_true_eq] at this
    have hb := this.1.1.1.1
    have hv := this.1.1.1.2
    have hw := this.1.1.2
    exact ⟨by omega, by omega, hv, hw, hb.1, hb.2⟩
  · simp only [absB, h7, if_false, Bool.and_eq_true, decide_eq_true_eq] at h
    have hl : l = [] := by simpa using h.2
    subst hl
    exact ⟨by simp, fun _ => ⟨h.1.1.2, rfl⟩, by simp⟩
theorem seq_assoc {P : Program} {a b c : SC} {Q : Post} {σ : Env} {F : Fz} {M : Hp} : W P (.seq a (.seq b c)) Q σ F M = W P (.seq (.seq a b) c) Q σ F M := by
  have : (Post.andThen (W P b (Post.andThen (W P c Q) Q)) (Post.andThen (W P c Q) Q)) = Post.andThen (W P b (Post.andThen (W P c Q) Q)) Q := by
    funext x
    cases x <;> rfl
  show W P a (Post.andThen (W P b (Post.andThen (W P c Q) Q)) Q) σ F M = W P a (Post.andThen (W P b (Post.andThen (W P c Q) Q)) (Post.andThen (W P c Q) Q)) σ F M
  rw [this]
end Go.Ax
namespace Go.Proofs.Tryz.K
open Go Go.Ax Go.Proofs.Tryz.S
set_option maxRecDepth 100000
set_option linter.unusedSimpArgs false
set_option linter.unusedVariables false
variable (F : Fz) (M : Hp)
def eqI (l1 l2 : List Ba) (u1 u2 : Value) (F0 : Fz) (M0 : Hp) (m : Nat) (σ : Env) (F : Fz) (M : Hp) : Prop :=
  F = F0 ∧ M = M0 ∧ Ax.look σ 0 = some u1 ∧ Ax.look σ 1 = some u2 ∧ ∃ i : Nat, i + m = l1.length ∧ Ax.look σ 5 = some (.int .i64 i) ∧ l1.take i = l2.take i
theorem k114 (u1 u2 : Value) (l1 l2 : List Ba) (h1 : RdG 7 Ba.cs F M u1 l1) (h2 : RdG 7 Ba.cs F M u2 l2) : CallsA Tryz.prog 114 [u1, u2] F M (Same F M (.bool (decide (l1 = l2)))) := by
  refine callsA_of hm Tryz.func114 e114 (Nat.le_of_ble_eq_true rfl) ?_
  obtain ⟨hl1, a1, c1, _, rfl, r1⟩ := h1
  obtain ⟨hl2, a2, c2, _, rfl, r2⟩ := h2
  by_cases hlen : l1.length = l2.length
  rotate_left
  · have : ¬ ((l1.length : Int) = l2.length) := by omega
    simp only [c114, go_sem, reduceCtorEq, reduceIte, Nat.reduceEqDiff, this]
    exact endK_same ⟨by rw [decide_eq_false (by rintro rfl; exact hlen rfl)], rfl, rfl⟩
  have hli : (l1.length : Int) = l2.length := by omega
  simp only [c114, go_sem, reduceCtorEq, reduceIte, Nat.reduceEqDiff, hli]
  refine loop_of (eqI l1 l2 (.slice a1 l1.length c1) (.slice a2 l2.length c2) F M) l1.length ?_ ?_
  · exact ⟨rfl, rfl, by simp only [go_sem, reduceCtorEq], by simp only [go_sem, reduceCtorEq, Nat.reduceEqDiff], 0, by omega, by simp only [go_sem] <;> rfl, by simp⟩
  rintro m σ F' M' ⟨rfl, rfl, q0, q1, i, hi, q5, he⟩
  by_cases hil : (i : Int) < l1.length
  rotate_left
  · simp only [go_sem, reduceCtorEq, reduceIte, Nat.reduceEqDiff, q0, q5, hil]
    have : l1 = l2 := by
      rw [List.take_of_length_le (by omega), List.take_of_length_le (by omega)] at he
      exact he
    exact endK_same ⟨by simp [this], rfl, rfl⟩
  have hi0 : (0 : Int) ≤ i := by omega
  have hi1 : i < l1.length := by omega
  have hi2 : i < l2.length := by omega
  have hil2 : (i : Int) < l2.length := by omega
  have ei : IntKind.i64.wrap ((i : Int) + 1) = i + 1 := w64 (by omega) (by omega)
  rcases r1 with h | ⟨b, o, cs, rfl, hb, hc⟩
  · rw [h] at hi1; simp at hi1
  rcases r2 with h | ⟨b', o', cs', rfl, hb', hc'⟩
  · rw [h] at hi2; simp at hi2
  obtain ⟨d1, d2⟩ := hc i hi1
  obtain ⟨d3, d4⟩ := hc' i hi2
  have t1 := List.take_succ_eq_append_getElem hi1
  have t2 := List.take_succ_eq_append_getElem hi2
  have hne : ¬ l1[i] = l2[i] → ¬ l1 = l2 := by
    rintro h rfl; exact h rfl
  generalize l1[i] = x at *
  generalize l2[i] = y at *
  by_cases hxy : x = y
  · simp only [go_sem, reduceCtorEq, reduceIte, Nat.reduceEqDiff, q0, q1, q5, hil, hil2, hi0, Int.toNat_natCast, hb, hb', d1, d2, d3, d4, hxy, ei]
    exact ⟨m - 1, by omega, rfl, rfl, by simp only [go_sem, reduceCtorEq, q0], by simp only [go_sem, Nat.reduceEqDiff, q1], i + 1, by omega, by simp only [go_sem]; rfl, by rw [t1, t2, he, hxy]⟩
  · simp only [go_sem, reduceCtorEq, reduceIte, Nat.reduceEqDiff, q0, q1, q5, hil, hil2, hi0, Int.toNat_natCast, hb, hb', d1, d2, d3, d4, hxy]
    exact endK_same ⟨by rw [decide_eq_false (hne hxy)], rfl, rfl⟩
theorem k72 (v1 v2 : V) (u1 u2 : Value) (l1 l2 : List Ba) (h1 : RdG 7 Ba.cs F M u1 l1) (h2 : RdG 7 Ba.cs F M u2 l2) : CallsA Tryz.prog 72 [abV v1 u1, abV v2 u2] F M (Same F M (.bool (decide (v1 = v2) && decide (l1 = l2)))) := by
  refine callsA_of hm Tryz.func72 e72 (Nat.le_of_ble_eq_true rfl) ?_
  have h1' := h1
  have h2' := h2
  obtain ⟨_, a1, c1, _, rfl, _⟩ := h1
  obtain ⟨_, a2, c2, _, rfl, _⟩ := h2
  simp only [c72, go_sem]
  intro r2 hF2 hM2
  simp only [go_sem, reduceCtorEq, Nat.reduceEqDiff]
  intro r3 hF3 hM3
  have g3 := fresh_of hM3
  have q1 := (h1'.new hF2 hM2 (e := ⟨abCs v1 (.slice a1 l1.length c1), 68, 7⟩)).new hF3 hM3 (e := ⟨abCs v2 (.slice a2 l2.length c2), 68, 7⟩)
  have q2 := (h2'.new hF2 hM2 (e := ⟨abCs v1 (.slice a1 l1.length c1), 68, 7⟩)).new hF3 hM3 (e := ⟨abCs v2 (.slice a2 l2.length c2), 68, 7⟩)
  by_cases hv : v1 = v2
  · simp only [go_sem, reduceIte, Nat.reduceEqDiff, Nat.reduceLeDiff, g3, hv]
    subst hv
    refine callK_same (k114 _ _ _ _ l1 l2 q1 q2) ?_
    simp only [go_sem, reduceIte, Nat.reduceEqDiff]
    exact endK_drop hM3 (endK_drop hM2 (endK_same ⟨by simp, rfl, rfl⟩))
  · simp only [go_sem, reduceCtorEq, reduceIte, Nat.reduceEqDiff, Nat.reduceLeDiff, g3, hv]
    exact endK_drop hM3 (endK_drop hM2 (endK_same ⟨by simp, rfl, rfl⟩))
end Go.Proofs.Tryz.K
namespace Go.Ax
open Go
set_option linter.unusedVariables false
set_option maxRecDepth 100000
theorem apMG_any {α : Type} {sz bytes : Nat} {f : α → List Value} {P : Program} {s : Bool} {d : Option Nat} {l : List SO} {K : Env → Fz → Hp → Prop} {σ : Env} {F : Fz} {M0 M : Hp} {e : TypeId} {v u : Value} {xs ys : List α}
    (hf : ∀ x, (f x).length = sz) (hp : ∀ x, plainCells (f x)) (hbytes : bytes ≤ 1000) (h : MineG sz f e F M0 M v xs) (kp : Keep M0 M) (hs : Src F M sz u ys.length (ys.flatMap f)) (hb : xs.length + ys.length ≤ 1000000)
    (hk : ∀ v' M', (∀ r x, M r = some x → ¬ x.elem = e → M' r = some x) → Keep M0 M' → (Old F M → Old F M') → MineG sz f e F M0 M' v' (xs ++ ys) → opsW P s l K (put σ d v') F M') :
    apK P s d l K σ F M e sz bytes (some v) (some u) := by
  have hm : (xs.length + ys.length) * bytes ≤ 1000000 * 1000 := Nat.mul_le_mul hb hbytes
  refine apK_of (h.own.own hf) hs (plainG hp ys) (by simp only [maxLen]; omega) (by omega) ?_
  rintro v' M' (⟨h0, h1, rfl, rfl⟩ | ⟨g, cap, hg, rfl, h1, h2, rfl⟩)
  · have hys : ys = [] := by simpa using h1
    have hxs : xs = [] := by
      rcases h.own with ⟨_, h⟩ | ⟨g', cap', h, _⟩
      · exact h
      · rw [h] at h0; cases h0
    subst hys hxs
    exact hk _ _ (fun r x hr _ => hr) kp (fun h => h) ⟨.inl ⟨rfl, rfl⟩, fun g n c h => by cases h⟩
  rw [← List.length_append, ← List.flatMap_append]
  have key : F g = none ∧ (M g = none ∨ ∃ c, v = .slice (some ⟨g, 0, none⟩) xs.length c) := by
    rcases hg with ⟨c, hx⟩ | ⟨hx, hy⟩
    · rcases h.own with ⟨h1, _⟩ | ⟨g', cap', h1, h2, _⟩
      · rw [h1] at hx; cases hx
      · rw [h1] at hx; cases hx; exact ⟨h2, .inr ⟨_, h1⟩⟩
    · exact ⟨hx, .inl hy⟩
  have g0 : M0 g = none := by
    rcases key.2 with h1 | ⟨c, hv⟩
    · exact kp.free h1
    · exact h.new _ _ _ hv
  refine hk _ _ (fun r x hr hx => ?_) (kp.new g0) (fun h => h.upd key.1) ⟨.inr ⟨g, cap, rfl, key.1, Hp.upd_same _ _ _, by rw [List.length_append]; exact h1, h2⟩, fun g' n c h => by cases h; exact g0⟩
  have : ¬ r = g := by
    rcases key.2 with h1 | ⟨c, hv⟩
    · exact (ne_of_none h1 hr).1
    · rw [hv] at h; exact h.own.ne hr hx
  rw [Hp.upd_ne' this]; exact hr
theorem okAt_base {l : List Ba} (h : ptrsB l = true) : (∀ x ∈ l, baseB x = true) ∧ l.Pairwise (fun x y => x.b < y.b) := by
  unfold ptrsB at h
  rw [Bool.and_eq_true, List.all_eq_true] at h
  have hj : ∀ j, j < l.length → okAt l j = true := fun j hj => h.2 j (by simpa using hj)
  have hlt : ∀ j (hj1 : j + 1 < l.length), (l[j]).b < (l[j + 1]).b := by
    intro j hj1
    have := hj (j + 1) hj1
    unfold okAt at this
    rw [List.getElem?_eq_getElem hj1] at this
    simp only [Nat.add_sub_cancel, List.getElem?_eq_getElem (by omega : j < l.length), Bool.and_eq_true, Bool.or_eq_true, decide_eq_true_eq] at this
    omega
  refine ⟨fun x hx => ?_, ?_⟩
  · obtain ⟨i, hi, rfl⟩ := List.getElem_of_mem hx
    have := hj i hi
    unfold okAt at this
    rw [List.getElem?_eq_getElem hi] at this
    simp only [Bool.and_eq_true] at this
    exact this.1
  · rw [List.pairwise_iff_getElem]
    intro i j hi hj' hij
    have key : ∀ d (hd : i + d + 1 < l.length), (l[i]).b < (l[i + d + 1]).b := by
      intro d
      induction d with
      | zero => intro hd; exact hlt i hd
      | succ d ih => intro hd; have h1 := ih (by omega); have h2 := hlt (i + d + 1) (by omega); have e : i + (d + 1) + 1 = i + d + 1 + 1 := by omega
                     simp only [e] at *; omega
    have := key (j - i - 1) (by omega)
    have e : i + (j - i - 1) + 1 = j := by omega
    simpa only [e] using this
theorem rowR.mine {α : Type} {sz : Nat} {f : α → List Value} {e : TypeId} {l : List α} {F : Fz} {M0 M : Hp} {u : Value} {F' : Fz} {M' : Hp} (h : rowR sz f e l F M u F' M') (kp : Keep M0 M) : MineG sz f e F M0 M' u l := by
  refine ⟨h.own, fun g n c hu => ?_⟩
  obtain ⟨_, ⟨_, h2, _⟩ | ⟨g', cap, _, h2, h3, _⟩⟩ := h
  · rw [h2] at hu; cases hu
  · rw [h3] at hu; cases hu; exact kp.free h2
end Go.Ax
namespace Go.Ax
open Go
set_option linter.unusedVariables false
theorem kW {k : Int} : (2 : Int) ^ (ofW k).toNat = mostV (ofW k) + 1 := by unfold mostV; omega
theorem kinds {k : Int} (h : isK k = true) :
    (sgn k = false ∧ leastK k = 0 ∧ mostK k = mostV (ofW k) ∨ sgn k = true ∧ leastK k = -(mostK k) - 1 ∧ mostV (ofW k) = 2 * mostK k + 1) ∧ 127 ≤ mostK k ∧ mostK k ≤ 4294967295 ∧ mostV (ofW k) ≤ 4294967295 ∧ 255 ≤ mostV (ofW k) := by
  rcases isK_cases h with rfl | rfl | rfl | rfl | rfl | rfl <;> decide +kernel
theorem isN_le {n w : Int} (h : isN n w = true) : 0 ≤ n ∧ n ≤ mostV w := by simpa [isN] using h
section
variable {op k a b : Int} (hk : isK k = true) (a0 : 0 ≤ a) (a1 : a ≤ mostV (ofW k)) (b0 : 0 ≤ b) (b1 : b ≤ mostV (ofW k))
include hk a0 a1 b0 b1
omit hk a0 a1 b0 b1
end
end Go.Ax
namespace Go.Ax
open Go
set_option linter.unusedVariables false
theorem just_is1 {w n : Int} (h : isW w = true) (hn : isN n w = true) : (V.just w n).is1 = true ∧ (V.just w n).nextR 0 = n := by
  have h0 := just_next0 h hn
  have h1 := just_next1 h hn
  have := isN_le hn
  refine ⟨?_, h0⟩
  simp only [V.is1, h0, h1]
  simp [this.1]
end Go.Ax
