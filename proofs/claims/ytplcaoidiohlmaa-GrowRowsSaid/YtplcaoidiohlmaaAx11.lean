/- Short words in which small codes are written, and what each asks, ready for rewriting step by step. -/
import Derived.Test.YtplcaoidiohlmaaAx10
import Derived.KernelRfl
namespace Go.Ax.N
open Go Go.Ax
abbrev t (n : Nat) : Operand := .tmp n
abbrev i (n : Int) : Operand := .const (.int .i64 n)
abbrev b (v : Bool) : Operand := .const (.bool v)
def o (d : Nat) (q : PK) : SO := ⟨some d, none, .p q⟩
def og (d g : Nat) (w : Bool) (q : PK) : SO := ⟨some d, some (g, w), .p q⟩
def k (d : Nat) (s : SK) : SO := ⟨some d, none, s⟩
def kn (s : SK) : SO := ⟨none, none, s⟩
end Go.Ax.N
namespace Go.Ax
open Go
set_option linter.unusedVariables false

attribute [go_sem] Hp.upd_same not_false_eq_true
@[go_sem] theorem Hp.upd_ne' {M : Hp} {b k : Nat} {e : Ent} (h : ¬ k = b) : M.upd b e k = M k := Hp.upd_ne h
theorem upd_none {M : Hp} {b r : Nat} {e : Ent} : ((M.upd b e) r = none) = (¬ r = b ∧ M r = none) := by
  apply propext
  by_cases h : r = b
  · subst h; simp
  · simp [Hp.upd_ne h, h]
@[go_sem] theorem blk_upd_same {F : Fz} {M : Hp} {b : Nat} {e : Ent} : blk F (M.upd b e) b = some e.cells := by simp [blk]
@[go_sem] theorem blk_upd_ne {F : Fz} {M : Hp} {b k : Nat} {e : Ent} (h : ¬ k = b) : blk F (M.upd b e) k = blk F M k := by simp [blk, Hp.upd_ne h]
theorem blk_M {F : Fz} {M : Hp} {b : Nat} {e : Ent} (h : M b = some e) : blk F M b = some e.cells := by simp [blk, h]
theorem blk_F {F : Fz} {M : Hp} {b : Nat} {c : List Value} (h : F b = some c) (hm : M b = none) : blk F M b = some c := by simp [blk, h, hm]
def setH (M : Hp) (b : Nat) (e : Ent) : Hp := M.upd b e
@[go_sem] theorem setH_same {M : Hp} {b : Nat} {x e : Ent} : setH (M.upd b x) b e = M.upd b e := Hp.upd_upd
@[go_sem] theorem setH_ne {M : Hp} {b r : Nat} {x e : Ent} (h : ¬ b = r) : setH (M.upd r x) b e = (setH M b e).upd r x := (Hp.upd_comm (Ne.symm h))

section
variable (P : Program) (s : Bool) (d : Option Nat) (l : List SO) (K : Env → Fz → Hp → Prop) (σ : Env) (F : Fz) (M : Hp)
/-- A value is told, then the rest. -/
def oK (o : Option Value) : Prop := ∃ v, o = some v ∧ opsW P s l K (put σ d v) F M
def stepW (k : SK) : Prop := stepK P s d k (opsW P s l K) σ F M
/-- A guard is asked, then the step or not. -/
def gK (w : Bool) (k : SK) (o : Option Value) : Prop := ∃ u, o = some u ∧ (u = .bool w → stepW P s d l K σ F M k) ∧ (u ≠ .bool w → opsW P s l K (put σ d undef) F M)
def mkR : Option Nat → Nat → Value
  | none, r => .pointer (some ⟨r, 0, none⟩)
  | some n, r => .slice (some ⟨r, 0, none⟩) n n
/-- A new block, then the rest. -/
def nK (mk : Option Nat) (e : Ent) : Prop := ∀ r, F r = none → M r = none → opsW P s l K (put σ d (mkR mk r)) F (M.upd r e)
def bxK (e : Nat) (o : Option Value) : Prop := ∃ v, o = some v ∧ nK P s d l K σ F M none ⟨v.cells.toList, e, v.cells.toList.length⟩
def bsK (e len : Nat) (o : Option (List Value)) : Prop := ∃ cs, o = some cs ∧ nK P s d l K σ F M (some len) ⟨cs, e, cs.length⟩
/-- A call, then the rest. -/
def callK (g : Nat) (args : List Value) : Prop := CallsA P g args F M fun v F' M' => (s = true → Le F M F' M') ∧ opsW P s l K (put σ d v) F' M'
/-- A call that may not change places. -/
def callQ (g : Nat) (args : List Value) : Prop := CallsA P g args F M fun v F' M' => opsW P s l K (put σ d v) F' M'
def cqK2 (g : Nat) (fi ca : Array Value) (o : Option (List Value)) : Prop := ∃ vs, o = some vs ∧ callQ P s d l K σ F M g (fi.toList ++ vs ++ ca.toList)
def cqK (args : List Operand) (o : Option Value) : Prop := ∃ g fi ca, o = some (.func (.func g) fi ca) ∧ cqK2 P s d l K σ F M g fi ca (evs σ args)
def caK2 (g : Nat) (fi ca : Array Value) (o : Option (List Value)) : Prop := ∃ vs, o = some vs ∧ callK P s d l K σ F M g (fi.toList ++ vs ++ ca.toList)
def caK (args : List Operand) (o : Option Value) : Prop := ∃ g fi ca, o = some (.func (.func g) fi ca) ∧ caK2 P s d l K σ F M g fi ca (evs σ args)
/-- A store. -/
def stK4 (M' : Hp) (A : Prop) : Prop := A ∧ opsW P s l K (put σ d undef) F M'
def stK3 (fl : List Nat) (n b o : Nat) (v : Value) (oe : Option Ent) : Prop := ∃ e, oe = some e ∧
  stK4 P s d l K σ F (setH M b ⟨e.cells.take o ++ v.cells.toList ++ e.cells.drop (o + n), e.elem, e.size⟩)
    (v.cells.size = n ∧ plainCells v.cells.toList ∧ o + n ≤ e.cells.length ∧ ∀ t ∈ fl, ∃ b' o', look σ t = some (.pointer (some ⟨b', o', none⟩)) ∧ b' ≠ b)
def stK2 (fl : List Nat) (n b o : Nat) (ov : Option Value) : Prop := ∃ v, ov = some v ∧ stK3 P s d l K σ F M fl n b o v (M b)
def stK (fl : List Nat) (n : Nat) (x : Operand) (oa : Option Value) : Prop := ∃ b o, oa = some (.pointer (some ⟨b, o, none⟩)) ∧ stK2 P s d l K σ F M fl n b o (ev σ x)
/-- An append. -/
def apK (e es bytes : Nat) (ox oy : Option Value) : Prop := ∃ v, ox = some v ∧ ∃ u, oy = some u ∧ ∃ n xs, Own M e es v n xs ∧ ∃ m ys, Src F M es u m ys ∧ plainCells ys ∧
      n + m ≤ maxLen ∧ (n + m) * bytes ≤ 140737488355328 ∧ ∀ v' M', ApRes F M e es v n m (xs ++ ys) v' M' → opsW P s l K (put σ d v') F M'
/-- A make. -/
def msK (e es bytes : Nat) (z : List Value) (ox oy : Option Value) : Prop := ∃ k n, ox = some (.int k (n : Nat)) ∧ ∃ k' m, oy = some (.int k' (m : Nat)) ∧ n ≤ m ∧ m ≤ maxLen ∧ m * bytes ≤ 140737488355328 ∧
      ∀ r, F r = none → M r = none → opsW P s l K (put σ d (.slice (some ⟨r, 0, none⟩) n m)) F (M.upd r ⟨(List.replicate m z).flatten, e, m * es⟩)
/-- A copy. -/
def cpK (es : Nat) (ox oy : Option Value) : Prop := ∃ b o n c, ox = some (.slice (some ⟨b, o, none⟩) n c) ∧ ∃ u, oy = some u ∧ ∃ m ys, Src F M es u m ys ∧ plainCells ys ∧ ∃ e, M b = some e ∧
      o + n * es ≤ e.cells.length ∧
      opsW P s l K (put σ d (.int .i64 (min m n : Nat))) F (M.upd b ⟨e.cells.take o ++ ys.take (min m n * es) ++ e.cells.drop (o + min m n * es), e.elem, e.size⟩)
end

section
variable {P : Program} {s : Bool} {d : Option Nat} {t : Nat} {l : List SO} {K : Env → Fz → Hp → Prop} {σ : Env} {F : Fz} {M : Hp}
@[go_sem] theorem w_nil : opsW P s [] K σ F M = K σ F M := rfl
@[go_sem] theorem w_o {q : PK} : opsW P s (N.o t q :: l) K σ F M = oK P s (some t) l K σ F M (q.val σ F M) := rfl
@[go_sem] theorem w_og {q : PK} {g : Nat} {w : Bool} : opsW P s (N.og t g w q :: l) K σ F M = gK P s (some t) l K σ F M w (.p q) (look σ g) := rfl
@[go_sem] theorem w_k {k : SK} : opsW P s (N.k t k :: l) K σ F M = stepW P s (some t) l K σ F M k := rfl
@[go_sem] theorem w_kn {k : SK} : opsW P s (N.kn k :: l) K σ F M = stepW P s none l K σ F M k := rfl
@[go_sem] theorem w_g {g : Nat} {w : Bool} {k : SK} : opsW P s (⟨d, some (g, w), k⟩ :: l) K σ F M = gK P s d l K σ F M w k (look σ g) := rfl
@[go_sem] theorem w_n {k : SK} : opsW P s (⟨none, none, k⟩ :: l) K σ F M = stepW P s none l K σ F M k := rfl
@[go_sem] theorem oK_some {v : Value} : oK P s d l K σ F M (some v) = opsW P s l K (put σ d v) F M := by simp [oK]
@[go_sem] theorem gK_tt {k : SK} : gK P s d l K σ F M true k (some (.bool true)) = stepW P s d l K σ F M k := by simp [gK]
@[go_sem] theorem gK_ff {k : SK} : gK P s d l K σ F M false k (some (.bool false)) = stepW P s d l K σ F M k := by simp [gK]
@[go_sem] theorem gK_tf {k : SK} : gK P s d l K σ F M true k (some (.bool false)) = opsW P s l K (put σ d undef) F M := by simp [gK]
@[go_sem] theorem gK_ft {k : SK} : gK P s d l K σ F M false k (some (.bool true)) = opsW P s l K (put σ d undef) F M := by simp [gK]
theorem gK_of {w b : Bool} {k : SK} (h1 : b = w → stepW P s d l K σ F M k) (h2 : b = (!w) → opsW P s l K (put σ d undef) F M) : gK P s d l K σ F M w k (some (.bool b)) :=
  ⟨_, rfl, fun h => h1 (by simpa using h), fun h => h2 (by cases b <;> cases w <;> simp_all)⟩
@[go_sem] theorem s_p {q : PK} : stepW P s d l K σ F M (.p q) = oK P s d l K σ F M (q.val σ F M) := rfl
@[go_sem] theorem s_al {e : Nat} {z : List Value} : stepW P s d l K σ F M (.al e z) = nK P s d l K σ F M none ⟨z, e, z.length⟩ := rfl
@[go_sem] theorem s_bx {e : Nat} {x : Operand} : stepW P s d l K σ F M (.bx e x) = bxK P s d l K σ F M e (ev σ x) := rfl
@[go_sem] theorem bxK_some {e : Nat} {v : Value} : bxK P s d l K σ F M e (some v) = nK P s d l K σ F M none ⟨v.cells.toList, e, v.cells.toList.length⟩ := by simp [bxK]
@[go_sem] theorem s_bs {e len : Nat} {z : List Value} {parts : List (Nat × Nat × Operand)} : stepW P s d l K σ F M (.bs e len z parts) = bsK P s d l K σ F M e len ((evParts σ parts).bind fun ps => fillV z ps) := by
  apply propext
  simp only [stepW, stepK, bsK, nK, mkR]
  constructor
  · rintro ⟨ps, h1, cs, h2, h3⟩; exact ⟨cs, by rw [h1]; exact h2, h3⟩
  · rintro ⟨cs, h1, h3⟩
    cases hp : evParts σ parts with
    | none => simp [hp] at h1
    | some ps => exact ⟨ps, rfl, cs, by simpa [hp] using h1, h3⟩
@[go_sem] theorem bsK_some {e len : Nat} {cs : List Value} : bsK P s d l K σ F M e len (some cs) = nK P s d l K σ F M (some len) ⟨cs, e, cs.length⟩ := by simp [bsK]
@[go_sem] theorem s_ca {f : Operand} {args : List Operand} : stepW P s d l K σ F M (.ca f args) = caK P s d l K σ F M args (ev σ f) := rfl
@[go_sem] theorem caK_some {args : List Operand} {g : Nat} {fi ca : Array Value} : caK P s d l K σ F M args (some (.func (.func g) fi ca)) = caK2 P s d l K σ F M g fi ca (evs σ args) := by
  apply propext; constructor
  · rintro ⟨_, _, _, h, hk⟩; cases h; exact hk
  · intro h; exact ⟨_, _, _, rfl, h⟩
@[go_sem] theorem caK2_some {g : Nat} {fi ca : Array Value} {vs : List Value} : caK2 P s d l K σ F M g fi ca (some vs) = callK P s d l K σ F M g (fi.toList ++ vs ++ ca.toList) := by simp [caK2]
@[go_sem] theorem s_cq {f : Operand} {args : List Operand} : stepW P s d l K σ F M (.cq f args) = cqK P s d l K σ F M args (ev σ f) := rfl
@[go_sem] theorem cqK_some {args : List Operand} {g : Nat} {fi ca : Array Value} : cqK P s d l K σ F M args (some (.func (.func g) fi ca)) = cqK2 P s d l K σ F M g fi ca (evs σ args) := by
  apply propext; constructor
  · rintro ⟨_, _, _, h, hk⟩; cases h; exact hk
  · intro h; exact ⟨_, _, _, rfl, h⟩
@[go_sem] theorem cqK2_some {g : Nat} {fi ca : Array Value} {vs : List Value} : cqK2 P s d l K σ F M g fi ca (some vs) = callQ P s d l K σ F M g (fi.toList ++ vs ++ ca.toList) := by simp [cqK2]
theorem callQ_of {g : Nat} {args : List Value} {R : Value → Fz → Hp → Prop} (h : CallsA P g args F M R)
    (hr : ∀ v F' M', R v F' M' → opsW P s l K (put σ d v) F' M') : callQ P s d l K σ F M g args := h.mono hr
@[go_sem] theorem s_st {fl : List Nat} {n : Nat} {a x : Operand} : stepW P s d l K σ F M (.st fl n a x) = stK P s d l K σ F M fl n x (ev σ a) := by
  apply propext
  simp only [stepW, stepK, stK, stK2, stK3, stK4, setH]
  constructor
  · rintro ⟨b, o, h1, v, h2, e, h3, h4, h5, h6, h7, h8⟩; exact ⟨b, o, h1, v, h2, e, h3, ⟨h4, h5, h6, h7⟩, h8⟩
  · rintro ⟨b, o, h1, v, h2, e, h3, ⟨h4, h5, h6, h7⟩, h8⟩; exact ⟨b, o, h1, v, h2, e, h3, h4, h5, h6, h7, h8⟩
@[go_sem] theorem stK_some {fl : List Nat} {n b o : Nat} {x : Operand} : stK P s d l K σ F M fl n x (some (.pointer (some ⟨b, o, none⟩))) = stK2 P s d l K σ F M fl n b o (ev σ x) := by
  apply propext; constructor
  · rintro ⟨_, _, h, hk⟩; cases h; exact hk
  · intro h; exact ⟨_, _, rfl, h⟩
@[go_sem] theorem stK2_some {fl : List Nat} {n b o : Nat} {v : Value} : stK2 P s d l K σ F M fl n b o (some v) = stK3 P s d l K σ F M fl n b o v (M b) := by simp [stK2]
@[go_sem] theorem stK3_some {fl : List Nat} {n b o : Nat} {v : Value} {e : Ent} : stK3 P s d l K σ F M fl n b o v (some e) =
    stK4 P s d l K σ F (setH M b ⟨e.cells.take o ++ v.cells.toList ++ e.cells.drop (o + n), e.elem, e.size⟩)
    (v.cells.size = n ∧ plainCells v.cells.toList ∧ o + n ≤ e.cells.length ∧ ∀ t ∈ fl, ∃ b' o', look σ t = some (.pointer (some ⟨b', o', none⟩)) ∧ b' ≠ b) := by simp [stK3]
@[go_sem] theorem stK4_true {M' : Hp} : stK4 P s d l K σ F M' True = opsW P s l K (put σ d undef) F M' := by simp [stK4]
@[go_sem] theorem s_ap {e es bytes : Nat} {x y : Operand} : stepW P s d l K σ F M (.ap e es bytes x y) = apK P s d l K σ F M e es bytes (ev σ x) (ev σ y) := rfl
@[go_sem] theorem s_ms {e es bytes : Nat} {z : List Value} {x y : Operand} : stepW P s d l K σ F M (.ms e es bytes z x y) = msK P s d l K σ F M e es bytes z (ev σ x) (ev σ y) := rfl
@[go_sem] theorem s_cp {es : Nat} {x y : Operand} : stepW P s d l K σ F M (.cp es x y) = cpK P s d l K σ F M es (ev σ x) (ev σ y) := rfl
@[go_sem] theorem put_some {v : Value} : put σ (some t) v = (t, v) :: σ := rfl
@[go_sem] theorem put_none {v : Value} : put σ none v = σ := rfl
attribute [go_sem] mkR
theorem apK_of {e es bytes : Nat} {v u : Value} {n m : Nat} {xs ys : List Value} (h3 : Own M e es v n xs) (h4 : Src F M es u m ys) (h5 : plainCells ys)
    (h6 : n + m ≤ maxLen) (h7 : (n + m) * bytes ≤ 140737488355328) (h8 : ∀ v' M', ApRes F M e es v n m (xs ++ ys) v' M' → opsW P s l K (put σ d v') F M') : apK P s d l K σ F M e es bytes (some v) (some u) :=
  ⟨v, rfl, u, rfl, n, xs, h3, m, ys, h4, h5, h6, h7, h8⟩
theorem msK_of {e es bytes : Nat} {z : List Value} {k k' : IntKind} {n m : Nat} (h3 : n ≤ m) (h4 : m ≤ maxLen) (h5 : m * bytes ≤ 140737488355328)
    (h6 : ∀ r, F r = none → M r = none → opsW P s l K (put σ d (.slice (some ⟨r, 0, none⟩) n m)) F (M.upd r ⟨(List.replicate m z).flatten, e, m * es⟩)) :
    msK P s d l K σ F M e es bytes z (some (.int k n)) (some (.int k' m)) := ⟨k, n, rfl, k', m, rfl, h3, h4, h5, h6⟩
theorem callK_of {g : Nat} {args : List Value} {R : Value → Fz → Hp → Prop} (h : CallsA P g args F M R)
    (hr : ∀ v F' M', R v F' M' → (s = true → Le F M F' M') ∧ opsW P s l K (put σ d v) F' M') : callK P s d l K σ F M g args := h.mono hr
theorem callK_same {g : Nat} {args : List Value} {r : Value} (h : CallsA P g args F M fun v F' M' => v = r ∧ F' = F ∧ M' = M)
    (hr : opsW P s l K (put σ d r) F M) : callK P s d l K σ F M g args := h.mono fun v F' M' ⟨h1, h2, h3⟩ => by subst h1; subst h2; subst h3; exact ⟨fun _ => Le.refl _ _, hr⟩
end

section
variable (P : Program) (a b : SC) (Q : Post) (σ : Env) (F : Fz) (M : Hp)
def condK (o : Option Value) : Prop := ∃ t, o = some (.bool t) ∧ (t = true → W P a Q σ F M) ∧ (t = false → W P b Q σ F M)
/-- A run ends; less may be told. -/
def endK (R : Value → Fz → Hp → Prop) (v : Value) : Prop := ∃ F' M', Wk F M F' M' ∧ R v F' M'
def retK (R : Value → Fz → Hp → Prop) (o : Option (List Value)) : Prop := ∃ vs, o = some vs ∧ endK F M R (retV vs)
end
section
variable {P : Program} {a b : SC} {Q : Post} {σ : Env} {F : Fz} {M : Hp}
@[go_sem] theorem W_skip : W P .skip Q σ F M = Q .n σ F M := rfl
@[go_sem] theorem W_ret : W P .ret Q σ F M = Q .r σ F M := rfl
@[go_sem] theorem W_exit {i : Nat} : W P (.exit i) Q σ F M = Q (.e i) σ F M := rfl
@[go_sem] theorem W_ops {l : List SO} : W P (.ops l) Q σ F M = opsW P false l (Q .n) σ F M := rfl
@[go_sem] theorem W_opq {l : List SO} : W P (.opq l) Q σ F M = opsW P false l (Q .n) σ F M := rfl
@[go_sem] theorem W_opd {l : List SO} : W P (.opd l) Q σ F M = opsW P true l (Q .n) σ F M := rfl
@[go_sem] theorem W_seq : W P (.seq a b) Q σ F M = W P a (Post.andThen (W P b Q) Q) σ F M := rfl
@[go_sem] theorem W_cond {c : Operand} : W P (.cond c a b) Q σ F M = condK P a b Q σ F M (ev σ c) := rfl
@[go_sem] theorem condK_t : condK P a b Q σ F M (some (.bool true)) = W P a Q σ F M := by simp [condK]
@[go_sem] theorem condK_f : condK P a b Q σ F M (some (.bool false)) = W P b Q σ F M := by simp [condK]
theorem condK_of {t : Bool} (h1 : t = true → W P a Q σ F M) (h2 : t = false → W P b Q σ F M) : condK P a b Q σ F M (some (.bool t)) := ⟨t, rfl, h1, h2⟩
@[go_sem] theorem W_block {i : Nat} : W P (.block i a) Q σ F M = W P a (Q.inBlock i) σ F M := rfl
@[go_sem] theorem then_n {next : Env → Fz → Hp → Prop} : Post.andThen next Q .n σ F M = next σ F M := rfl
@[go_sem] theorem then_r {next : Env → Fz → Hp → Prop} : Post.andThen next Q .r σ F M = Q .r σ F M := rfl
@[go_sem] theorem then_e {next : Env → Fz → Hp → Prop} {i : Nat} : Post.andThen next Q (.e i) σ F M = Q (.e i) σ F M := rfl
@[go_sem] theorem inBlock_n {i : Nat} : Q.inBlock i .n σ F M = Q .n σ F M := rfl
@[go_sem] theorem inBlock_r {i : Nat} : Q.inBlock i .r σ F M = Q .r σ F M := rfl
@[go_sem] theorem inBlock_same {i : Nat} : Q.inBlock i (.e i) σ F M = Q .n σ F M := by simp [Post.inBlock]
@[go_sem] theorem inBlock_ne {i j : Nat} (h : ¬ j = i) : Q.inBlock i (.e j) σ F M = Q (.e j) σ F M := by simp [Post.inBlock, h]
@[go_sem] theorem ret_r {rs : List RS} {R : Value → Fz → Hp → Prop} : RetP rs R .r σ F M = retK F M R (retL σ F M rs) := rfl
@[go_sem] theorem ret_n {rs : List RS} {R : Value → Fz → Hp → Prop} : RetP rs R .n σ F M = retK F M R (retL σ F M rs) := rfl
@[go_sem] theorem retK_some {R : Value → Fz → Hp → Prop} {vs : List Value} : retK F M R (some vs) = endK F M R (retV vs) := by simp [retK]
theorem loop_of {c : SC} (I : Nat → Env → Fz → Hp → Prop) (n : Nat) (h0 : I n σ F M)
    (h : ∀ n σ F M, I n σ F M → W P c (Post.andThen (fun σ F M => ∃ m, m < n ∧ I m σ F M) Q) σ F M) : W P (.loop c) Q σ F M := ⟨I, n, h0, h⟩
end

/-! Variables and operands. -/
@[go_sem] theorem look_same {l : Env} {k : Nat} {v : Value} : look ((k, v) :: l) k = some v := by simp [look]
@[go_sem] theorem look_ne {l : Env} {k t : Nat} {v : Value} (h : ¬ k = t) : look ((k, v) :: l) t = look l t := by simp [look, h]
attribute [go_sem] ev evs evParts env0 retL retV PK.val binV unV fnV fillV rd Option.bind_some Option.map_some

/-! How a run ends. -/
section
variable {F : Fz} {M : Hp} {R : Value → Fz → Hp → Prop} {v : Value}
theorem endK_same (h : R v F M) : endK F M R v := ⟨F, M, Wk.refl F M, h⟩
theorem endK_drop {r : Nat} {e : Ent} (hm : M r = none) (h : endK F M R v) : endK F (M.upd r e) R v := by
  obtain ⟨F', M', h1, h2⟩ := h
  exact ⟨F', M', (Wk.drop hm).trans h1, h2⟩
theorem endK_freeze {r : Nat} {e : Ent} (hm : M r = none) (h : endK (F.upd r e.cells) M R v) : endK F (M.upd r e) R v := by
  obtain ⟨F', M', h1, h2⟩ := h
  exact ⟨F', M', (Wk.freeze hm).trans h1, h2⟩
theorem endK_comm {a b : Nat} {x y : Ent} (hne : ¬ a = b) (h : endK F ((M.upd b y).upd a x) R v) : endK F ((M.upd a x).upd b y) R v := by
  rw [Hp.upd_comm hne]; exact h
end
end Go.Ax
