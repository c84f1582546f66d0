/- Parts A30to39: the machine's runs of small codes, contracts of functions, plain facts. -/
import Derived.Test.YtmaclakgkllojaaA25to29
/- Scalars, bases and sets of scalars as the program lays them; rows of them. -/
namespace Go.Ax
open Go
set_option linter.unusedVariables false
set_option linter.unusedSimpArgs false

/-- A scalar as it lies: a pointer?, the number, the block, the offset. -/
structure Sc where
  p : Bool
  n : Int
  b : Int
  o : Int
instance Sc.dec : DecidableEq Sc := fun x y => decidable_of_iff (x.p = y.p ∧ x.n = y.n ∧ x.b = y.b ∧ x.o = y.o) (by cases x; cases y; simp)
def Sc.cs (s : Sc) : List Value := [.bool s.p, .int .i64 s.n, .int .i64 s.b, .int .i64 s.o]
def Sc.val (s : Sc) : Value := .agg s.cs.toArray
@[go_sem] theorem Sc.fold {p : Bool} {n b o : Int} : Value.agg [.bool p, .int .i64 n, .int .i64 b, .int .i64 o].toArray = Sc.val ⟨p, n, b, o⟩ := rfl
@[go_sem] theorem Sc.fold2 {s : Sc} : Value.agg s.cs.toArray = s.val := rfl
@[go_sem] theorem Sc.cells_m {s : Sc} : Value.cells.match_1 (fun _ => Array Value) s.val (fun cs => cs) (fun u => #[u]) = s.cs.toArray := rfl
@[go_sem] theorem Sc.cells_val {s : Sc} : s.val.cells = s.cs.toArray := rfl
@[go_sem] theorem Sc.cs_size {s : Sc} : s.cs.toArray.size = 4 := rfl
@[go_sem] theorem Sc.cs_len {s : Sc} : s.cs.length = 4 := rfl
@[go_sem] theorem Sc.cs_plain {s : Sc} : plainCells s.cs = True := by
  apply eq_true
  intro u hu
  simp only [Sc.cs, List.mem_cons, List.not_mem_nil, or_false] at hu
  rcases hu with rfl | rfl | rfl | rfl <;> rfl
@[go_sem] theorem Sc.take4 {s : Sc} : s.cs.take 4 = s.cs := rfl
@[go_sem] theorem Sc.take0 {s : Sc} : s.cs.take 0 = [] := rfl
@[go_sem] theorem Sc.drop4 {s : Sc} : s.cs.drop 4 = [] := rfl
@[go_sem] theorem Sc.drop_four {a b c d : Value} : [a, b, c, d].drop 4 = [] := rfl
@[go_sem] theorem Sc.get0 {s : Sc} : s.cs[0]? = some (.bool s.p) := rfl
@[go_sem] theorem Sc.get1 {s : Sc} : s.cs[1]? = some (.int .i64 s.n) := rfl
@[go_sem] theorem Sc.get2 {s : Sc} : s.cs[2]? = some (.int .i64 s.b) := rfl
@[go_sem] theorem Sc.get3 {s : Sc} : s.cs[3]? = some (.int .i64 s.o) := rfl
@[go_sem] theorem Sc.ld {s : Sc} : rd true 4 s.cs 0 = some s.val := rfl
@[go_sem] theorem Sc.ld0 {s : Sc} : rd false 1 s.cs 0 = some (.bool s.p) := rfl
@[go_sem] theorem Sc.ld1 {s : Sc} : rd false 1 s.cs 1 = some (.int .i64 s.n) := rfl
@[go_sem] theorem Sc.ld2 {s : Sc} : rd false 1 s.cs 2 = some (.int .i64 s.b) := rfl
@[go_sem] theorem Sc.ld3 {s : Sc} : rd false 1 s.cs 3 = some (.int .i64 s.o) := rfl
theorem decEq_Sc (a b : Sc) : decide (a = b) = ((a.p == b.p) && (decide (a.n = b.n) && (decide (a.b = b.b) && (decide (a.o = b.o) && true)))) := by
  apply Bool.eq_iff_iff.2
  cases a; cases b
  simp
@[go_sem] theorem eqV_Sc (a b : Sc) : eqV (.st [(false, 0, 1, .b), (false, 1, 1, .i), (false, 2, 1, .i), (false, 3, 1, .i)]) a.val b.val = some (decide (a = b)) := by
  rw [decEq_Sc]
  simp [eqV, eqFs, Sc.val, Sc.cs, rd]

/-- A base as it lies: the block, the offsets. -/
structure Ba where
  b : Int
  v : V
instance Ba.dec : DecidableEq Ba := fun x y => decidable_of_iff (x.b = y.b ∧ x.v = y.v) (by cases x; cases y; simp)
def Ba.cs (x : Ba) : List Value := .int .i64 x.b :: x.v.cs
def Ba.val (x : Ba) : Value := .agg x.cs.toArray
@[go_sem] theorem Ba.fold {b a c d e f : Int} {k : Bool} : Value.agg [.int .i64 b, .int .i64 a, .bool k, .int .i64 c, .int .i64 d, .int .i64 e, .int .i64 f].toArray = Ba.val ⟨b, ⟨a, k, c, d, e, f⟩⟩ := rfl
@[go_sem] theorem Ba.fold2 {x : Ba} : Value.agg x.cs.toArray = x.val := rfl
@[go_sem] theorem Ba.fold3 {b : Int} {v : V} : Value.agg (.int .i64 b :: v.cs).toArray = Ba.val ⟨b, v⟩ := rfl
@[go_sem] theorem Ba.cells_m {s : Ba} : Value.cells.match_1 (fun _ => Array Value) s.val (fun cs => cs) (fun u => #[u]) = s.cs.toArray := rfl
@[go_sem] theorem Ba.cells_val {s : Ba} : s.val.cells = s.cs.toArray := rfl
@[go_sem] theorem Ba.cs_size {s : Ba} : s.cs.toArray.size = 7 := rfl
@[go_sem] theorem Ba.cs_len {s : Ba} : s.cs.length = 7 := rfl
@[go_sem] theorem Ba.cs_plain {s : Ba} : plainCells s.cs = True := by
  apply eq_true
  intro u hu
  simp only [Ba.cs, List.mem_cons] at hu
  rcases hu with rfl | hu
  · rfl
  · exact (of_eq_true (V.cs_plain (v := s.v))) u hu
@[go_sem] theorem Ba.take7 {s : Ba} : s.cs.take 7 = s.cs := rfl
@[go_sem] theorem Ba.take0 {s : Ba} : s.cs.take 0 = [] := rfl
@[go_sem] theorem Ba.drop7 {s : Ba} : s.cs.drop 7 = [] := rfl
@[go_sem] theorem Ba.drop_seven {a b c d e f g : Value} : [a, b, c, d, e, f, g].drop 7 = [] := rfl
@[go_sem] theorem Ba.get0 {s : Ba} : s.cs[0]? = some (.int .i64 s.b) := rfl
@[go_sem] theorem Ba.get1 {s : Ba} : s.cs[1]? = some (.int .i64 s.v.w) := rfl
@[go_sem] theorem Ba.drop1 {s : Ba} : s.cs.drop 1 = s.v.cs := rfl
@[go_sem] theorem Ba.ld {s : Ba} : rd true 7 s.cs 0 = some s.val := rfl
@[go_sem] theorem Ba.ld0 {s : Ba} : rd false 1 s.cs 0 = some (.int .i64 s.b) := rfl
@[go_sem] theorem Ba.ld1 {s : Ba} : rd true 6 s.cs 1 = some s.v.val := rfl
@[go_sem] theorem Ba.ldw {s : Ba} : rd false 1 s.cs 1 = some (.int .i64 s.v.w) := rfl
/-- A set of scalars as it lies: the numbers, the row of bases. -/
def abCs (v : V) (u : Value) : List Value := v.cs ++ [u]
def abV (v : V) (u : Value) : Value := .agg (abCs v u).toArray
@[go_sem] theorem ab_fold {a c d e f : Int} {k : Bool} {u : Option Addr} {n m : Nat} : Value.agg [.int .i64 a, .bool k, .int .i64 c, .int .i64 d, .int .i64 e, .int .i64 f, .slice u n m].toArray = abV ⟨a, k, c, d, e, f⟩ (.slice u n m) := rfl
@[go_sem] theorem ab_fold2 {v : V} {u : Value} : Value.agg (abCs v u).toArray = abV v u := rfl
@[go_sem] theorem ab_fold3 {v : V} {u : Option Addr} {n m : Nat} : Value.agg (v.cs ++ [Value.slice u n m]).toArray = abV v (.slice u n m) := rfl
@[go_sem] theorem ab_cells_m {v : V} {u : Value} : Value.cells.match_1 (fun _ => Array Value) (abV v u) (fun cs => cs) (fun u => #[u]) = (abCs v u).toArray := rfl
@[go_sem] theorem ab_cells {v : V} {u : Value} : (abV v u).cells = (abCs v u).toArray := rfl
@[go_sem] theorem ab_size {v : V} {u : Value} : (abCs v u).toArray.size = 7 := rfl
@[go_sem] theorem ab_len {v : V} {u : Value} : (abCs v u).length = 7 := rfl
@[go_sem] theorem ab_plain {v : V} {a : Option Addr} {n m : Nat} : plainCells (abCs v (.slice a n m)) = True := by
  apply eq_true
  intro u hu
  simp only [abCs, List.mem_append, List.mem_cons, List.not_mem_nil, or_false] at hu
  rcases hu with hu | rfl
  · exact (of_eq_true (V.cs_plain (v := v))) u hu
  · rfl
@[go_sem] theorem ab_take {v : V} {u : Value} : (abCs v u).take 7 = abCs v u := rfl
@[go_sem] theorem ab_take0 {v : V} {u : Value} : (abCs v u).take 0 = [] := rfl
@[go_sem] theorem ab_drop {v : V} {u : Value} : (abCs v u).drop 7 = [] := rfl
@[go_sem] theorem ab_get0 {v : V} {u : Value} : (abCs v u)[0]? = some (.int .i64 v.w) := rfl
@[go_sem] theorem ab_get6 {v : V} {u : Value} : (abCs v u)[6]? = some u := rfl
@[go_sem] theorem ab_take6 {v : V} {u : Value} : (abCs v u).take 6 = v.cs := rfl
@[go_sem] theorem ab_ld {v : V} {u : Value} : rd true 7 (abCs v u) 0 = some (abV v u) := rfl
@[go_sem] theorem ab_ldv {v : V} {u : Value} : rd true 6 (abCs v u) 0 = some v.val := rfl
@[go_sem] theorem ab_ldw {v : V} {u : Value} : rd false 1 (abCs v u) 0 = some (.int .i64 v.w) := rfl
@[go_sem] theorem ab_ldu {v : V} {u : Value} : rd false 1 (abCs v u) 6 = some u := rfl

/-! Rows, in general. -/
def RdG {α : Type} (sz : Nat) (f : α → List Value) (F : Fz) (M : Hp) (u : Value) (l : List α) : Prop :=
  l.length ≤ 4611686018427387904 ∧ ∃ ad cap, l.length ≤ cap ∧ u = .slice ad l.length cap ∧
    (l = [] ∨ ∃ b o cs, ad = some ⟨b, o, none⟩ ∧ blk F M b = some cs ∧ ∀ i (hi : i < l.length), o + i * sz + sz ≤ cs.length ∧ (cs.drop (o + i * sz)).take sz = f l[i])
theorem RdG.new {α : Type} {sz : Nat} {f : α → List Value} {F : Fz} {M : Hp} {u : Value} {l : List α} (h : RdG sz f F M u l) {r : Nat} {e : Ent} (hF : F r = none) (hM : M r = none) : RdG sz f F (M.upd r e) u l := by
  obtain ⟨hl, ad, cap, hlc, rfl, h⟩ := h
  refine ⟨hl, ad, cap, hlc, rfl, ?_⟩
  rcases h with h | ⟨b, o, cs, h1, h2, h3⟩
  · exact .inl h
  · exact .inr ⟨b, o, cs, h1, by rw [blk_upd_ne (blk_ne h2 hF hM)]; exact h2, h3⟩
theorem RdG.keep {α : Type} {sz : Nat} {f : α → List Value} {F : Fz} {M M' : Hp} {u : Value} {l : List α} (h : RdG sz f F M u l) (kp : Keep M M') (hold : Old F M') : RdG sz f F M' u l := by
  obtain ⟨hl, ad, cap, hc, rfl, h⟩ := h
  refine ⟨hl, ad, cap, hc, rfl, ?_⟩
  rcases h with h | ⟨b, o, cs, h1, h2, h3⟩
  · exact .inl h
  · exact .inr ⟨b, o, cs, h1, blk_keep h2 kp hold, h3⟩
theorem flatG_len {α : Type} {sz : Nat} {f : α → List Value} (hf : ∀ x, (f x).length = sz) (l : List α) : (l.flatMap f).length = l.length * sz := by
  induction l with
  | nil => simp
  | cons x l ih => rw [List.flatMap_cons, List.length_append, ih, hf, List.length_cons, Nat.succ_mul]; omega
theorem flatG_get {α : Type} {sz : Nat} {f : α → List Value} (hf : ∀ x, (f x).length = sz) : ∀ (l : List α) (i : Nat) (hi : i < l.length), ((l.flatMap f).drop (i * sz)).take sz = f l[i]
  | [], i, hi => by simp at hi
  | x :: l, 0, hi => by
    rw [List.flatMap_cons, Nat.zero_mul, List.drop_zero, List.take_append_of_le_length (by rw [hf]; exact Nat.le_refl _), List.take_of_length_le (by rw [hf]; exact Nat.le_refl _)]
    rfl
  | x :: l, i + 1, hi => by
    have := flatG_get hf l i (by simpa using hi)
    rw [List.flatMap_cons, List.drop_append]
    have e : (i + 1) * sz - (f x).length = i * sz := by rw [hf, Nat.succ_mul]; omega
    have e2 : (f x).drop ((i + 1) * sz) = [] := List.drop_eq_nil_of_le (by rw [hf, Nat.succ_mul]; omega)
    rw [e, e2]
    simpa using this
theorem rdG_flat {α : Type} {sz : Nat} {f : α → List Value} {F : Fz} {M : Hp} {g : Nat} {l : List α} {cap : Nat} (hf : ∀ x, (f x).length = sz) (hl : l.length ≤ 4611686018427387904) (hlc : l.length ≤ cap) (h : blk F M g = some (l.flatMap f)) : RdG sz f F M (.slice (some ⟨g, 0, none⟩) l.length cap) l :=
  ⟨hl, _, _, hlc, rfl, .inr ⟨g, 0, _, rfl, h, fun i hi => ⟨by
    rw [flatG_len hf, Nat.zero_add]
    have : (i + 1) * sz ≤ l.length * sz := Nat.mul_le_mul_right _ hi
    rw [Nat.succ_mul] at this; exact this, by rw [Nat.zero_add]; exact flatG_get hf l i hi⟩⟩⟩
theorem rdG_nil {α : Type} {sz : Nat} {f : α → List Value} {F : Fz} {M : Hp} : RdG sz f F M (.slice none 0 0) ([] : List α) := ⟨by simp, none, 0, by simp, rfl, .inl rfl⟩
/-- Such a row out of an input's reading. -/
theorem rdG_of {α : Type} {sz bytes : Nat} {e : Sh} {f : α → List Value} {Q : α → Prop} {B : Bk} {v : Value} (h : Rd B (.slice sz bytes e) [v]) (hb : 0 < bytes) (hsz : 0 < sz) (hx : ∀ x : List Value, x.length = sz → Rd B e x → ∃ a : α, x = f a ∧ Q a) :
    ∃ (a : Option Addr) (cap : Nat) (l : List α), v = .slice a l.length cap ∧ l.length ≤ 140737488351232 ∧ (∀ x ∈ l, Q x) ∧ ∀ (F : Fz) (M : Hp), (∀ b c, B b = some c → blk F M b = some c) → RdG sz f F M (.slice a l.length cap) l := by
  obtain ⟨v', rows, h1, ⟨a, cap, rfl, hl, hm, h0, hlen, hc⟩, hs, hr⟩ := h
  cases h1
  have hlist : ∃ l : List α, rows = l.map f ∧ ∀ x ∈ l, Q x := by
    clear hc hs hl
    induction rows with
    | nil => exact ⟨[], rfl, by simp⟩
    | cons x rows ih =>
      obtain ⟨l, e, hq⟩ := ih (fun y hy => hlen y (List.mem_cons_of_mem _ hy)) (fun y hy => hr y (List.mem_cons_of_mem _ hy))
      obtain ⟨n, e', hn⟩ := hx x (hlen x (by simp)) (hr x (by simp))
      exact ⟨n :: l, by simp [e, e'], by simp [hn]; exact hq⟩
  obtain ⟨l, rfl, hQ⟩ := hlist
  rw [List.length_map] at hl hs ⊢
  have hle : l.length ≤ 140737488351232 := by
    have h1 : l.length * 1 ≤ l.length * bytes := Nat.mul_le_mul_left _ hb
    simp only [reachBytes] at hs
    omega
  refine ⟨a, cap, l, rfl, hle, hQ, fun F M hB => ⟨by omega, a, cap, hl, rfl, ?_⟩⟩
  rcases hc with hc | ⟨b, o, cs, rfl, hb', hc⟩
  · exact .inl (by simpa using hc)
  · refine .inr ⟨b, o, cs, rfl, hB _ _ hb', fun i hi => ?_⟩
    have h2 := hc i (f l[i]) (by simp [hi])
    refine ⟨?_, h2⟩
    have h3 := congrArg List.length h2
    have h4 := hlen (f l[i]) (List.mem_map.2 ⟨l[i], List.getElem_mem _, rfl⟩)
    rw [h4] at h3
    simp only [List.length_take, List.length_drop] at h3
    omega
end Go.Ax

/- Which scalars may be; sets of scalars that are made. -/
namespace Go.Ax
open Go
set_option linter.unusedVariables false

def isS (k : Int) : Bool := decide (1 ≤ k) && decide (k ≤ 7)
def scB (k : Int) (s : Sc) : Bool :=
  if k = 7 then s.p && decide (s.n = 0) && (decide (0 ≤ s.b) && decide (s.b ≤ 32)) && (decide (0 ≤ s.o) && decide (s.o ≤ 32)) && (decide (0 < s.b) || decide (s.o = 0))
  else isK k && !s.p && isN s.n (ofW k) && decide (s.b = 0) && decide (s.o = 0)
def sc6B (k : Int) (s : Sc) : Bool := scB k s && decide (s.b ≤ 6)
/-- A set of scalars that a call made: numbers, bases in a new row. -/
def abR (e : TypeId) (num : V) (l : List Ba) (F : Fz) (M : Hp) (u : Value) (F' : Fz) (M' : Hp) : Prop :=
  F' = F ∧ ((l = [] ∧ u = abV num (.slice none 0 0) ∧ M' = M) ∨ ∃ g cap, F g = none ∧ M g = none ∧ u = abV num (.slice (some ⟨g, 0, none⟩) l.length cap) ∧ (l.length ≤ cap ∧ cap ≤ maxLen) ∧ M' = M.upd g ⟨l.flatMap Ba.cs, e, cap * 7⟩)
theorem abR.le {e : TypeId} {num : V} {l : List Ba} {F : Fz} {M : Hp} {u : Value} {F' : Fz} {M' : Hp} (h : abR e num l F M u F' M') : F' = F ∧ Le F M F M' ∧ Keep M M' ∧ (Old F M → Old F M') ∧ ∃ a n c, u = abV num (.slice a n c) ∧ (l.length ≤ 1000 → RdG 7 Ba.cs F M' (.slice a n c) l) := by
  obtain ⟨hF, h⟩ := h
  refine ⟨hF, ?_⟩
  rcases h with ⟨rfl, rfl, rfl⟩ | ⟨g, cap, h1, h2, rfl, h4, rfl⟩
  · exact ⟨Le.refl _ _, Keep.refl _, fun h => h, _, _, _, rfl, fun _ => rdG_nil⟩
  · exact ⟨Le.upd h1 h2, (Keep.refl _).new h2, fun h => h.upd h1, _, _, _, rfl, fun hl => rdG_flat (fun x => rfl) (by omega) h4.1 blk_upd_same⟩
/-- A row that the call made itself, in general. -/
def OwnG {α : Type} (sz : Nat) (f : α → List Value) (e : TypeId) (F : Fz) (M : Hp) (u : Value) (l : List α) : Prop :=
  u = .slice none 0 0 ∧ l = [] ∨ ∃ g cap, u = .slice (some ⟨g, 0, none⟩) l.length cap ∧ F g = none ∧ M g = some ⟨l.flatMap f, e, cap * sz⟩ ∧ l.length ≤ cap ∧ cap ≤ maxLen
theorem OwnG.own {α : Type} {sz : Nat} {f : α → List Value} {e : TypeId} {F : Fz} {M : Hp} {u : Value} {l : List α} (hf : ∀ x, (f x).length = sz) (h : OwnG sz f e F M u l) : Own M e sz u l.length (l.flatMap f) := by
  refine ⟨flatG_len hf l, ?_⟩
  rcases h with ⟨h1, h2⟩ | ⟨g, cap, h1, h2, h3, h4, h5⟩
  · exact .inl ⟨h1, by rw [h2]; rfl⟩
  · exact .inr ⟨g, cap, h1, h3, h4, h5⟩
theorem OwnG.rd {α : Type} {sz : Nat} {f : α → List Value} {e : TypeId} {F : Fz} {M : Hp} {u : Value} {l : List α} (hf : ∀ x, (f x).length = sz) (h : OwnG sz f e F M u l) (hl : l.length ≤ 4611686018427387904) : RdG sz f F M u l := by
  rcases h with ⟨h1, h2⟩ | ⟨g, cap, h1, h2, h3, h4, h5⟩
  · subst h2; rw [h1]; exact rdG_nil
  · rw [h1]; exact rdG_flat hf hl h4 (blk_M h3)
theorem OwnG.new {α : Type} {sz : Nat} {f : α → List Value} {e : TypeId} {F : Fz} {M : Hp} {u : Value} {l : List α} (h : OwnG sz f e F M u l) {r : Nat} {x : Ent} (hM : M r = none) : OwnG sz f e F (M.upd r x) u l := by
  rcases h with h | ⟨g, cap, h1, h2, h3, h4, h5⟩
  · exact .inl h
  · exact .inr ⟨g, cap, h1, h2, by rw [Hp.upd_ne' (ne_of_none hM h3).1]; exact h3, h4, h5⟩
theorem OwnG.ne {α : Type} {sz : Nat} {f : α → List Value} {e : TypeId} {F : Fz} {M : Hp} {l : List α} {g n c r : Nat} {x : Ent} (h : OwnG sz f e F M (.slice (some ⟨g, 0, none⟩) n c) l) (hr : M r = some x) (hx : ¬ x.elem = e) : ¬ r = g := by
  rcases h with ⟨h, _⟩ | ⟨g', cap, h, _, h3, _⟩
  · cases h
  · cases h
    rintro rfl
    rw [hr] at h3; cases h3; exact hx rfl
theorem plainG {α : Type} {f : α → List Value} (hp : ∀ x, plainCells (f x)) (l : List α) : plainCells (l.flatMap f) := by
  intro u hu
  obtain ⟨v, _, hv⟩ := List.mem_flatMap.1 hu
  exact hp v u hv
theorem apG_of {α : Type} {sz bytes : Nat} {f : α → List Value} {P : Program} {s : Bool} {d : Option Nat} {l : List SO} {K : Env → Fz → Hp → Prop} {σ : Env} {F : Fz} {M : Hp} {e : TypeId} {v u : Value} {xs ys : List α}
    (hf : ∀ x, (f x).length = sz) (hp : ∀ x, plainCells (f x)) (hbytes : bytes ≤ 1000) (h : OwnG sz f e F M v xs) (hs : Src F M sz u ys.length (ys.flatMap f)) (hy : 0 < ys.length) (hb : xs.length + ys.length ≤ 1000000)
    (hk : ∀ g cap M', (M g = none ∨ ∃ c, v = .slice (some ⟨g, 0, none⟩) xs.length c) → F g = none → M' = M.upd g ⟨(xs ++ ys).flatMap f, e, cap * sz⟩ →
      OwnG sz f e F M' (.slice (some ⟨g, 0, none⟩) (xs ++ ys).length cap) (xs ++ ys) → opsW P s l K (put σ d (.slice (some ⟨g, 0, none⟩) (xs ++ ys).length cap)) F M') :
    apK P s d l K σ F M e sz bytes (some v) (some u) := by
  have hm : (xs.length + ys.length) * bytes ≤ 1000000 * 1000 := Nat.mul_le_mul hb hbytes
  refine apK_of (h.own hf) hs (plainG hp ys) (by simp only [maxLen]; omega) (by omega) ?_
  rintro v' M' (⟨_, h0, _⟩ | ⟨g, cap, hg, rfl, h1, h2, rfl⟩)
  · omega
  rw [← List.length_append, ← List.flatMap_append]
  have key : F g = none ∧ (M g = none ∨ ∃ c, v = .slice (some ⟨g, 0, none⟩) xs.length c) := by
    rcases hg with ⟨c, hx⟩ | ⟨hx, hy⟩
    · rcases h with ⟨h1, _⟩ | ⟨g', cap', h1, h2, _⟩
      · rw [h1] at hx; cases hx
      · rw [h1] at hx; cases hx; exact ⟨h2, .inr ⟨_, h1⟩⟩
    · exact ⟨hx, .inl hy⟩
  exact hk g cap _ key.2 key.1 rfl (.inr ⟨g, cap, rfl, key.1, Hp.upd_same _ _ _, by rw [List.length_append]; exact h1, h2⟩)
theorem Ba.plain (x : Ba) : plainCells x.cs := of_eq_true Ba.cs_plain
theorem Sc.plain (x : Sc) : plainCells x.cs := of_eq_true Sc.cs_plain
theorem ab_set6 {v : V} {w : Value} : v.cs ++ [w] = abCs v w := rfl
/-- All of so many blocks. -/
def wholeL (n : Nat) : List Ba := ⟨0, V.just 8 0⟩ :: (List.range n).map fun (i : Nat) => ⟨(i : Int) + 1, V.span 8 0 32⟩
theorem wholeL_len (n : Nat) : (wholeL n).length = n + 1 := by simp [wholeL]
theorem wholeL_succ (n : Nat) : wholeL (n + 1) = wholeL n ++ [⟨(n : Int) + 1, V.span 8 0 32⟩] := by simp [wholeL, List.range_succ]
end Go.Ax

/- The page's own asking of sets of scalars. -/
namespace Go.Ax
open Go
set_option linter.unusedVariables false
set_option linter.unusedSimpArgs false

theorem ba_row {cs : List Value} {p : Nat} {x : Ba} (h1 : p + 7 ≤ cs.length) (h : (cs.drop p).take 7 = x.cs) :
    cs[p]? = some (.int .i64 x.b) ∧ cs[p + 1]? = some (.int .i64 x.v.w) ∧ (cs.drop (p + 1)).take 6 = x.v.cs ∧ p + 1 + 6 ≤ cs.length := by
  refine ⟨?_, ?_, ?_, by omega⟩
  · have := congrArg (fun t => t[0]?) h
    simpa [Ba.cs] using this
  · have := congrArg (fun t => t[1]?) h
    simpa [Ba.cs, V.cs] using this
  · have := congrArg (fun t => t.drop 1) h
    rw [List.drop_take, List.drop_drop] at this
    simpa [Ba.cs] using this
def baseB (x : Ba) : Bool := (decide (0 ≤ x.b) && decide (x.b ≤ 6)) && x.v.ok && decide (x.v.w = 8) && !(decide (x.b = 0) && !(x.v.is1 && decide (x.v.nextR 0 = 0)))
def okAt (l : List Ba) (i : Nat) : Bool := match l[i]? with
  | none => true
  | some x => baseB x && (decide (i = 0) || match l[i - 1]? with | none => true | some y => decide (y.b < x.b))
def ptrsB (l : List Ba) : Bool := decide (l.length ≤ 7) && (List.range l.length).all (okAt l)
theorem ptrs_no {l : List Ba} {i : Nat} (hi : i < l.length) (h : okAt l i = false) : ptrsB l = false := by
  unfold ptrsB
  have : (List.range l.length).all (okAt l) = false := by
    rw [List.all_eq_false]
    exact ⟨i, by simpa using hi, by simp [h]⟩
  rw [this]; simp
theorem ptrs_yes {l : List Ba} (h7 : l.length ≤ 7) (h : ∀ j, j < l.length → okAt l j = true) : ptrsB l = true := by
  unfold ptrsB
  have : (List.range l.length).all (okAt l) = true := by
    rw [List.all_eq_true]
    intro x hx
    exact h x (by simpa using hx)
  rw [this]; simp [h7]
/-- May a set be, of a kind? -/
def absB (k : Int) (v : V) (l : List Ba) : Bool :=
  if k = 7 then decide (v = V.zero) && ptrsB l else decide (0 < wK k) && v.ok && decide (v.w = wK k) && decide (l.length = 0)
def onlyStep (acc : Sc × Nat) (x : Ba) : Sc × Nat :=
  if x.v.nextR 0 < 0 ∨ 32 < x.v.nextR 0 then acc
  else (⟨true, 0, x.b, x.v.nextR 0⟩, acc.2 + 1 + (if 0 ≤ x.v.nextR (x.v.nextR 0 + 1) ∧ x.v.nextR (x.v.nextR 0 + 1) ≤ 32 then 1 else 0))
def onlyP (l : List Ba) : Sc × Nat := l.foldl onlyStep (⟨false, 0, 0, 0⟩, 0)
def onlyB (k : Int) (v : V) (l : List Ba) : Sc × Bool := if k = 7 then ((onlyP l).1, decide ((onlyP l).2 = 1)) else (⟨false, v.nextR 0, 0, 0⟩, v.is1)
def pointsB (l : List Ba) (b o : Int) : Bool := l.any fun x => decide (x.b = b) && x.v.has o
def hasB (k : Int) (v : V) (l : List Ba) (s : Sc) : Bool := if k = 7 then pointsB l s.b s.o else v.has s.n
theorem okAt_ge {l : List Ba} (h : ∀ j, j < l.length → okAt l j = true) : ∀ j (hj : j < l.length), (j : Int) ≤ (l[j]).b ∧ (l[j]).b ≤ 6
  | 0, hj => by
    have h0 := h 0 hj
    unfold okAt at h0
    rw [List.getElem?_eq_getElem hj] at h0
    simp only [baseB, Bool.and_eq_true, decide_eq_true_eq] at h0
    omega
  | j + 1, hj => by
    have ih := okAt_ge h j (by omega)
    have h0 := h (j + 1) hj
    unfold okAt at h0
    rw [List.getElem?_eq_getElem hj] at h0
    simp only [baseB, Bool.and_eq_true, decide_eq_true_eq, Nat.add_sub_cancel, List.getElem?_eq_getElem (by omega : j < l.length), Bool.or_eq_true] at h0
    omega
theorem okAt_few {l : List Ba} (h : ∀ j, j < l.length → okAt l j = true) : l.length ≤ 7 := by
  by_cases h0 : l.length = 0
  · omega
  · have := okAt_ge h (l.length - 1) (by omega)
    omega
theorem ptrs_all {l : List Ba} (h : ∀ j, j < l.length → okAt l j = true) : ptrsB l = true := ptrs_yes (okAt_few h) h
end Go.Ax

/- The input of layer 15's statements, opened. -/
namespace Go.Ax
open Go
set_option linter.unusedVariables false
set_option linter.unusedSimpArgs false

abbrev shSc : Sh := .cons 1 .bool (.cons 1 (.int .i64) (.cons 1 (.int .i64) (.cons 1 (.int .i64) .nil)))
abbrev shBa : Sh := .cons 1 (.int .i64) (.cons 6 shV .nil)
abbrev shAb : Sh := .cons 6 shV (.cons 1 (.slice 7 56 shBa) .nil)
abbrev shAsk3 : Sh := .cons 1 shVs (.cons 1 shInts .nil)
abbrev shAsk15 : Sh := .cons 1 (.slice 7 72 shAb) (.cons 1 (.slice 4 32 shSc) (.cons 2 shAsk3 .nil))
/-- A set of scalars of the input: numbers, the row's slice. -/
structure Ab where
  v : V
  a : Option Addr
  n : Nat
  c : Nat
def Ab.u (x : Ab) : Value := .slice x.a x.n x.c
def Ab.cs (x : Ab) : List Value := abCs x.v x.u
theorem rd_V {B : Bk} {x : List Value} (hlen : x.length = 6) (h : Rd B shV x) : ∃ v : V, x = v.cs := by
  obtain ⟨_, ⟨n0, e0, _⟩, _, ⟨n1, e1⟩, _, ⟨n2, e2, _⟩, _, ⟨n3, e3, _⟩, _, ⟨n4, e4, _⟩, _, ⟨n5, e5, _⟩, _⟩ := h
  match x, hlen with
  | [x0, x1, x2, x3, x4, x5], _ =>
    simp at e0 e1 e2 e3 e4 e5
    subst e0; subst e1; subst e2; subst e3; subst e4; subst e5
    exact ⟨⟨n0, n1, n2, n3, n4, n5⟩, rfl⟩
theorem rd_Sc {B : Bk} {x : List Value} (hlen : x.length = 4) (h : Rd B shSc x) : ∃ s : Sc, x = s.cs := by
  obtain ⟨_, ⟨n0, e0⟩, _, ⟨n1, e1, _⟩, _, ⟨n2, e2, _⟩, _, ⟨n3, e3, _⟩, _⟩ := h
  match x, hlen with
  | [x0, x1, x2, x3], _ =>
    simp at e0 e1 e2 e3
    subst e0; subst e1; subst e2; subst e3
    exact ⟨⟨n0, n1, n2, n3⟩, rfl⟩
theorem rd_Ba {B : Bk} {x : List Value} (hlen : x.length = 7) (h : Rd B shBa x) : ∃ s : Ba, x = s.cs := by
  obtain ⟨_, ⟨n0, e0, _⟩, h1, h2, _⟩ := h
  match x, hlen with
  | [x0, x1, x2, x3, x4, x5, x6], _ =>
    simp at e0
    subst e0
    obtain ⟨v, hv⟩ := rd_V (x := [x1, x2, x3, x4, x5, x6]) rfl h2
    exact ⟨⟨n0, v⟩, by rw [Ba.cs, ← hv]⟩
/-- A set's row can be read. -/
def Ab.row (B : Bk) (x : Ab) : Prop := ∃ l : List Ba, l.length = x.n ∧ l.length ≤ 140737488351232 ∧ ∀ (F : Fz) (M : Hp), (∀ b c, B b = some c → blk F M b = some c) → RdG 7 Ba.cs F M x.u l
theorem rd_Ab {B : Bk} {x : List Value} (hlen : x.length = 7) (h : Rd B shAb x) : ∃ s : Ab, x = s.cs ∧ s.row B := by
  obtain ⟨h0, h1, h2, h3, _⟩ := h
  match x, hlen with
  | [x0, x1, x2, x3, x4, x5, x6], _ =>
    obtain ⟨v, hv⟩ := rd_V (x := [x0, x1, x2, x3, x4, x5]) rfl h1
    have h3' : Rd B (.slice 7 56 shBa) [x6] := h3
    obtain ⟨a, cap, l, e, hl, _, hr⟩ := rdG_of (Q := fun _ : Ba => True) h3' (by decide) (by decide) (fun y hy hyr => by
      obtain ⟨s, hs⟩ := rd_Ba hy hyr
      exact ⟨s, hs, trivial⟩)
    refine ⟨⟨v, a, l.length, cap⟩, ?_, l, rfl, hl, hr⟩
    show _ = v.cs ++ [Value.slice a l.length cap]
    rw [← hv, e]; rfl
theorem rd_ask15 {B : Bk} {cs : List Value} (h : Rd B shAsk15 cs) : ∃ uX uS uV uN, cs = [uX, uS, uV, uN] ∧ Rd B (.slice 7 72 shAb) [uX] ∧ Rd B (.slice 4 32 shSc) [uS] ∧ Rd B shVs [uV] ∧ Rd B shInts [uN] := by
  obtain ⟨h0, h1, h2, h3, h4, h5, h6⟩ := h
  match cs, h0, h1, h2, h3, h4, h5, h6 with
  | [], h0, _, _, _, _, _, _ => simp at h0
  | [a], _, _, h2, _, _, _, _ => simp at h2
  | [a, b], _, _, _, _, h4, _, _ => simp at h4
  | [a, b, c], _, _, _, _, h4, _, _ => simp at h4
  | [a, b, c, d], _, h1, _, h3, _, h5, _ =>
    obtain ⟨_, g1, _, g2, _⟩ := h5
    exact ⟨a, b, c, d, rfl, by simpa using h1, by simpa using h3, by simpa using g1, by simpa using g2⟩
  | a :: b :: c :: d :: e :: l, _, _, _, _, _, _, h6 => simp [Rd] at h6
theorem rd_Ss {B : Bk} {v : Value} (h : Rd B (.slice 4 32 shSc) [v]) : ∃ (a : Option Addr) (cap : Nat) (l : List Sc), v = .slice a l.length cap ∧ l.length ≤ 140737488351232 ∧ ∀ (F : Fz) (M : Hp), (∀ b c, B b = some c → blk F M b = some c) → RdG 4 Sc.cs F M (.slice a l.length cap) l := by
  obtain ⟨a, cap, l, e, hl, _, hr⟩ := rdG_of (Q := fun _ : Sc => True) h (by decide) (by decide) (fun y hy hyr => by
    obtain ⟨s, hs⟩ := rd_Sc hy hyr
    exact ⟨s, hs, trivial⟩)
  exact ⟨a, cap, l, e, hl, hr⟩
theorem rd_Xs {B : Bk} {v : Value} (h : Rd B (.slice 7 72 shAb) [v]) : ∃ (a : Option Addr) (cap : Nat) (l : List Ab), v = .slice a l.length cap ∧ l.length ≤ 140737488351232 ∧ (∀ x ∈ l, x.row B) ∧ ∀ (F : Fz) (M : Hp), (∀ b c, B b = some c → blk F M b = some c) → RdG 7 Ab.cs F M (.slice a l.length cap) l :=
  rdG_of (Q := Ab.row B) h (by decide) (by decide) (fun y hy hyr => rd_Ab hy hyr)
end Go.Ax

/- What the set of one scalar, and the set of all, answer to the page's own asking. -/
namespace Go.Ax
open Go
set_option linter.unusedVariables false
set_option maxRecDepth 100000

def oneV (k : Int) (s : Sc) : V := if k = 7 then V.zero else V.just (ofW k) s.n
def oneL (k : Int) (s : Sc) : List Ba := if k = 7 then [⟨s.b, V.just 8 s.o⟩] else []
def allV (k : Int) : V := if k = 7 then V.zero else V.whole (ofW k)
def allL (k : Int) (n : Nat) : List Ba := if k = 7 then wholeL n else []
theorem sc7 {s : Sc} (h : sc6B 7 s = true) : s.p = true ∧ s.n = 0 ∧ ∃ b o : Nat, s.b = b ∧ s.o = o ∧ b ≤ 6 ∧ o ≤ 32 ∧ (0 < b ∨ o = 0) := by
  simp only [sc6B, scB, if_true, Bool.and_eq_true, Bool.or_eq_true, decide_eq_true_eq] at h
  obtain ⟨⟨⟨⟨⟨h1, h2⟩, h3, h4⟩, h5, h6⟩, h7⟩, h8⟩ := h
  exact ⟨h1, h2, s.b.toNat, s.o.toNat, by omega, by omega, by omega, by omega, by omega⟩
theorem scN {k : Int} {s : Sc} (h7 : ¬ k = 7) (h : sc6B k s = true) : isK k = true ∧ s.p = false ∧ isN s.n (ofW k) = true ∧ s.b = 0 ∧ s.o = 0 := by
  simp only [sc6B, scB, h7, if_false, Bool.and_eq_true, Bool.not_eq_true', decide_eq_true_eq] at h
  obtain ⟨⟨⟨⟨⟨h1, h2⟩, h3⟩, h4⟩, h5⟩, h8⟩ := h
  exact ⟨h1, h2, h3, h4, h5⟩
theorem pt_one : ∀ b : Nat, b < 7 → ∀ o : Nat, o < 33 → (0 < b ∨ o = 0) → ptrsB [⟨b, V.just 8 o⟩] = true ∧ onlyP [⟨b, V.just 8 o⟩] = (⟨true, 0, b, o⟩, 1) ∧ (V.just 8 o).ok = true := by decide +kernel
theorem one_abs {k : Int} {s : Sc} (h : sc6B k s = true) : absB k (oneV k s) (oneL k s) = true := by
  by_cases h7 : k = 7
  · subst h7
    obtain ⟨h1, h2, b, o, hb, ho, h3, h4, h5⟩ := sc7 h
    have := (pt_one b (by omega) o (by omega) h5).1
    simp only [absB, oneV, oneL, if_true, hb, ho, this]
    decide
  · obtain ⟨h1, h2, h3, h4, h5⟩ := scN h7 h
    have hw := ofW_isW k
    have hp := pow_w hw
    have e0 : wK k = ofW k := by simp [wK, h1]
    simp only [absB, oneV, oneL, h7, if_false, just_ok hw h3, e0]
    simp [V.just]
    omega
theorem one_only {k : Int} {s : Sc} (h : sc6B k s = true) : onlyB k (oneV k s) (oneL k s) = (s, true) := by
  by_cases h7 : k = 7
  · subst h7
    obtain ⟨h1, h2, b, o, hb, ho, h3, h4, h5⟩ := sc7 h
    have := (pt_one b (by omega) o (by omega) h5).2.1
    simp only [onlyB, oneL, if_true, hb, ho, this]
    cases s
    simp_all
  · obtain ⟨h1, h2, h3, h4, h5⟩ := scN h7 h
    have hw := ofW_isW k
    have hn := h3
    simp only [isN, Bool.and_eq_true, decide_eq_true_eq] at hn
    simp only [onlyB, oneV, h7, if_false, just_next0 hw h3, V.is1, just_next1 hw h3]
    cases s
    simp_all
theorem one_pre {k : Int} {s : Sc} (h : sc6B k s = true) : (¬ k = 7 → (oneV k s).ok = true) ∧ ∀ x ∈ oneL k s, 0 ≤ x.v.w ∧ x.v.w ≤ 62 ∧ x.v.ok = true := by
  by_cases h7 : k = 7
  · subst h7
    obtain ⟨h1, h2, b, o, hb, ho, h3, h4, h5⟩ := sc7 h
    have := (pt_one b (by omega) o (by omega) h5).2.2
    refine ⟨fun h => absurd rfl h, fun x hx => ?_⟩
    simp only [oneL, if_true, List.mem_singleton] at hx
    subst hx
    rw [ho]
    exact ⟨(by decide : (0 : Int) ≤ 8), (by decide : (8 : Int) ≤ 62), this⟩
  · obtain ⟨h1, h2, h3, h4, h5⟩ := scN h7 h
    refine ⟨fun _ => by simp only [oneV, h7, if_false]; exact just_ok (ofW_isW k) h3, fun x hx => ?_⟩
    simp [oneL, h7] at hx
theorem one_len {k : Int} {s : Sc} : (oneL k s).length ≤ 1 := by
  unfold oneL; split <;> simp
theorem whole_ptrs : ∀ n : Nat, n < 7 → ptrsB (wholeL n) = true := by decide +kernel
theorem whole_has7 : ∀ n : Nat, n < 7 → ∀ b : Nat, b < 7 → ∀ o : Nat, o < 33 → (0 < b ∨ o = 0) → pointsB (wholeL n) b o = decide (b ≤ n) := by decide +kernel
theorem all_abs {k : Int} {n : Nat} (hk : isS k = true) (hn : n ≤ 6) : absB k (allV k) (allL k n) = true := by
  by_cases h7 : k = 7
  · subst h7
    simp only [absB, allV, allL, if_true, whole_ptrs n (by omega)]
    decide
  · have h1 : isK k = true := by simp [isS] at hk; simp [isK]; omega
    have hw := ofW_isW k
    have hp := pow_w hw
    have e0 : wK k = ofW k := by simp [wK, h1]
    simp only [absB, allV, allL, h7, if_false, whole_ok hw, e0]
    simp [V.whole]
    omega
theorem all_has {k : Int} {s : Sc} {n : Nat} (h : sc6B k s = true) (hn : n ≤ 6) : hasB k (allV k) (allL k n) s = decide (s.b ≤ n) := by
  by_cases h7 : k = 7
  · subst h7
    obtain ⟨h1, h2, b, o, hb, ho, h3, h4, h5⟩ := sc7 h
    have := whole_has7 n (by omega) b (by omega) o (by omega) h5
    simp only [hasB, allL, if_true, hb, ho, this]
    apply Bool.eq_iff_iff.2
    simp only [decide_eq_true_eq]
    omega
  · obtain ⟨h1, h2, h3, h4, h5⟩ := scN h7 h
    have hw := ofW_isW k
    simp only [hasB, allV, h7, if_false, whole_has hw h3, h4]
    simp
theorem all_pt {n b o : Nat} (hn : n ≤ 6) (hb : b ≤ n) (ho : o ≤ 32) (h : 0 < b ∨ o = 0) : hasB 7 (allV 7) (allL 7 n) ⟨true, 0, b, o⟩ = true := by
  have := whole_has7 n (by omega) b (by omega) o (by omega) h
  simp only [hasB, allL, if_true, this]
  simpa using hb
theorem all_len {k : Int} {n : Nat} : (allL k n).length ≤ n + 1 := by
  unfold allL; split
  · rw [wholeL_len]; omega
  · simp
theorem rd_slice0 {B : Bk} {sz bytes n cap : Nat} {e : Sh} {a : Option Addr} (h : Rd B (.slice sz bytes e) [.slice a n cap]) : a = none → cap = 0 := by
  obtain ⟨v', rows, h1, ⟨a', cap', e1, hl, hm, h0, _⟩, _⟩ := h
  cases h1
  cases e1
  exact h0
theorem flat_of_rows {α : Type} {sz : Nat} {f : α → List Value} {cs : List Value} : ∀ (l : List α) (o : Nat), (∀ i (hi : i < l.length), (cs.drop (o + i * sz)).take sz = f l[i]) → (cs.drop o).take (l.length * sz) = l.flatMap f
  | [], o, _ => by simp
  | x :: l, o, h => by
    have h0 := h 0 (by simp)
    have ih := flat_of_rows l (o + sz) (fun i hi => by
      have := h (i + 1) (by simpa using hi)
      rw [Nat.succ_mul, Nat.add_comm (i * sz) sz, ← Nat.add_assoc] at this
      simpa using this)
    rw [Nat.zero_mul, Nat.add_zero] at h0
    rw [List.length_cons, Nat.succ_mul, Nat.add_comm (l.length * sz) sz, List.take_add, List.drop_drop, h0, ih]
    rfl
theorem RdG.src {α : Type} {sz : Nat} {f : α → List Value} {F : Fz} {M : Hp} {a : Option Addr} {cap : Nat} {l : List α} (hf : ∀ x, (f x).length = sz) (h : RdG sz f F M (.slice a l.length cap) l) (h0 : a = none → cap = 0) : Src F M sz (.slice a l.length cap) l.length (l.flatMap f) := by
  obtain ⟨_, a', cap', hc, e, h⟩ := h
  cases e
  refine ⟨flatG_len hf l, ?_⟩
  cases a with
  | none =>
    have := h0 rfl
    subst this
    have hl : l.length = 0 := by omega
    exact .inl ⟨by rw [hl], hl⟩
  | some ad =>
    refine .inr ⟨ad, cap, rfl, ?_⟩
    rcases h with h | ⟨b, o, cs, e, hb, hr⟩
    · exact .inl (by rw [h]; rfl)
    · cases e
      exact .inr ⟨b, o, cs, rfl, hb, flat_of_rows l o (fun i hi => (hr i hi).2)⟩
theorem apG_any {α : Type} {sz bytes : Nat} {f : α → List Value} {P : Program} {s : Bool} {d : Option Nat} {l : List SO} {K : Env → Fz → Hp → Prop} {σ : Env} {F : Fz} {M : Hp} {e : TypeId} {v u : Value} {xs ys : List α}
    (hf : ∀ x, (f x).length = sz) (hp : ∀ x, plainCells (f x)) (hbytes : bytes ≤ 1000) (h : OwnG sz f e F M v xs) (hs : Src F M sz u ys.length (ys.flatMap f)) (hx : 0 < xs.length) (hb : xs.length + ys.length ≤ 1000000)
    (hk : ∀ g cap M', (M g = none ∨ ∃ c, v = .slice (some ⟨g, 0, none⟩) xs.length c) → F g = none → M' = M.upd g ⟨(xs ++ ys).flatMap f, e, cap * sz⟩ →
      OwnG sz f e F M' (.slice (some ⟨g, 0, none⟩) (xs ++ ys).length cap) (xs ++ ys) → opsW P s l K (put σ d (.slice (some ⟨g, 0, none⟩) (xs ++ ys).length cap)) F M') :
    apK P s d l K σ F M e sz bytes (some v) (some u) := by
  have hm : (xs.length + ys.length) * bytes ≤ 1000000 * 1000 := Nat.mul_le_mul hb hbytes
  refine apK_of (h.own hf) hs (plainG hp ys) (by simp only [maxLen]; omega) (by omega) ?_
  rintro v' M' (⟨h0, _, _⟩ | ⟨g, cap, hg, rfl, h1, h2, rfl⟩)
  · rcases h with ⟨_, h⟩ | ⟨g', cap', h1, _⟩
    · rw [h] at hx; simp at hx
    · rw [h1] at h0; cases h0
  rw [← List.length_append, ← List.flatMap_append]
  have key : F g = none ∧ (M g = none ∨ ∃ c, v = .slice (some ⟨g, 0, none⟩) xs.length c) := by
    rcases hg with ⟨c, hx⟩ | ⟨hx, hy⟩
    · rcases h with ⟨h1, _⟩ | ⟨g', cap', h1, h2, _⟩
      · rw [h1] at hx; cases hx
      · rw [h1] at hx; cases hx; exact ⟨h2, .inr ⟨_, h1⟩⟩
    · exact ⟨hx, .inl hy⟩
  exact hk g cap _ key.2 key.1 rfl (.inr ⟨g, cap, rfl, key.1, Hp.upd_same _ _ _, by rw [List.length_append]; exact h1, h2⟩)
theorem Sc.drop_app {v : Sc} {n : Nat} {l : List Value} : (v.cs ++ l).drop (n + 4) = l.drop n := rfl
theorem Sc.take_app {v : Sc} {n : Nat} {l : List Value} : (v.cs ++ l).take (n + 4) = v.cs ++ l.take n := rfl
theorem sc_row {cs : List Value} {p : Nat} {x : Sc} (h1 : p + 4 ≤ cs.length) (h : (cs.drop p).take 4 = x.cs) : cs[p + 2]? = some (.int .i64 x.b) := by
  have := congrArg (fun t => t[2]?) h
  simpa [Sc.cs] using this
/-- The seven scalars of the statement's own. -/
def seven : List Sc := [⟨false, 0, 0, 0⟩, ⟨false, 7, 0, 0⟩, ⟨false, 300, 0, 0⟩, ⟨true, 0, 0, 0⟩, ⟨true, 0, 2, 3⟩, ⟨true, 0, 20, 0⟩, ⟨true, 0, 0, 2⟩]
end Go.Ax

/- Rows of a call's own, in general; the offsets of a base, the members of bases. -/
namespace Go.Ax
open Go
set_option linter.unusedVariables false

/-- A row of the call's own, on the way, in general. -/
structure MineG {α : Type} (sz : Nat) (f : α → List Value) (e : TypeId) (F : Fz) (M0 M : Hp) (u : Value) (l : List α) : Prop where
  own : OwnG sz f e F M u l
  new : ∀ g n c, u = .slice (some ⟨g, 0, none⟩) n c → M0 g = none
theorem MineG.nil {α : Type} {sz : Nat} {f : α → List Value} {e : TypeId} {F : Fz} {M0 M : Hp} : MineG sz f e F M0 M (.slice none 0 0) ([] : List α) := ⟨.inl ⟨rfl, rfl⟩, fun g n c h => by cases h⟩
theorem MineG.fresh {α : Type} {sz : Nat} {f : α → List Value} {e : TypeId} {F : Fz} {M0 M : Hp} {u : Value} {l : List α} (h : MineG sz f e F M0 M u l) {r : Nat} {x : Ent} (hM : M r = none) : MineG sz f e F M0 (M.upd r x) u l := ⟨h.own.new hM, h.new⟩
theorem OwnG.keep {α : Type} {sz : Nat} {f : α → List Value} {e : TypeId} {F : Fz} {M M' : Hp} {u : Value} {l : List α} (h : OwnG sz f e F M u l) (kp : Keep M M') : OwnG sz f e F M' u l := by
  rcases h with h | ⟨g, cap, h1, h2, h3, h4⟩
  · exact .inl h
  · exact .inr ⟨g, cap, h1, h2, kp _ _ h3, h4⟩
theorem MineG.keep {α : Type} {sz : Nat} {f : α → List Value} {e : TypeId} {F : Fz} {M0 M M' : Hp} {u : Value} {l : List α} (h : MineG sz f e F M0 M u l) (kp : Keep M M') : MineG sz f e F M0 M' u l := ⟨h.own.keep kp, h.new⟩
theorem MineG.shape {α : Type} {sz : Nat} {f : α → List Value} {e : TypeId} {F : Fz} {M0 M : Hp} {u : Value} {l : List α} (h : MineG sz f e F M0 M u l) : ∃ a c, u = .slice a l.length c := by
  rcases h.own with ⟨h1, h2⟩ | ⟨g, cap, h1, _⟩
  · exact ⟨none, 0, by rw [h1, h2]; rfl⟩
  · exact ⟨_, cap, h1⟩
/-- The row that a call made, in general. -/
def rowR {α : Type} (sz : Nat) (f : α → List Value) (e : TypeId) (l : List α) (F : Fz) (M : Hp) (u : Value) (F' : Fz) (M' : Hp) : Prop :=
  F' = F ∧ ((l = [] ∧ u = .slice none 0 0 ∧ M' = M) ∨ ∃ g cap, F g = none ∧ M g = none ∧ u = .slice (some ⟨g, 0, none⟩) l.length cap ∧ (l.length ≤ cap ∧ cap ≤ maxLen) ∧ M' = M.upd g ⟨l.flatMap f, e, cap * sz⟩)
theorem rowR.le {α : Type} {sz : Nat} {f : α → List Value} {e : TypeId} {l : List α} {F : Fz} {M : Hp} {u : Value} {F' : Fz} {M' : Hp} (hf : ∀ x, (f x).length = sz) (h : rowR sz f e l F M u F' M') (hl : l.length ≤ 4611686018427387904) :
    F' = F ∧ Le F M F M' ∧ Keep M M' ∧ (Old F M → Old F M') ∧ ∃ a c, u = .slice a l.length c ∧ RdG sz f F M' (.slice a l.length c) l := by
  obtain ⟨hF, h⟩ := h
  refine ⟨hF, ?_⟩
  rcases h with ⟨rfl, rfl, rfl⟩ | ⟨g, cap, h1, h2, rfl, h4, rfl⟩
  · exact ⟨Le.refl _ _, Keep.refl _, fun h => h, none, 0, rfl, rdG_nil⟩
  · exact ⟨Le.upd h1 h2, (Keep.refl _).new h2, fun h => h.upd h1, _, _, rfl, rdG_flat hf hl h4.1 blk_upd_same⟩
theorem MineG.done {α : Type} {sz : Nat} {f : α → List Value} {e : TypeId} {F : Fz} {M0 M : Hp} {u : Value} {l : List α} (h : MineG sz f e F M0 M u l) (kp : Keep M0 M) : endK F M (rowR sz f e l F M0) u := by
  rcases h.own with ⟨h1, h2⟩ | ⟨g, cap, h1, h2, h3, h4, h5⟩
  · exact endK_keep kp ⟨rfl, .inl ⟨h2, h1, rfl⟩⟩
  · exact endK_keep (kp.one h3) ⟨rfl, .inr ⟨g, cap, h2, h.new _ _ _ h1, h1, ⟨h4, h5⟩, rfl⟩⟩
/-- The row's memory alone. -/
theorem MineG.alone {α : Type} {sz : Nat} {f : α → List Value} {e : TypeId} {F : Fz} {M0 M : Hp} {u : Value} {l : List α} (h : MineG sz f e F M0 M u l) (kp : Keep M0 M) : ∃ M1, Keep M1 M ∧ Keep M0 M1 ∧ rowR sz f e l F M0 u F M1 := by
  rcases h.own with ⟨h1, h2⟩ | ⟨g, cap, h1, h2, h3, h4, h5⟩
  · exact ⟨M0, kp, Keep.refl _, rfl, .inl ⟨h2, h1, rfl⟩⟩
  · exact ⟨_, kp.one h3, (Keep.refl _).new (h.new _ _ _ h1), rfl, .inr ⟨g, cap, h2, h.new _ _ _ h1, h1, ⟨h4, h5⟩, rfl⟩⟩
theorem apMG_of {α : Type} {sz bytes : Nat} {f : α → List Value} {P : Program} {s : Bool} {d : Option Nat} {l : List SO} {K : Env → Fz → Hp → Prop} {σ : Env} {F : Fz} {M0 M : Hp} {e : TypeId} {v u : Value} {xs ys : List α}
    (hf : ∀ x, (f x).length = sz) (hp : ∀ x, plainCells (f x)) (hbytes : bytes ≤ 1000) (h : MineG sz f e F M0 M v xs) (kp : Keep M0 M) (hs : Src F M sz u ys.length (ys.flatMap f)) (hy : 0 < ys.length) (hb : xs.length + ys.length ≤ 1000000)
    (hk : ∀ v' M', (∃ g c, v' = .slice (some ⟨g, 0, none⟩) (xs ++ ys).length c) → (∀ r x, M r = some x → ¬ x.elem = e → M' r = some x) → Keep M0 M' → (Old F M → Old F M') → MineG sz f e F M0 M' v' (xs ++ ys) → opsW P s l K (put σ d v') F M') :
    apK P s d l K σ F M e sz bytes (some v) (some u) := by
  refine apG_of hf hp hbytes h.own hs hy hb ?_
  rintro g cap M2 hgo gF rfl own2
  have g0 : M0 g = none := by
    rcases hgo with h1 | ⟨c, rfl⟩
    · exact kp.free h1
    · exact h.new _ _ _ rfl
  refine hk _ _ ⟨g, cap, rfl⟩ (fun r x hr hx => ?_) (kp.new g0) (fun h => h.upd gF) ⟨own2, fun g' n c h => by cases h; exact g0⟩
  have : ¬ r = g := by
    rcases hgo with h1 | ⟨c, rfl⟩
    · exact (ne_of_none h1 hr).1
    · exact h.own.ne hr hx
  rw [Hp.upd_ne' this]; exact hr

/-! The offsets of a base. -/
def V.offF (v : V) : Nat → Int → List Int
  | 0, _ => []
  | f + 1, n => if 0 ≤ n ∧ n ≤ 32 then n :: v.offF f (v.nextR (n + 1)) else []
def V.offs (v : V) : List Int := v.offF 34 (v.nextR 0)
theorem V.offF_out {v : V} {f : Nat} {n : Int} (h : ¬ (0 ≤ n ∧ n ≤ 32)) : v.offF f n = [] := by
  cases f with
  | zero => rfl
  | succ f => simp [V.offF, h]
theorem V.offF_in {v : V} {f : Nat} {n : Int} (h : 0 ≤ n ∧ n ≤ 32) : v.offF (f + 1) n = n :: v.offF f (v.nextR (n + 1)) := by simp [V.offF, h]
theorem V.offF_len {v : V} : ∀ (f : Nat) (n : Int), (v.offF f n).length ≤ f
  | 0, n => by simp [V.offF]
  | f + 1, n => by
    simp only [V.offF]
    split
    · have := V.offF_len (v := v) f (v.nextR (n + 1))
      simp; omega
    · simp
theorem V.offs_len (v : V) : v.offs.length ≤ 34 := V.offF_len _ _
theorem V.offF_mem {v : V} : ∀ (f : Nat) (n : Int), ∀ y ∈ v.offF f n, 0 ≤ y ∧ y ≤ 32
  | 0, n => by simp [V.offF]
  | f + 1, n => by
    intro y hy
    simp only [V.offF] at hy
    split at hy
    · rename_i h
      rcases List.mem_cons.1 hy with rfl | hy
      · exact h
      · exact V.offF_mem f _ y hy
    · simp at hy
theorem V.offs_pos (v : V) : decide (0 < v.offs.length) = (decide (0 ≤ v.nextR 0) && decide (v.nextR 0 ≤ 32)) := by
  apply Bool.eq_iff_iff.2
  simp only [decide_eq_true_eq, Bool.and_eq_true]
  by_cases h : 0 ≤ v.nextR 0 ∧ v.nextR 0 ≤ 32
  · simp only [V.offs, V.offF_in h]; simp; exact h
  · simp only [V.offs, V.offF_out h]; simp; omega
/-- The members of bases, one by one. -/
def memB (l : List Ba) : List Sc := l.flatMap fun x => x.v.offs.map fun o => ⟨true, 0, x.b, o⟩
theorem memB_nil : memB [] = [] := rfl
theorem memB_cons (x : Ba) (l : List Ba) : memB (x :: l) = (x.v.offs.map fun o => ⟨true, 0, x.b, o⟩) ++ memB l := rfl
theorem memB_app (l m : List Ba) : memB (l ++ m) = memB l ++ memB m := by simp [memB]
theorem memB_len : ∀ l : List Ba, (memB l).length ≤ 34 * l.length
  | [] => by simp [memB]
  | x :: l => by
    have h1 := memB_len l
    have h2 := x.v.offs_len
    rw [memB_cons]
    simp
    omega
/-- Is there no member, as far as it counts? -/
def emptyB (k : Int) (v : V) (l : List Ba) : Bool := if k = 7 then !(l.any fun x => decide (0 ≤ x.v.nextR 0) && decide (x.v.nextR 0 ≤ 32)) else decide (v.nextR 0 < 0)
theorem onlyStep_count (l : List Ba) : ∀ acc, (l.foldl onlyStep acc).2 = acc.2 + (l.map fun x => min 2 x.v.offs.length).sum := by
  induction l with
  | nil => intro acc; simp
  | cons x l ih =>
    intro acc
    rw [List.foldl_cons, ih, List.map_cons, List.sum_cons]
    unfold onlyStep
    by_cases h : x.v.nextR 0 < 0 ∨ 32 < x.v.nextR 0
    · rw [if_pos h]
      have : x.v.offs = [] := V.offF_out (by omega)
      rw [this]; simp
    · rw [if_neg h]
      have h1 : 0 ≤ x.v.nextR 0 ∧ x.v.nextR 0 ≤ 32 := by omega
      by_cases h2 : 0 ≤ x.v.nextR (x.v.nextR 0 + 1) ∧ x.v.nextR (x.v.nextR 0 + 1) ≤ 32
      · rw [if_pos h2]
        have : 2 ≤ x.v.offs.length := by
          simp only [V.offs, V.offF_in h1, V.offF_in h2]; simp
        simp only []
        omega
      · rw [if_neg h2]
        have : x.v.offs.length = 1 := by
          simp only [V.offs, V.offF_in h1, V.offF_out h2]; simp
        simp only []
        omega
theorem memB_zero (l : List Ba) : (memB l).length = 0 ↔ (l.map fun x => min 2 x.v.offs.length).sum = 0 := by
  induction l with
  | nil => simp [memB]
  | cons x l ih =>
    rw [memB_cons, List.length_append, List.length_map, List.map_cons, List.sum_cons]
    omega
theorem memB_count (l : List Ba) : (memB l).length ≤ 1 ↔ (l.map fun x => min 2 x.v.offs.length).sum ≤ 1 := by
  induction l with
  | nil => simp [memB]
  | cons x l ih =>
    have h0 := memB_zero l
    rw [memB_cons, List.length_append, List.length_map, List.map_cons, List.sum_cons]
    omega
theorem onlyStep_none (l : List Ba) (h : (l.map fun x => min 2 x.v.offs.length).sum = 0) : ∀ acc, l.foldl onlyStep acc = acc := by
  induction l with
  | nil => intro acc; rfl
  | cons x l ih =>
    intro acc
    rw [List.map_cons, List.sum_cons] at h
    rw [List.foldl_cons]
    have h0 : x.v.offs.length = 0 := by omega
    have : onlyStep acc x = acc := by
      unfold onlyStep
      rw [if_pos]
      have := x.v.offs_pos
      rw [h0] at this
      simp at this
      omega
    rw [this]
    exact ih (by omega) acc
theorem onlyStep_one (l : List Ba) (h : (l.map fun x => min 2 x.v.offs.length).sum = 1) : ∀ acc, memB l = [(l.foldl onlyStep acc).1] := by
  induction l with
  | nil => simp at h
  | cons x l ih =>
    intro acc
    rw [List.map_cons, List.sum_cons] at h
    rw [List.foldl_cons, memB_cons]
    by_cases h0 : x.v.offs.length = 0
    · have e0 : x.v.offs = [] := by simpa using h0
      rw [e0]
      exact ih (by omega) _
    · have h1 : x.v.offs.length = 1 := by omega
      have hl : (l.map fun x => min 2 x.v.offs.length).sum = 0 := by omega
      rw [onlyStep_none l hl]
      have hm : memB l = [] := by simpa using (memB_zero l).2 hl
      rw [hm]
      have hp := x.v.offs_pos
      rw [h1] at hp
      simp at hp
      unfold onlyStep
      rw [if_neg (by omega)]
      have : x.v.offs = [x.v.nextR 0] := by
        have h2 := h1
        simp only [V.offs, V.offF_in hp] at h2 ⊢
        simp at h2
        rw [h2]
      rw [this]
      simp
/-- Just one member, as the program tells it. -/
theorem onlyP_mem (l : List Ba) : (decide ((onlyP l).2 = 1) = true → memB l = [(onlyP l).1]) ∧ (decide ((onlyP l).2 = 1) = false → ¬ (memB l).length = 1) := by
  have hc := onlyStep_count l (⟨false, 0, 0, 0⟩, 0)
  have h1 := memB_count l
  have h0 := memB_zero l
  unfold onlyP
  rw [Nat.zero_add] at hc
  constructor
  · intro h
    rw [decide_eq_true_eq, hc] at h
    exact onlyStep_one l h _
  · intro h
    rw [decide_eq_false_iff_not, hc] at h
    omega
theorem decEq_Ba (a b : Ba) : decide (a = b) = (decide (a.b = b.b) && (decide (a.v = b.v) && true)) := by
  apply Bool.eq_iff_iff.2
  cases a; cases b
  simp
end Go.Ax

/- Bases compared; rows of numbers as rows in general; sets of scalars that can be read. -/
namespace Go.Ax
open Go
set_option linter.unusedVariables false

@[go_sem] theorem eqV_Ba (a b : Ba) : eqV (.st [(false, 0, 1, .i), (true, 1, 6, (.st [(false, 0, 1, .i), (false, 1, 1, .b), (false, 2, 1, .i), (false, 3, 1, .i), (false, 4, 1, .i), (false, 5, 1, .i)]))]) a.val b.val = some (decide (a = b)) := by
  rw [decEq_Ba]
  have e1 : rd true 6 a.cs 1 = some a.v.val := rfl
  have e2 : rd true 6 b.cs 1 = some b.v.val := rfl
  have e3 : rd false 1 a.cs 0 = some (.int .i64 a.b) := rfl
  have e4 : rd false 1 b.cs 0 = some (.int .i64 b.b) := rfl
  simp only [eqV, eqFs, Ba.val, e1, e2, e3, e4]
  have := eqV_V a.v b.v
  simp only [eqV] at this
  simp [this]
theorem rowR.own {α : Type} {sz : Nat} {f : α → List Value} {e : TypeId} {l : List α} {F : Fz} {M : Hp} {u : Value} {F' : Fz} {M' : Hp} (h : rowR sz f e l F M u F' M') : OwnG sz f e F M' u l := by
  obtain ⟨_, ⟨h1, h2, _⟩ | ⟨g, cap, h1, _, h3, h4, h5⟩⟩ := h
  · exact .inl ⟨h2, h1⟩
  · exact .inr ⟨g, cap, h3, h1, by rw [h5]; exact Hp.upd_same _ _ _, h4⟩
theorem OwnG.frame {α : Type} {sz : Nat} {f : α → List Value} {e e' : TypeId} {l : List α} {F : Fz} {M M' : Hp} {u : Value} (h : OwnG sz f e F M u l) (hfr : ∀ r x, M r = some x → ¬ x.elem = e' → M' r = some x) (hne : ¬ e = e') : OwnG sz f e F M' u l := by
  rcases h with h | ⟨g, cap, h1, h2, h3, h4⟩
  · exact .inl h
  · exact .inr ⟨g, cap, h1, h2, hfr _ _ h3 hne, h4⟩
abbrev intC (n : Int) : List Value := [intV n]
theorem intC_len (n : Int) : (intC n).length = 1 := rfl
theorem intC_plain (n : Int) : plainCells (intC n) := by
  intro u hu
  simp [intC] at hu
  rw [hu]; rfl
theorem one_row {cs : List Value} {p : Nat} {v : Value} (h : (cs.drop p).take 1 = [v]) : cs[p]? = some v := by
  have := congrArg (fun t => t[0]?) h
  simpa using this
/-- A set of scalars that can be read: its bases. -/
def Ab.is (F : Fz) (M : Hp) (x : Ab) (l : List Ba) : Prop := x.n = l.length ∧ RdG 7 Ba.cs F M x.u l
theorem Ab.is.keep {F : Fz} {M M' : Hp} {x : Ab} {l : List Ba} (h : x.is F M l) (kp : Keep M M') (hold : Old F M') : x.is F M' l := ⟨h.1, h.2.keep kp hold⟩
theorem Ab.is.u_eq {F : Fz} {M : Hp} {x : Ab} {l : List Ba} (h : x.is F M l) : x.u = .slice x.a l.length x.c := by rw [Ab.u, h.1]
/-- What a set that may be is made of. -/
theorem abs_pre {k : Int} {v : V} {l : List Ba} (h : absB k v l = true) : l.length ≤ 7 ∧ (¬ k = 7 → v.ok = true ∧ l = []) ∧ (∀ x ∈ l, 0 ≤ x.v.w ∧ x.v.w ≤ 62 ∧ x.v.ok = true ∧ x.v.w = 8 ∧ 0 ≤ x.b ∧ x.b ≤ 6) := by
  by_cases h7 : k = 7
  · simp only [absB, h7, if_true, Bool.and_eq_true, ptrsB, List.all_eq_true, decide_eq_true_eq] at h
    refine ⟨h.2.1, fun h => absurd h7 h, fun x hx => ?_⟩
    obtain ⟨i, hi, rfl⟩ := List.getElem_of_mem hx
    have := h.2.2 i (by simpa using hi)
    unfold okAt at this
    rw [List.getElem?_eq_getElem hi] at this
    simp only [baseB, Bool.and_eq_true, decide_eq_true_eq] at this
    have hb := this.1.1.1.1
    have hv := this.1.1.1.2
    have hw := this.1.1.2
    exact ⟨by omega, by omega, hv, hw, hb.1, hb.2⟩
  · simp only [absB, h7, if_false, Bool.and_eq_true, decide_eq_true_eq] at h
    have hl : l = [] := by simpa using h.2
    subst hl
    exact ⟨by simp, fun _ => ⟨h.1.1.2, rfl⟩, by simp⟩
theorem holds_pts {k : Int} {s : Sc} (h : sc6B k s = true) (b : Bool) : (if k = 7 then decide (s.o ≤ 32) && b else b) = b := by
  split
  · rename_i h7
    subst h7
    obtain ⟨_, _, b', o, _, ho, _, h4, _⟩ := sc7 h
    have : s.o ≤ 32 := by omega
    simp [this]
  · rfl
/-- Two of three parts taken together. -/
theorem seq_assoc {P : Program} {a b c : SC} {Q : Post} {σ : Env} {F : Fz} {M : Hp} : W P (.seq a (.seq b c)) Q σ F M = W P (.seq (.seq a b) c) Q σ F M := by
  have : (Post.andThen (W P b (Post.andThen (W P c Q) Q)) (Post.andThen (W P c Q) Q)) = Post.andThen (W P b (Post.andThen (W P c Q) Q)) Q := by
    funext x
    cases x <;> rfl
  show W P a (Post.andThen (W P b (Post.andThen (W P c Q) Q)) Q) σ F M = W P a (Post.andThen (W P b (Post.andThen (W P c Q) Q)) (Post.andThen (W P c Q) Q)) σ F M
  rw [this]
def five : List Sc := [⟨false, 0, 0, 0⟩, ⟨false, 7, 0, 0⟩, ⟨true, 0, 0, 0⟩, ⟨true, 0, 1, 4⟩, ⟨true, 0, 30, 0⟩]
/-- A scalar of the row. -/
theorem sc_at {F : Fz} {M : Hp} {su : Value} {L : List Sc} (h : RdG 4 Sc.cs F M su L) {j : Nat} (hj : j < L.length) : ∃ b o cap cs, su = .slice (some ⟨b, o, none⟩) L.length cap ∧ blk F M b = some cs ∧ o + j * 4 + 4 ≤ cs.length ∧ (cs.drop (o + j * 4)).take 4 = L[j].cs ∧ cs[o + j * 4 + 2]? = some (.int .i64 L[j].b) := by
  obtain ⟨_, ad, cap, _, rfl, h⟩ := h
  rcases h with h | ⟨b, o, cs, rfl, hb, hc⟩
  · rw [h] at hj; simp at hj
  · exact ⟨b, o, cap, cs, rfl, hb, (hc j hj).1, (hc j hj).2, sc_row (hc j hj).1 (hc j hj).2⟩
/-- A set of the row. -/
theorem ab_at {F : Fz} {M : Hp} {su : Value} {L : List Ab} (h : RdG 7 Ab.cs F M su L) {j : Nat} (hj : j < L.length) : ∃ b o cap cs, su = .slice (some ⟨b, o, none⟩) L.length cap ∧ blk F M b = some cs ∧ o + j * 7 + 7 ≤ cs.length ∧ (cs.drop (o + j * 7)).take 7 = abCs L[j].v L[j].u := by
  obtain ⟨_, ad, cap, _, rfl, h⟩ := h
  rcases h with h | ⟨b, o, cs, rfl, hb, hc⟩
  · rw [h] at hj; simp at hj
  · exact ⟨b, o, cap, cs, rfl, hb, (hc j hj).1, (hc j hj).2⟩
end Go.Ax

/- What bases have, one by one; rows that grow by rows; what is made block by block. -/
namespace Go.Ax
open Go
set_option linter.unusedVariables false
set_option maxRecDepth 100000

theorem most_ge {v : V} (h : v.ok = true) : 255 ≤ mostV v.w := by
  have hw : isW v.w = true := by simp [V.ok] at h; exact h.1
  have := pow_w hw
  omega
theorem V.offF_spec {v : V} (hv : v.ok = true) : ∀ (f : Nat) (n0 : Int), 0 ≤ n0 → 34 ≤ n0 + f →
    (∀ y, y ∈ v.offF f (v.nextR n0) ↔ n0 ≤ y ∧ y ≤ 32 ∧ v.has y = true) ∧ ((v.offF f (v.nextR n0)).length : Int) ≤ max 0 (33 - n0)
  | 0, n0, h0, hf => ⟨fun y => by simp [V.offF]; omega, by simp [V.offF]; omega⟩
  | f + 1, n0, h0, hf => by
    have hm := most_ge hv
    rcases nextR_spec hv h0 with ⟨a1, a2, a3, a4, a5⟩ | ⟨a1, a2⟩
    · by_cases h32 : v.nextR n0 ≤ 32
      · obtain ⟨i1, i2⟩ := V.offF_spec hv f (v.nextR n0 + 1) (by omega) (by omega)
        rw [V.offF_in ⟨a1, h32⟩]
        refine ⟨fun y => ?_, by simp; omega⟩
        rw [List.mem_cons, i1]
        constructor
        · rintro (rfl | ⟨b1, b2, b3⟩)
          · exact ⟨a2, h32, a4⟩
          · exact ⟨by omega, b2, b3⟩
        · rintro ⟨b1, b2, b3⟩
          by_cases e : y = v.nextR n0
          · exact .inl e
          · by_cases e2 : y < v.nextR n0
            · rw [a5 y b1 e2] at b3; cases b3
            · exact .inr ⟨by omega, b2, b3⟩
      · rw [V.offF_out (by omega)]
        refine ⟨fun y => ?_, by simp; omega⟩
        simp
        intro b1 b2
        exact a5 y b1 (by omega)
    · rw [a1, V.offF_out (by omega)]
      refine ⟨fun y => ?_, by simp; omega⟩
      simp
      intro b1 b2
      exact a2 y b1 (by omega)
theorem mem_offs {v : V} (hv : v.ok = true) {y : Int} : y ∈ v.offs ↔ 0 ≤ y ∧ y ≤ 32 ∧ v.has y = true := (V.offF_spec hv 34 0 (by omega) (by omega)).1 y
theorem offs_len33 {v : V} (hv : v.ok = true) : v.offs.length ≤ 33 := by
  have := (V.offF_spec hv 34 0 (by omega) (by omega)).2
  unfold V.offs
  omega
theorem memB_len33 : ∀ {l : List Ba}, (∀ x ∈ l, x.v.ok = true) → (memB l).length ≤ 33 * l.length
  | [], _ => by simp [memB]
  | x :: l, h => by
    have h1 := memB_len33 (l := l) (fun y hy => h y (List.mem_cons_of_mem _ hy))
    have h2 := offs_len33 (h x (by simp))
    rw [memB_cons]
    simp
    omega
theorem mem_memB {l : List Ba} (hl : ∀ x ∈ l, x.v.ok = true) {s : Sc} : s ∈ memB l ↔ s.p = true ∧ s.n = 0 ∧ 0 ≤ s.o ∧ s.o ≤ 32 ∧ pointsB l s.b s.o = true := by
  unfold memB pointsB
  rw [List.mem_flatMap]
  constructor
  · rintro ⟨x, hx, hs⟩
    rw [List.mem_map] at hs
    obtain ⟨y, hy, rfl⟩ := hs
    rw [mem_offs (hl x hx)] at hy
    refine ⟨rfl, rfl, hy.1, hy.2.1, ?_⟩
    rw [List.any_eq_true]
    exact ⟨x, hx, by simp [hy.2.2]⟩
  · rintro ⟨h1, h2, h3, h4, h5⟩
    rw [List.any_eq_true] at h5
    obtain ⟨x, hx, h6⟩ := h5
    simp only [Bool.and_eq_true, decide_eq_true_eq] at h6
    refine ⟨x, hx, ?_⟩
    rw [List.mem_map]
    refine ⟨s.o, (mem_offs (hl x hx)).2 ⟨h3, h4, h6.2⟩, ?_⟩
    cases s
    simp_all
theorem OwnG.src {α : Type} {sz : Nat} {f : α → List Value} {e : TypeId} {F : Fz} {M : Hp} {u : Value} {l : List α} (hf : ∀ x, (f x).length = sz) (h : OwnG sz f e F M u l) : Src F M sz u l.length (l.flatMap f) := by
  refine ⟨flatG_len hf l, ?_⟩
  rcases h with ⟨h1, h2⟩ | ⟨g, cap, h1, h2, h3, h4, h5⟩
  · exact .inl ⟨h1, by rw [h2]; rfl⟩
  · exact .inr ⟨_, cap, h1, .inr ⟨g, 0, _, rfl, blk_M h3, by rw [List.drop_zero, List.take_of_length_le]; rw [flatG_len hf]; exact Nat.le_refl _⟩⟩
/-- A row grows by another, whichever may be empty. -/
theorem apMG_any {α : Type} {sz bytes : Nat} {f : α → List Value} {P : Program} {s : Bool} {d : Option Nat} {l : List SO} {K : Env → Fz → Hp → Prop} {σ : Env} {F : Fz} {M0 M : Hp} {e : TypeId} {v u : Value} {xs ys : List α}
    (hf : ∀ x, (f x).length = sz) (hp : ∀ x, plainCells (f x)) (hbytes : bytes ≤ 1000) (h : MineG sz f e F M0 M v xs) (kp : Keep M0 M) (hs : Src F M sz u ys.length (ys.flatMap f)) (hb : xs.length + ys.length ≤ 1000000)
    (hk : ∀ v' M', (∀ r x, M r = some x → ¬ x.elem = e → M' r = some x) → Keep M0 M' → (Old F M → Old F M') → MineG sz f e F M0 M' v' (xs ++ ys) → opsW P s l K (put σ d v') F M') :
    apK P s d l K σ F M e sz bytes (some v) (some u) := by
  have hm : (xs.length + ys.length) * bytes ≤ 1000000 * 1000 := Nat.mul_le_mul hb hbytes
  refine apK_of (h.own.own hf) hs (plainG hp ys) (by simp only [maxLen]; omega) (by omega) ?_
  rintro v' M' (⟨h0, h1, rfl, rfl⟩ | ⟨g, cap, hg, rfl, h1, h2, rfl⟩)
  · have hys : ys = [] := by simpa using h1
    have hxs : xs = [] := by
      rcases h.own with ⟨_, h⟩ | ⟨g', cap', h, _⟩
      · exact h
      · rw [h] at h0; cases h0
    subst hys hxs
    exact hk _ _ (fun r x hr _ => hr) kp (fun h => h) ⟨.inl ⟨rfl, rfl⟩, fun g n c h => by cases h⟩
  rw [← List.length_append, ← List.flatMap_append]
  have key : F g = none ∧ (M g = none ∨ ∃ c, v = .slice (some ⟨g, 0, none⟩) xs.length c) := by
    rcases hg with ⟨c, hx⟩ | ⟨hx, hy⟩
    · rcases h.own with ⟨h1, _⟩ | ⟨g', cap', h1, h2, _⟩
      · rw [h1] at hx; cases hx
      · rw [h1] at hx; cases hx; exact ⟨h2, .inr ⟨_, h1⟩⟩
    · exact ⟨hx, .inl hy⟩
  have g0 : M0 g = none := by
    rcases key.2 with h1 | ⟨c, hv⟩
    · exact kp.free h1
    · exact h.new _ _ _ hv
  refine hk _ _ (fun r x hr hx => ?_) (kp.new g0) (fun h => h.upd key.1) ⟨.inr ⟨g, cap, rfl, key.1, Hp.upd_same _ _ _, by rw [List.length_append]; exact h1, h2⟩, fun g' n c h => by cases h; exact g0⟩
  have : ¬ r = g := by
    rcases key.2 with h1 | ⟨c, hv⟩
    · exact (ne_of_none h1 hr).1
    · rw [hv] at h; exact h.own.ne hr hx
  rw [Hp.upd_ne' this]; exact hr
/-- The base of a block, or that there is nothing in it. -/
def ofB (l : List Ba) (b : Int) : Ba := match l.find? (fun x => decide (x.b = b)) with
  | some x => x
  | none => ⟨b, V.nothing 8⟩
theorem ofB_b (l : List Ba) (b : Int) : (ofB l b).b = b := by
  unfold ofB
  split
  · rename_i x h
    have := List.find?_some h
    simpa using this
  · rfl
theorem ofB_mem (l : List Ba) (b : Int) : ofB l b ∈ l ∨ ofB l b = ⟨b, V.nothing 8⟩ := by
  unfold ofB
  split
  · rename_i x h
    exact .inl (List.mem_of_find?_eq_some h)
  · exact .inr rfl
/-- Bases in the order of blocks. -/
theorem okAt_base {l : List Ba} (h : ptrsB l = true) : (∀ x ∈ l, baseB x = true) ∧ l.Pairwise (fun x y => x.b < y.b) := by
  unfold ptrsB at h
  rw [Bool.and_eq_true, List.all_eq_true] at h
  have hj : ∀ j, j < l.length → okAt l j = true := fun j hj => h.2 j (by simpa using hj)
  have hlt : ∀ j (hj1 : j + 1 < l.length), (l[j]).b < (l[j + 1]).b := by
    intro j hj1
    have := hj (j + 1) hj1
    unfold okAt at this
    rw [List.getElem?_eq_getElem hj1] at this
    simp only [Nat.add_sub_cancel, List.getElem?_eq_getElem (by omega : j < l.length), Bool.and_eq_true, Bool.or_eq_true, decide_eq_true_eq] at this
    omega
  refine ⟨fun x hx => ?_, ?_⟩
  · obtain ⟨i, hi, rfl⟩ := List.getElem_of_mem hx
    have := hj i hi
    unfold okAt at this
    rw [List.getElem?_eq_getElem hi] at this
    simp only [Bool.and_eq_true] at this
    exact this.1
  · rw [List.pairwise_iff_getElem]
    intro i j hi hj' hij
    have key : ∀ d (hd : i + d + 1 < l.length), (l[i]).b < (l[i + d + 1]).b := by
      intro d
      induction d with
      | zero => intro hd; exact hlt i hd
      | succ d ih => intro hd; have h1 := ih (by omega); have h2 := hlt (i + d + 1) (by omega); have e : i + (d + 1) + 1 = i + d + 1 + 1 := by omega
                     simp only [e] at *; omega
    have := key (j - i - 1) (by omega)
    have e : i + (j - i - 1) + 1 = j := by omega
    simpa only [e] using this
theorem ptrs_of {l : List Ba} (h1 : ∀ x ∈ l, baseB x = true) (h2 : l.Pairwise (fun x y => x.b < y.b)) : ptrsB l = true := by
  refine ptrs_all (fun j hj => ?_)
  unfold okAt
  rw [List.getElem?_eq_getElem hj]
  simp only [h1 _ (List.getElem_mem hj), Bool.true_and, Bool.or_eq_true, decide_eq_true_eq]
  by_cases h0 : j = 0
  · exact .inl h0
  · right
    rw [List.getElem?_eq_getElem (by omega : j - 1 < l.length)]
    rw [List.pairwise_iff_getElem] at h2
    simpa using h2 (j - 1) j (by omega) hj (by omega)
/-- In order, a block has one base at most. -/
theorem points_of {l : List Ba} (h : ptrsB l = true) (b o : Int) : pointsB l b o = (ofB l b).v.has o := by
  have hp := (okAt_base h).2
  clear h
  induction l with
  | nil => rfl
  | cons x l ih =>
    rw [List.pairwise_cons] at hp
    have ih' := ih hp.2
    unfold pointsB ofB
    rw [List.any_cons, List.find?_cons]
    by_cases hx : x.b = b
    · have hz : (l.any fun x => decide (x.b = b) && x.v.has o) = false := by
        rw [List.any_eq_false]
        intro y hy
        have := hp.1 y hy
        have : ¬ y.b = b := by omega
        simp [this]
      simp [hx, hz]
    · simp only [hx, decide_false, Bool.false_and, Bool.false_or]
      exact ih'
/-- What is made block by block, of blocks with anything in them. -/
def eachL (z : Nat → Ba) (n : Nat) : List Ba := ((List.range n).map z).filter fun x => decide (0 < x.v.offs.length)
theorem eachL_succ (z : Nat → Ba) (n : Nat) : eachL z (n + 1) = eachL z n ++ (if 0 < (z n).v.offs.length then [z n] else []) := by
  unfold eachL
  rw [List.range_succ, List.map_append, List.filter_append]
  simp [List.filter_cons]
theorem eachL_len (z : Nat → Ba) (n : Nat) : (eachL z n).length ≤ n := by
  unfold eachL
  exact Nat.le_trans (List.length_filter_le _ _) (by simp)
/-- Such bases are in order. -/
structure EachR (z : Nat → Ba) : Prop where
  b : ∀ i, i < 7 → (z i).b = i
  ok : ∀ i, i < 7 → (z i).v.ok = true ∧ (z i).v.w = 8
  null : ∀ y, 0 ≤ y → y ≤ 255 → (z 0).v.has y = true → y = 0
theorem eachL_base {z : Nat → Ba} (h : EachR z) : ptrsB (eachL z 7) = true := by
  refine ptrs_of (fun x hx => ?_) ?_
  · unfold eachL at hx
    rw [List.mem_filter, List.mem_map] at hx
    obtain ⟨⟨i, hi, rfl⟩, ho⟩ := hx
    rw [List.mem_range] at hi
    have hb := h.b i hi
    obtain ⟨hok, hw⟩ := h.ok i hi
    unfold baseB
    rw [hb, hok, hw]
    by_cases h0 : i = 0
    · subst h0
      rw [V.offs_pos] at ho
      simp only [Bool.and_eq_true, decide_eq_true_eq] at ho
      obtain ⟨s1, s2, s3⟩ := some_has hok (by omega)
      have hw' : mostV (z 0).v.w = 255 := by rw [hw]; decide
      rw [hw'] at s2
      have e0 := h.null _ s1 s2 s3
      rw [e0] at s3
      obtain ⟨q1, q2⟩ := single_of hok (by omega) (by omega) s3 (fun y y0 y1 y2 => h.null y y0 (by omega) y2)
      simp [q1, q2]
    · have : ¬ (i : Int) = 0 := by omega
      have h6 : (i : Int) ≤ 6 := by omega
      have h00 : (0 : Int) ≤ i := by omega
      simp [h6, h0]
  · unfold eachL
    refine List.Pairwise.filter _ ?_
    rw [List.pairwise_map]
    refine List.Pairwise.imp_of_mem ?_ List.pairwise_lt_range
    intro a b ha hb hab
    rw [List.mem_range] at ha hb
    rw [h.b a ha, h.b b hb]
    omega
theorem eachL_of {z : Nat → Ba} (h : EachR z) {b : Nat} (hb : b < 7) {o : Int} (h0 : 0 ≤ o) (h1 : o ≤ 32) : pointsB (eachL z 7) b o = (z b).v.has o := by
  apply Bool.eq_iff_iff.2
  unfold pointsB eachL
  rw [List.any_eq_true]
  constructor
  · rintro ⟨x, hx, hs⟩
    rw [List.mem_filter, List.mem_map] at hx
    obtain ⟨⟨i, hi, rfl⟩, _⟩ := hx
    rw [List.mem_range] at hi
    simp only [Bool.and_eq_true, decide_eq_true_eq, h.b i hi] at hs
    have : i = b := by omega
    rw [← this]; exact hs.2
  · intro hh
    refine ⟨z b, ?_, by simp [h.b b hb, hh]⟩
    rw [List.mem_filter, List.mem_map]
    refine ⟨⟨b, by simpa using hb, rfl⟩, ?_⟩
    have : o ∈ (z b).v.offs := (mem_offs (h.ok b hb).1).2 ⟨h0, h1, hh⟩
    have := List.length_pos_of_mem this
    simpa using this
theorem rowR.mine {α : Type} {sz : Nat} {f : α → List Value} {e : TypeId} {l : List α} {F : Fz} {M0 M : Hp} {u : Value} {F' : Fz} {M' : Hp} (h : rowR sz f e l F M u F' M') (kp : Keep M0 M) : MineG sz f e F M0 M' u l := by
  refine ⟨h.own, fun g n c hu => ?_⟩
  obtain ⟨_, ⟨_, h2, _⟩ | ⟨g', cap, _, h2, h3, _⟩⟩ := h
  · rw [h2] at hu; cases hu
  · rw [h3] at hu; cases hu; exact kp.free h2
/-- Two bases of one block, together. -/
structure BothB (x y z : Ba) : Prop where
  b : z.b = x.b
  ok : z.v.ok = true
  w : z.v.w = 8
  all : ∀ o, 0 ≤ o → o ≤ 32 → x.v.has o = true ∨ y.v.has o = true → z.v.has o = true
  one : ∀ n0, (∀ o, 0 ≤ o → o ≤ 32 → x.v.has o = true ∨ y.v.has o = true → o = n0) → ∀ o, 0 ≤ o → o ≤ 255 → z.v.has o = true → o = n0
/-- What two bases of one block both have. -/
structure CrossB (x y z : Ba) : Prop where
  b : z.b = x.b
  ok : z.v.ok = true
  w : z.v.w = 8
  left : ∀ o, 0 ≤ o → o ≤ 32 → z.v.has o = true → x.v.has o = true
  both : ∀ o, 0 ≤ o → o ≤ 32 → x.v.has o = true → y.v.has o = true → z.v.has o = true
  null : (∀ o, 0 ≤ o → o ≤ 255 → x.v.has o = true → o = 0) → (∀ o, 0 ≤ o → o ≤ 255 → y.v.has o = true → o = 0) → ∀ o, 0 ≤ o → o ≤ 255 → z.v.has o = true → o = 0
structure PreB (x y : Ba) : Prop where
  b : y.b = x.b
  okx : x.v.ok = true
  wx : x.v.w = 8
  oky : y.v.ok = true
  wy : y.v.w = 8
theorem baseB_ok {x : Ba} (h : baseB x = true) : x.v.ok = true ∧ x.v.w = 8 ∧ 0 ≤ x.b ∧ x.b ≤ 6 ∧ (x.b = 0 → ∀ o, 0 ≤ o → o ≤ 255 → x.v.has o = true → o = 0) := by
  simp only [baseB, Bool.and_eq_true, decide_eq_true_eq] at h
  have hb := h.1.1.1
  have hv := h.1.1.2
  have hw := h.1.2
  refine ⟨hv, hw, hb.1, hb.2, fun h0 o o0 o1 ho => ?_⟩
  have hl := h.2
  rw [h0] at hl
  simp at hl
  obtain ⟨_, _, _, q⟩ := is1_mem hv hl.1
  have hm : mostV x.v.w = 255 := by rw [hw]; decide
  have := q o o0 (by omega) ho
  rw [this, hl.2]
theorem ofB_ok {l : List Ba} (h : ptrsB l = true) (b : Int) : (ofB l b).v.ok = true ∧ (ofB l b).v.w = 8 ∧ (b = 0 → ∀ o, 0 ≤ o → o ≤ 255 → (ofB l b).v.has o = true → o = 0) := by
  have hb := ofB_b l b
  rcases ofB_mem l b with hm | he
  · obtain ⟨h1, h2, _, _, h5⟩ := baseB_ok ((okAt_base h).1 _ hm)
    exact ⟨h1, h2, fun h0 => h5 (by rw [hb, h0])⟩
  · rw [he]
    exact ⟨(by decide : (V.nothing 8).ok = true), rfl, fun _ _ _ _ h => by cases h⟩
theorem ofB_pre {l1 l2 : List Ba} (h1 : ptrsB l1 = true) (h2 : ptrsB l2 = true) (b : Int) : PreB (ofB l1 b) (ofB l2 b) := by
  obtain ⟨a1, a2, _⟩ := ofB_ok h1 b
  obtain ⟨b1, b2, _⟩ := ofB_ok h2 b
  exact ⟨by rw [ofB_b, ofB_b], a1, a2, b1, b2⟩
theorem bothB_each {l1 l2 : List Ba} (h1 : ptrsB l1 = true) (h2 : ptrsB l2 = true) {z : Nat → Ba} (hz : ∀ b : Nat, b < 7 → BothB (ofB l1 b) (ofB l2 b) (z b)) : EachR z := by
  refine ⟨fun i hi => by rw [(hz i hi).b, ofB_b], fun i hi => ⟨(hz i hi).ok, (hz i hi).w⟩, fun y y0 y1 hy => ?_⟩
  refine (hz 0 (by omega)).one 0 (fun o o0 o1 ho => ?_) y y0 y1 hy
  rcases ho with ho | ho
  · exact (ofB_ok h1 0).2.2 rfl o o0 (by omega) ho
  · exact (ofB_ok h2 0).2.2 rfl o o0 (by omega) ho
theorem crossB_each {l1 l2 : List Ba} (h1 : ptrsB l1 = true) (h2 : ptrsB l2 = true) {z : Nat → Ba} (hz : ∀ b : Nat, b < 7 → CrossB (ofB l1 b) (ofB l2 b) (z b)) : EachR z := by
  refine ⟨fun i hi => by rw [(hz i hi).b, ofB_b], fun i hi => ⟨(hz i hi).ok, (hz i hi).w⟩, fun y y0 y1 hy => ?_⟩
  exact (hz 0 (by omega)).null ((ofB_ok h1 0).2.2 rfl) ((ofB_ok h2 0).2.2 rfl) y y0 y1 hy
/-- A member of bases lies in a block that there is. -/
theorem points_in {l : List Ba} (h : ptrsB l = true) {b o : Int} (hp : pointsB l b o = true) : 0 ≤ b ∧ b ≤ 6 := by
  unfold pointsB at hp
  rw [List.any_eq_true] at hp
  obtain ⟨x, hx, hs⟩ := hp
  simp only [Bool.and_eq_true, decide_eq_true_eq] at hs
  obtain ⟨_, _, h3, h4, _⟩ := baseB_ok ((okAt_base h).1 _ hx)
  omega
/-- The members of a set, of a kind. -/
def memOf (k : Int) (v : V) (l : List Ba) (s : Sc) : Prop :=
  if k = 7 then s.p = true ∧ s.n = 0 ∧ 0 ≤ s.o ∧ s.o ≤ 32 ∧ pointsB l s.b s.o = true else s.p = false ∧ s.b = 0 ∧ s.o = 0 ∧ 0 ≤ s.n ∧ s.n ≤ mostV v.w ∧ v.has s.n = true
theorem memOf_has {k : Int} {v : V} {l : List Ba} {s : Sc} (h : memOf k v l s) : hasB k v l s = true := by
  unfold memOf at h
  unfold hasB
  split <;> simp_all
/-- Two sets, together. -/
structure BothA (k : Int) (v1 : V) (l1 : List Ba) (v2 : V) (l2 : List Ba) (v : V) (l : List Ba) : Prop where
  may : absB k v l = true
  left : ∀ s, memOf k v1 l1 s → hasB k v l s = true
  right : ∀ s, memOf k v2 l2 s → hasB k v l s = true
/-- What two sets both have. -/
structure CrossA (k : Int) (v1 : V) (l1 : List Ba) (v2 : V) (l2 : List Ba) (v : V) (l : List Ba) : Prop where
  may : absB k v l = true
  left : ∀ s, memOf k v l s → hasB k v1 l1 s = true
  both : ∀ s, memOf k v1 l1 s → hasB k v2 l2 s = true → hasB k v l s = true
theorem abs_pair {k : Int} {v1 v2 : V} {l1 l2 : List Ba} (h1 : absB k v1 l1 = true) (h2 : absB k v2 l2 = true) :
    (k = 7 ∧ v1 = V.zero ∧ v2 = V.zero ∧ ptrsB l1 = true ∧ ptrsB l2 = true) ∨ (¬ k = 7 ∧ 0 < wK k ∧ v1.ok = true ∧ v2.ok = true ∧ v1.w = wK k ∧ v2.w = wK k ∧ l1 = [] ∧ l2 = []) := by
  by_cases h7 : k = 7
  · simp only [absB, h7, if_true, Bool.and_eq_true, decide_eq_true_eq] at h1 h2
    exact .inl ⟨h7, h1.1, h2.1, h1.2, h2.2⟩
  · simp only [absB, h7, if_false, Bool.and_eq_true, decide_eq_true_eq, List.length_eq_zero_iff] at h1 h2
    exact .inr ⟨h7, h1.1.1.1, h1.1.1.2, h2.1.1.2, h1.1.2, h2.1.2, h1.2, h2.2⟩
theorem bothA_num {k : Int} {v1 v2 z : V} (h7 : ¬ k = 7) (hk : 0 < wK k) (w1 : v1.w = wK k) (w2 : v2.w = wK k) (h : BothR v1 v2 z) : BothA k v1 [] v2 [] z [] := by
  refine ⟨?_, fun s hs => ?_, fun s hs => ?_⟩
  · simp only [absB, h7, if_false, h.ok, h.w, w1]; simp [hk]
  · simp only [memOf, h7, if_false] at hs
    simp only [hasB, h7, if_false]
    exact h.left _ hs.2.2.2.1 hs.2.2.2.2.1 hs.2.2.2.2.2
  · simp only [memOf, h7, if_false] at hs
    simp only [hasB, h7, if_false]
    exact h.right _ hs.2.2.2.1 hs.2.2.2.2.1 hs.2.2.2.2.2
theorem crossA_num {k : Int} {v1 v2 z : V} (h7 : ¬ k = 7) (hk : 0 < wK k) (w1 : v1.w = wK k) (w2 : v2.w = wK k) (h : MeetR v1 v2 z) : CrossA k v1 [] v2 [] z [] := by
  refine ⟨?_, fun s hs => ?_, fun s hs h2 => ?_⟩
  · simp only [absB, h7, if_false, h.ok, h.w, w1]; simp [hk]
  · simp only [memOf, h7, if_false] at hs
    simp only [hasB, h7, if_false]
    exact h.left _ hs.2.2.2.1 hs.2.2.2.2.1 hs.2.2.2.2.2
  · simp only [memOf, h7, if_false] at hs
    simp only [hasB, h7, if_false] at h2 ⊢
    exact h.both _ hs.2.2.2.1 hs.2.2.2.2.1 hs.2.2.2.2.2 h2
theorem bothA_ptr {l1 l2 : List Ba} (h1 : ptrsB l1 = true) (h2 : ptrsB l2 = true) {z : Nat → Ba} (hz : ∀ b : Nat, b < 7 → BothB (ofB l1 b) (ofB l2 b) (z b)) : BothA 7 V.zero l1 V.zero l2 V.zero (eachL z 7) := by
  have he := bothB_each h1 h2 hz
  refine ⟨?_, fun s hs => ?_, fun s hs => ?_⟩
  · simp only [absB, if_true, eachL_base he]; decide
  · simp only [memOf, if_true] at hs
    obtain ⟨_, _, o0, o1, hp⟩ := hs
    obtain ⟨b0, b1⟩ := points_in h1 hp
    obtain ⟨b, hb⟩ : ∃ b : Nat, s.b = b := ⟨s.b.toNat, by omega⟩
    simp only [hasB, if_true, hb]
    rw [eachL_of he (by omega) o0 o1]
    rw [points_of h1, hb] at hp
    exact (hz b (by omega)).all _ o0 o1 (.inl hp)
  · simp only [memOf, if_true] at hs
    obtain ⟨_, _, o0, o1, hp⟩ := hs
    obtain ⟨b0, b1⟩ := points_in h2 hp
    obtain ⟨b, hb⟩ : ∃ b : Nat, s.b = b := ⟨s.b.toNat, by omega⟩
    simp only [hasB, if_true, hb]
    rw [eachL_of he (by omega) o0 o1]
    rw [points_of h2, hb] at hp
    exact (hz b (by omega)).all _ o0 o1 (.inr hp)
theorem crossA_ptr {l1 l2 : List Ba} (h1 : ptrsB l1 = true) (h2 : ptrsB l2 = true) {z : Nat → Ba} (hz : ∀ b : Nat, b < 7 → CrossB (ofB l1 b) (ofB l2 b) (z b)) : CrossA 7 V.zero l1 V.zero l2 V.zero (eachL z 7) := by
  have he := crossB_each h1 h2 hz
  refine ⟨?_, fun s hs => ?_, fun s hs hh => ?_⟩
  · simp only [absB, if_true, eachL_base he]; decide
  · simp only [memOf, if_true] at hs
    obtain ⟨_, _, o0, o1, hp⟩ := hs
    obtain ⟨b0, b1⟩ := points_in (eachL_base he) hp
    obtain ⟨b, hb⟩ : ∃ b : Nat, s.b = b := ⟨s.b.toNat, by omega⟩
    simp only [hasB, if_true, hb]
    rw [hb, eachL_of he (by omega) o0 o1] at hp
    rw [points_of h1]
    exact (hz b (by omega)).left _ o0 o1 hp
  · simp only [memOf, if_true] at hs
    obtain ⟨_, _, o0, o1, hp⟩ := hs
    obtain ⟨b0, b1⟩ := points_in h1 hp
    obtain ⟨b, hb⟩ : ∃ b : Nat, s.b = b := ⟨s.b.toNat, by omega⟩
    simp only [hasB, if_true, hb] at hh ⊢
    rw [eachL_of he (by omega) o0 o1]
    rw [points_of h1, hb] at hp
    rw [points_of h2] at hh
    exact (hz b (by omega)).both _ o0 o1 hp hh
end Go.Ax

/- What is told of one set in another. -/
namespace Go.Ax
open Go
set_option linter.unusedVariables false

/-- Is one set told to be in another? -/
def underB (k : Int) (v1 : V) (l1 : List Ba) (v2 : V) (l2 : List Ba) : Bool := if k = 7 then !((memB l1).any fun s => !(decide (s.o ≤ 32) && pointsB l2 s.b s.o)) else v1.under v2
theorem under_has {k : Int} {v1 v2 : V} {l1 l2 : List Ba} (h1 : absB k v1 l1 = true) (h2 : absB k v2 l2 = true) (hu : underB k v1 l1 v2 l2 = true) {s : Sc} (hs : memOf k v1 l1 s) : hasB k v2 l2 s = true := by
  rcases abs_pair h1 h2 with ⟨h7, e1, e2, p1, p2⟩ | ⟨h7, hk, ok1, ok2, w1, w2, e1, e2⟩
  · subst h7
    simp only [underB, if_true] at hu
    have hok : ∀ x ∈ l1, x.v.ok = true := fun x hx => (baseB_ok ((okAt_base p1).1 x hx)).1
    have hm : s ∈ memB l1 := (mem_memB hok).2 (by simpa only [memOf, if_true] using hs)
    rw [Bool.not_eq_true', List.any_eq_false] at hu
    have := hu s hm
    simp only [Bool.not_eq_true, Bool.not_eq_false', Bool.and_eq_true] at this
    simp only [hasB, if_true]
    exact this.2
  · simp only [underB, h7, if_false] at hu
    simp only [memOf, h7, if_false] at hs
    simp only [hasB, h7, if_false]
    exact under_sound ok1 ok2 (by rw [w1, w2]) hu _ hs.2.2.2.1 hs.2.2.2.2.1 hs.2.2.2.2.2
theorem memB_empty {l : List Ba} (h : emptyB 7 V.zero l = true) : memB l = [] := by
  simp only [emptyB, if_true, Bool.not_eq_true', List.any_eq_false] at h
  unfold memB
  rw [List.flatMap_eq_nil_iff]
  intro x hx
  have h0 := h x hx
  have hp := x.v.offs_pos
  have : (decide (0 ≤ x.v.nextR 0) && decide (x.v.nextR 0 ≤ 32)) = false := by
    cases hq : (decide (0 ≤ x.v.nextR 0) && decide (x.v.nextR 0 ≤ 32))
    · rfl
    · exact absurd hq h0
  rw [this] at hp
  have : x.v.offs.length = 0 := by
    have := of_decide_eq_false hp
    omega
  have : x.v.offs = [] := by simpa using this
  rw [this]; rfl
theorem under_true {k : Int} {v1 v2 : V} {l1 l2 : List Ba} (h1 : absB k v1 l1 = true) (h2 : absB k v2 l2 = true)
    (h : emptyB k v1 l1 = true ∨ (v1 = v2 ∧ l1 = l2) ∨ ((onlyB k v1 l1).2 = true ∧ hasB k v2 l2 (onlyB k v1 l1).1 = true)) : underB k v1 l1 v2 l2 = true := by
  rcases abs_pair h1 h2 with ⟨h7, e1, e2, p1, p2⟩ | ⟨h7, hk, ok1, ok2, w1, w2, e1, e2⟩
  · subst h7
    have hok : ∀ x ∈ l1, x.v.ok = true := fun x hx => (baseB_ok ((okAt_base p1).1 x hx)).1
    simp only [underB, if_true]
    rw [Bool.not_eq_true', List.any_eq_false]
    intro s hs
    have hm := (mem_memB hok).1 hs
    have hs32 := hm.2.2.2.1
    suffices hq : pointsB l2 s.b s.o = true by simp [hq, hs32]
    rcases h with h | ⟨_, rfl⟩ | ⟨h, h'⟩
    · have : memB l1 = [] := memB_empty (by simpa only [emptyB, if_true] using h)
      rw [this] at hs; cases hs
    · exact hm.2.2.2.2
    · simp only [onlyB, if_true] at h h'
      rw [(onlyP_mem l1).1 h] at hs
      simp at hs
      subst hs
      simpa only [hasB, if_true] using h'
  · subst e1 e2
    simp only [underB, h7, if_false]
    rcases h with h | ⟨rfl, _⟩ | ⟨h, h'⟩
    · simp only [emptyB, h7, if_false, decide_eq_true_eq] at h
      exact under_none h
    · exact under_same
    · simp only [onlyB, h7, if_false] at h h'
      simp only [hasB, h7, if_false] at h'
      exact under_one h h'
end Go.Ax

/- The pointers of the statement of many blocks. -/
namespace Go.Ax
open Go
set_option linter.unusedVariables false
set_option maxRecDepth 100000

def offP (n b : Nat) : Nat := (b * 5 + n) % 30
def ptP (n b : Nat) : Sc := ⟨true, 0, b, if b = 0 then 0 else offP n b⟩
theorem offP_lt (n b : Nat) : offP n b < 30 := Nat.mod_lt _ (by decide)
theorem offP_rem (n b : Nat) : ((b : Int) * 5 + n).tmod 30 = offP n b := by
  unfold offP
  rw [Int.tmod_eq_emod_of_nonneg (by omega)]
  omega
theorem ptP_ok {n b : Nat} (hb : b ≤ 6) : sc6B 7 (ptP n b) = true := by
  have := offP_lt n b
  have h6 : (b : Int) ≤ 6 := by omega
  have h32 : (b : Int) ≤ 32 := by omega
  by_cases h0 : b = 0
  · subst h0; simp [sc6B, scB, ptP]
  · have h1 : (0 : Int) < b := by omega
    have h2 : (offP n b : Int) ≤ 32 := by omega
    simp [sc6B, scB, ptP, h0, h2, h6, h32]
    omega
theorem ptP_mem {n b : Nat} {l : List Ba} (hb : b ≤ 6) (h : hasB 7 V.zero l (ptP n b) = true) : memOf 7 V.zero l (ptP n b) := by
  have := offP_lt n b
  simp only [hasB, if_true] at h
  simp only [memOf, if_true]
  refine ⟨rfl, rfl, ?_, ?_, h⟩
  · simp only [ptP]; split <;> omega
  · simp only [ptP]; split <;> omega
theorem ptP_one {n b : Nat} (hb : b ≤ 6) : hasB 7 V.zero (oneL 7 (ptP n b)) (ptP n b) = true := by
  have := offP_lt n b
  have h0 : 0 ≤ (ptP n b).o ∧ (ptP n b).o ≤ 32 := by simp only [ptP]; split <;> omega
  simp only [hasB, if_true, oneL, pointsB, List.any_cons, List.any_nil, Bool.or_false]
  rw [just_has h0.1 (by omega)]
  simp
theorem one_may {n b : Nat} (hb : b ≤ 6) : absB 7 V.zero (oneL 7 (ptP n b)) = true := one_abs (ptP_ok hb)
theorem null_one : hasB 7 V.zero (oneL 7 ⟨true, 0, 0, 0⟩) (ptP 0 0) = true := by decide +kernel
theorem mem_allP {l : List Ba} (h : absB 7 V.zero l = true) {s : Sc} (hs : memOf 7 V.zero l s) : hasB 7 (allV 7) (allL 7 6) s = true := by
  simp only [absB, if_true, Bool.and_eq_true] at h
  simp only [memOf, if_true] at hs
  obtain ⟨_, _, o0, o1, hp⟩ := hs
  obtain ⟨b0, b1⟩ := points_in h.2 hp
  obtain ⟨b, hb⟩ : ∃ b : Nat, s.b = b := ⟨s.b.toNat, by omega⟩
  obtain ⟨o, ho⟩ : ∃ o : Nat, s.o = o := ⟨s.o.toNat, by omega⟩
  have hz : 0 < b ∨ o = 0 := by
    by_cases hb0 : b = 0
    · right
      rw [points_of h.2] at hp
      have := (ofB_ok h.2 s.b).2.2 (by omega) s.o o0 (by omega) hp
      omega
    · omega
  have := all_pt (n := 6) (b := b) (o := o) (by decide) (by omega) (by omega) hz
  simp only [hasB, if_true] at this ⊢
  rw [hb, ho]; exact this
theorem two_not_only {l : List Ba} (h : absB 7 V.zero l = true) {n : Nat} (h0 : memOf 7 V.zero l (ptP n 0)) (h1 : memOf 7 V.zero l (ptP n 1)) : (onlyB 7 V.zero l).2 = false := by
  have hp := abs_pre h
  have hok : ∀ x ∈ l, x.v.ok = true := fun x hx => (hp.2.2 x hx).2.2.1
  simp only [memOf, if_true] at h0 h1
  have m0 := (mem_memB hok).2 h0
  have m1 := (mem_memB hok).2 h1
  cases hq : (onlyB 7 V.zero l).2
  · rfl
  · simp only [onlyB, if_true] at hq
    rw [(onlyP_mem l).1 hq] at m0 m1
    simp at m0 m1
    rw [← m0] at m1
    have := congrArg Sc.b m1
    simp [ptP] at this
/-- A set's own block is written; bases lie in none such. -/
theorem RdG.store {F : Fz} {M : Hp} {u : Value} {l : List Ba} (h : RdG 7 Ba.cs F M u l) {r : Nat} {v v' : V} {w w' : Value} {te te' : TypeId} {z : Nat} (hr : M r = some ⟨abCs v w, te, z⟩) : RdG 7 Ba.cs F (M.upd r ⟨abCs v' w', te', z⟩) u l := by
  obtain ⟨hl, ad, cap, hc, rfl, h⟩ := h
  refine ⟨hl, ad, cap, hc, rfl, ?_⟩
  rcases h with h | ⟨b, o, cs, h1, h2, h3⟩
  · exact .inl h
  by_cases hl0 : l = []
  · exact .inl hl0
  right
  refine ⟨b, o, cs, h1, ?_, h3⟩
  by_cases hb : b = r
  · exfalso
    subst hb
    rw [blk_M hr] at h2
    cases h2
    obtain ⟨d1, d2⟩ := h3 0 (by cases l <;> simp_all)
    have hlen : (abCs v w).length = 7 := rfl
    have d1' : o + 0 * 7 + 7 ≤ (abCs v w).length := d1
    have ho : o = 0 := by omega
    subst ho
    have := congrArg (fun t => t[1]?) d2
    simp [abCs, V.cs, Ba.cs] at this
  · rw [blk_upd_ne hb]; exact h2
end Go.Ax
