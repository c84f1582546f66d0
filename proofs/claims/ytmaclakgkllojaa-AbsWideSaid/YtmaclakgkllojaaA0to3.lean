/- Parts A0to3: the machine's runs of small codes, contracts of functions, plain facts. -/
import Derived.Orders
import Derived.Tactics
import Derived.Below
import Derived.Laws.OwnMore
import Derived.Laws.Cells
import Derived.Laws.Shifts
import Derived.Laws.IdiomAt
import Derived.Laws.StructEq
/- A small heap logic over the kit's machine: what a call may know of memory, and what it keeps. -/
namespace Go.Ax
open Go

/-- A block of the call's own: its first cells, its element type, how many cells it has. -/
structure Ent where
  cells : List Value
  elem : TypeId
  size : Nat

abbrev Hp := Nat → Option Ent
abbrev Fz := Nat → Option (List Value)
def Hp.upd (M : Hp) (b : Nat) (e : Ent) : Hp := fun k => if k = b then some e else M k
def Fz.upd (F : Fz) (b : Nat) (c : List Value) : Fz := fun k => if k = b then some c else F k

@[simp] theorem Hp.upd_same (M : Hp) (b : Nat) (e : Ent) : M.upd b e b = some e := by simp [Hp.upd]
theorem Hp.upd_ne {M : Hp} {b k : Nat} {e : Ent} (h : k ≠ b) : M.upd b e k = M k := by simp [Hp.upd, h]
theorem Hp.upd_comm {M : Hp} {a b : Nat} {x y : Ent} (h : a ≠ b) : (M.upd a x).upd b y = (M.upd b y).upd a x := by
  funext k; simp only [Hp.upd]; split <;> split <;> simp_all
theorem Hp.upd_upd {M : Hp} {a : Nat} {x y : Ent} : (M.upd a x).upd a y = M.upd a y := by
  funext k; simp only [Hp.upd]; split <;> simp_all

/-- What the world bears of what is known: blocks that stay as they are (F), blocks of the call's own (M). -/
structure Rel (F : Fz) (M : Hp) (w : World) : Prop where
  fz : ∀ b c, F b = some c → ∃ cur e fr, w.heap[b]? = some (.cells cur e fr) ∧ c <+: cur.toList
  mu : ∀ b n, M b = some n → ∃ cur, w.heap[b]? = some (.cells cur n.elem (0, 0)) ∧ n.cells <+: cur.toList ∧ cur.size = n.size
  ap : ∀ b, M b ≠ none → F b = none

/-- What a piece of a run keeps: the outside, and every block that is none of its own. -/
structure Fr (F : Fz) (M : Hp) (w : World) (F' : Fz) (M' : Hp) (w' : World) : Prop where
  os : w'.os = w.os
  tape : w'.tape = w.tape
  output : w'.output = w.output
  size : w.heap.size ≤ w'.heap.size
  block : ∀ b, b < w.heap.size → M b = none → w'.heap[b]? = w.heap[b]? ∧ M' b = none ∧ (F b = none → F' b = none)

theorem Fr.refl (F : Fz) (M : Hp) (w : World) : Fr F M w F M w := ⟨rfl, rfl, rfl, Nat.le_refl _, fun _ _ h => ⟨rfl, h, id⟩⟩
theorem Fr.trans {F F1 F2 : Fz} {M M1 M2 : Hp} {w w1 w2 : World} (h : Fr F M w F1 M1 w1) (k : Fr F1 M1 w1 F2 M2 w2) : Fr F M w F2 M2 w2 :=
  ⟨k.os.trans h.os, k.tape.trans h.tape, k.output.trans h.output, Nat.le_trans h.size k.size, fun b hb hm => by
    obtain ⟨e1, m1, f1⟩ := h.block b hb hm
    obtain ⟨e2, m2, f2⟩ := k.block b (Nat.lt_of_lt_of_le hb h.size) m1
    exact ⟨e2.trans e1, m2, fun hf => f2 (f1 hf)⟩⟩

/-- The heap, the streams and the tape are what a knowledge hangs on, not the count of draws. -/
structure Like (w w' : World) : Prop where
  heap : w'.heap = w.heap
  os : w'.os = w.os
  tape : w'.tape = w.tape
  output : w'.output = w.output
theorem Rel.like {F : Fz} {M : Hp} {w w' : World} (h : Rel F M w) (l : Like w w') : Rel F M w' :=
  ⟨fun b c hb => by rw [l.heap]; exact h.fz b c hb, fun b n hb => by rw [l.heap]; exact h.mu b n hb, h.ap⟩
theorem Fr.like {F : Fz} {M : Hp} {w w' : World} (l : Like w w') : Fr F M w F M w' :=
  ⟨l.os, l.tape, l.output, by rw [l.heap]; exact Nat.le_refl _, fun b _ h => ⟨by rw [l.heap], h, id⟩⟩

/-- More is known: what was known is known still (a block may have grown). -/
structure Le (F : Fz) (M : Hp) (F' : Fz) (M' : Hp) : Prop where
  fz : ∀ b c, F b = some c → F' b = some c
  mu : ∀ b e, M b = some e → ∃ e', M' b = some e' ∧ e.cells <+: e'.cells
  ap : ∀ b, F b ≠ none → M b = none → M' b = none
theorem Le.refl (F : Fz) (M : Hp) : Le F M F M := ⟨fun _ _ h => h, fun _ e h => ⟨e, h, List.prefix_refl _⟩, fun _ _ h => h⟩
theorem Le.trans {F F1 F2 : Fz} {M M1 M2 : Hp} (h : Le F M F1 M1) (k : Le F1 M1 F2 M2) : Le F M F2 M2 :=
  ⟨fun b c hb => k.fz b c (h.fz b c hb), fun b e hb => by
    obtain ⟨e1, h1, p1⟩ := h.mu b e hb
    obtain ⟨e2, h2, p2⟩ := k.mu b e1 h1
    exact ⟨e2, h2, p1.trans p2⟩, fun b h1 h2 => k.ap b (fun e => by
      cases hf : F b with
      | none => exact h1 hf
      | some c => have := h.fz b c hf; simp [this] at e) (h.ap b h1 h2)⟩
theorem Le.upd {F : Fz} {M : Hp} {r : Nat} {e : Ent} (hF : F r = none) (h : M r = none) : Le F M F (M.upd r e) :=
  ⟨fun _ _ h => h, fun b x hb => ⟨x, by rw [Hp.upd_ne]; exact hb; rintro rfl; simp [h] at hb, List.prefix_refl _⟩,
    fun b h1 h2 => by rw [Hp.upd_ne]; exact h2; rintro rfl; exact h1 hF⟩
theorem Le.grow {F : Fz} {M : Hp} {r : Nat} {e e' : Ent} (h : M r = some e) (hp : e.cells <+: e'.cells) : Le F M F (M.upd r e') :=
  ⟨fun _ _ h => h, fun b x hb => by
    by_cases hbr : b = r
    · subst hbr; rw [h] at hb; cases hb; exact ⟨e', by simp, hp⟩
    · exact ⟨x, by rw [Hp.upd_ne hbr]; exact hb, List.prefix_refl _⟩,
    fun b h1 h2 => by rw [Hp.upd_ne]; exact h2; rintro rfl; simp [h] at h2⟩

/-- The cells of a block, as far as known. -/
def blk (F : Fz) (M : Hp) (b : Nat) : Option (List Value) := match M b with | some e => some e.cells | none => F b

theorem Rel.of_blk {F : Fz} {M : Hp} {w : World} (h : Rel F M w) {b : Nat} {c : List Value} (hb : blk F M b = some c) :
    ∃ cur e fr, w.heap[b]? = some (.cells cur e fr) ∧ c <+: cur.toList := by
  unfold blk at hb
  split at hb
  · rename_i e he
    obtain ⟨cur, h1, h2, _⟩ := h.mu b e he
    cases hb
    exact ⟨cur, _, _, h1, h2⟩
  · exact h.fz b c hb

theorem blk_le {F F' : Fz} {M M' : Hp} (hl : Le F M F' M') {b : Nat} {c : List Value} (hb : blk F M b = some c) :
    ∃ c', blk F' M' b = some c' ∧ c <+: c' := by
  unfold blk at hb
  split at hb
  · rename_i e he
    obtain ⟨e', h1, h2⟩ := hl.mu b e he
    cases hb
    exact ⟨e'.cells, by simp [blk, h1], h2⟩
  · rename_i hm
    exact ⟨c, by simp [blk, hl.ap b (by simp [hb]) hm, hl.fz b c hb], List.prefix_refl _⟩

theorem Rel.lt {F : Fz} {M : Hp} {w : World} (h : Rel F M w) {b : Nat} {c : List Value} (hb : blk F M b = some c) : b < w.heap.size := by
  obtain ⟨cur, e, fr, h1, _⟩ := h.of_blk hb
  exact (Array.getElem?_eq_some_iff.1 h1).1

theorem Rel.cell {F : Fz} {M : Hp} {w : World} (h : Rel F M w) {b i : Nat} {c : List Value} {v : Value} (hb : blk F M b = some c) (hi : c[i]? = some v) :
    w.cell? ⟨b, i, none⟩ = some v := by
  obtain ⟨cur, e, fr, h1, t, ht⟩ := h.of_blk hb
  have hlt : i < c.length := (List.getElem?_eq_some_iff.1 hi).1
  simp only [World.cell?, h1]
  simp only [Option.isSome_none, Bool.false_eq_true, if_false]
  rw [← Array.getElem?_toList, ← ht, List.getElem?_append_left hlt]
  exact hi

/-- A block that is not there is unknown. -/
theorem Rel.fresh {F : Fz} {M : Hp} {w : World} (h : Rel F M w) {b : Nat} (hb : w.heap.size ≤ b) : F b = none ∧ M b = none := by
  constructor
  · cases hf : F b with
    | none => rfl
    | some c => obtain ⟨cur, e, fr, h1, _⟩ := h.fz b c hf; have := (Array.getElem?_eq_some_iff.1 h1).1; omega
  · cases hf : M b with
    | none => rfl
    | some n => obtain ⟨cur, h1, _⟩ := h.mu b n hf; have := (Array.getElem?_eq_some_iff.1 h1).1; omega

/-- A new block. -/
theorem Rel.alloc {F : Fz} {M : Hp} {w : World} (h : Rel F M w) (c : List Value) (t : TypeId) :
    Rel F (M.upd w.heap.size ⟨c, t, c.length⟩) (w.alloc (.cells c.toArray t)) := by
  have old : ∀ b, b < w.heap.size → (w.alloc (.cells c.toArray t)).heap[b]? = w.heap[b]? := fun b hb => RowKit.Below.heap_alloc _ _ _ hb
  refine ⟨fun b x hb => ?_, fun b n hb => ?_, fun b hb => ?_⟩
  · obtain ⟨cur, e, fr, h1, h2⟩ := h.fz b x hb
    exact ⟨cur, e, fr, by rw [old b (Array.getElem?_eq_some_iff.1 h1).1]; exact h1, h2⟩
  · by_cases hbs : b = w.heap.size
    · subst hbs
      simp only [Hp.upd_same, Option.some.injEq] at hb
      subst hb
      exact ⟨c.toArray, heap_alloc_new w _, by simp, by simp⟩
    · rw [Hp.upd_ne hbs] at hb
      obtain ⟨cur, h1, h2, h3⟩ := h.mu b n hb
      exact ⟨cur, by rw [old b (Array.getElem?_eq_some_iff.1 h1).1]; exact h1, h2, h3⟩
  · by_cases hbs : b = w.heap.size
    · subst hbs; exact (h.fresh (Nat.le_refl _)).1
    · rw [Hp.upd_ne hbs] at hb; exact h.ap b hb

theorem Fr.alloc {F : Fz} {M : Hp} {w : World} (e : Ent) (o : Obj) : Fr F M w F (M.upd w.heap.size e) (w.alloc o) :=
  ⟨rfl, rfl, rfl, by simp, fun b hb hm => ⟨RowKit.Below.heap_alloc _ _ _ hb, by rw [Hp.upd_ne (Nat.ne_of_lt hb)]; exact hm, id⟩⟩

/-- A contract. R: what came back, what is known then. -/
def Enters (P : Program) (f : FuncId) : Prop := ∃ fn, P.funcs[f]? = some fn ∧ (fn.name == "runtime.NumGoroutine") = false ∧ fn.body.isNone = false

def CallsA (P : Program) (f : FuncId) (args : List Value) (F : Fz) (M : Hp) (R : Value → Fz → Hp → Prop) : Prop :=
  Enters P f ∧ ∀ w, Rel F M w → Calls P f args.toArray w fun e w' => ∃ v F' M', e = .returned v ∧ Rel F' M' w' ∧ Fr F M w F' M' w' ∧ R v F' M'

theorem CallsA.mono {P : Program} {f : FuncId} {args : List Value} {F : Fz} {M : Hp} {R R' : Value → Fz → Hp → Prop} (h : CallsA P f args F M R)
    (hr : ∀ v F' M', R v F' M' → R' v F' M') : CallsA P f args F M R' :=
  ⟨h.1, fun w hw => (h.2 w hw).mono fun _ _ ⟨v, F', M', he, h1, h2, h3⟩ => ⟨v, F', M', he, h1, h2, hr _ _ _ h3⟩⟩

theorem CallsA.mono_rel {P : Program} {f : FuncId} {args : List Value} {F : Fz} {M : Hp} {R R' : Value → Fz → Hp → Prop} (h : CallsA P f args F M R)
    (hr : ∀ v F' M', (∃ w, Rel F' M' w) → R v F' M' → R' v F' M') : CallsA P f args F M R' :=
  ⟨h.1, fun w hw => (h.2 w hw).mono fun _ w' ⟨v, F', M', he, h1, h2, h3⟩ => ⟨v, F', M', he, h1, h2, hr _ _ _ ⟨w', h1⟩ h3⟩⟩

/-- There is always a further block's number. -/
def Inf (F : Fz) (M : Hp) : Prop := ∀ B, ∃ r, B ≤ r ∧ F r = none ∧ M r = none
theorem Rel.inf {F : Fz} {M : Hp} {w : World} (h : Rel F M w) : Inf F M := fun B =>
  ⟨max B w.heap.size, Nat.le_max_left _ _, h.fresh (Nat.le_max_right _ _)⟩
theorem Inf.upd {F : Fz} {M : Hp} (h : Inf F M) (b : Nat) (e : Ent) : Inf F (M.upd b e) := fun B => by
  obtain ⟨r, h1, h2, h3⟩ := h (max B (b + 1))
  exact ⟨r, by omega, h2, by rw [Hp.upd_ne (by omega)]; exact h3⟩

/-- The frame: a further block of the caller's own, of which the callee knows nothing, stays. -/
theorem CallsA.frame {P : Program} {f : FuncId} {args : List Value} {F : Fz} {M : Hp} {R : Value → Fz → Hp → Prop} (h : CallsA P f args F M R)
    {r : Nat} {e : Ent} (hF : F r = none) (hM : M r = none) :
    CallsA P f args F (M.upd r e) (fun v F' M'' => ∃ M', M'' = M'.upd r e ∧ F' r = none ∧ M' r = none ∧ R v F' M') := by
  refine ⟨h.1, fun w hw => ?_⟩
  obtain ⟨cur, hc, hp, hs⟩ := hw.mu r e (Hp.upd_same _ _ _)
  have hlt := (Array.getElem?_eq_some_iff.1 hc).1
  have hw' : Rel F M w := ⟨hw.fz, fun b n hb => hw.mu b n (by rw [Hp.upd_ne]; exact hb; rintro rfl; simp [hM] at hb),
    fun b hb => hw.ap b (by rw [Hp.upd_ne]; exact hb; rintro rfl; exact hb hM)⟩
  refine (h.2 w hw').mono ?_
  rintro en w' ⟨v, F', M', rfl, h1, h2, h3⟩
  obtain ⟨b1, b2, b3⟩ := h2.block r hlt hM
  refine ⟨v, F', M'.upd r e, rfl, ⟨h1.fz, fun b n hb => ?_, fun b hb => ?_⟩, ⟨h2.os, h2.tape, h2.output, h2.size, fun b hb hm => ?_⟩, M', rfl, b3 hF, b2, h3⟩
  · by_cases hbr : b = r
    · subst hbr
      simp only [Hp.upd_same, Option.some.injEq] at hb
      subst hb
      exact ⟨cur, by rw [b1]; exact hc, hp, hs⟩
    · rw [Hp.upd_ne hbr] at hb; exact h1.mu b n hb
  · by_cases hbr : b = r
    · subst hbr; exact b3 hF
    · rw [Hp.upd_ne hbr] at hb; exact h1.ap b hb
  · by_cases hbr : b = r
    · subst hbr; simp at hm
    · rw [Hp.upd_ne hbr] at hm ⊢; exact h2.block b hb hm

/-- Less is told: knowledge is dropped, or a block of one's own is said to stay as it is from now on. -/
structure Wk (F : Fz) (M : Hp) (F' : Fz) (M' : Hp) : Prop where
  rel : ∀ w, Rel F M w → Rel F' M' w
  domF : ∀ b, F b = none → M b = none → F' b = none
  domM : ∀ b, M b = none → M' b = none
theorem Wk.refl (F : Fz) (M : Hp) : Wk F M F M := ⟨fun _ h => h, fun _ h _ => h, fun _ h => h⟩
theorem Wk.trans {F F1 F2 : Fz} {M M1 M2 : Hp} (h : Wk F M F1 M1) (k : Wk F1 M1 F2 M2) : Wk F M F2 M2 :=
  ⟨fun w hw => k.rel w (h.rel w hw), fun b h1 h2 => k.domF b (h.domF b h1 h2) (h.domM b h2), fun b h1 => k.domM b (h.domM b h1)⟩
theorem Wk.drop {F : Fz} {M : Hp} {r : Nat} {e : Ent} (h : M r = none) : Wk F (M.upd r e) F M := by
  refine ⟨fun w hw => ⟨hw.fz, fun b n hb => hw.mu b n ?_, fun b hb => hw.ap b ?_⟩, fun _ h _ => h, fun b hb => ?_⟩
  · rw [Hp.upd_ne]; exact hb; rintro rfl; simp [h] at hb
  · rw [Hp.upd_ne]; exact hb; rintro rfl; exact hb h
  · by_cases hbr : b = r
    · subst hbr; exact h
    · rw [Hp.upd_ne hbr] at hb; exact hb
theorem Wk.freeze {F : Fz} {M : Hp} {r : Nat} {e : Ent} (h : M r = none) : Wk F (M.upd r e) (F.upd r e.cells) M := by
  refine ⟨fun w hw => ⟨fun b c hb => ?_, fun b n hb => hw.mu b n ?_, fun b hb => ?_⟩, fun b h1 h2 => ?_, fun b hb => ?_⟩
  · by_cases hbr : b = r
    · subst hbr
      simp only [Fz.upd, if_true, Option.some.injEq] at hb
      subst hb
      obtain ⟨cur, h1, h2, _⟩ := hw.mu b e (Hp.upd_same _ _ _)
      exact ⟨cur, _, _, h1, h2⟩
    · simp only [Fz.upd, hbr, if_false] at hb; exact hw.fz b c hb
  · rw [Hp.upd_ne]; exact hb; rintro rfl; simp [h] at hb
  · have hbr : b ≠ r := by rintro rfl; exact hb h
    simp only [Fz.upd, hbr, if_false]
    exact hw.ap b (by rw [Hp.upd_ne hbr]; exact hb)
  · have hbr : b ≠ r := by rintro rfl; simp at h2
    simp only [Fz.upd, hbr, if_false]; exact h1
  · by_cases hbr : b = r
    · subst hbr; exact h
    · rw [Hp.upd_ne hbr] at hb; exact hb

/-- A run may be ended by telling less. -/
theorem CallsA.wk {P : Program} {f : FuncId} {args : List Value} {F : Fz} {M : Hp} {R : Value → Fz → Hp → Prop}
    (h : CallsA P f args F M fun v F1 M1 => ∃ F2 M2, Wk F1 M1 F2 M2 ∧ R v F2 M2) : CallsA P f args F M R :=
  ⟨h.1, fun w hw => (h.2 w hw).mono fun _ w' ⟨v, F1, M1, he, h1, h2, F2, M2, h3, h4⟩ =>
    ⟨v, F2, M2, he, h3.rel _ h1, ⟨h2.os, h2.tape, h2.output, h2.size, fun b hb hm => by
      obtain ⟨x, y, z⟩ := h2.block b hb hm
      exact ⟨x, h3.domM b y, fun hf => h3.domF b (z hf) y⟩⟩, h4⟩⟩

end Go.Ax

/- The small code's operations that only compute or read: their values, and that the machine tells the same. -/
namespace Go.Ax
open Go
set_option linter.unusedSimpArgs false

abbrev Env := List (Nat × Value)
def look : Env → Nat → Option Value
  | [], _ => none
  | (k, v) :: l, t => if k = t then some v else look l t

def ev (σ : Env) : Operand → Option Value
  | .tmp t => look σ t
  | .const v => some v
  | .func f => some (.func (.func f) #[] #[])
  | .global g => some (.pointer (some ⟨g, 0, none⟩))
def evs (σ : Env) : List Operand → Option (List Value)
  | [] => some []
  | x :: l => (ev σ x).bind fun v => (evs σ l).bind fun vs => some (v :: vs)

/-- What is known of a frame. -/
structure Agree (n : Nat) (σ : Env) (a : Act) : Prop where
  size : a.tmps.size = n
  defers : a.defers = []
  get : ∀ t v, look σ t = some v → a.tmps[t]? = some v

theorem Agree.ev {n : Nat} {σ : Env} {a : Act} (h : Agree n σ a) {x : Operand} {v : Value} (hv : ev σ x = some v) : a.eval x = v := by
  cases x with
  | tmp t => simp [Act.eval, h.get t v hv]
  | const c => simpa [Ax.ev, Act.eval] using hv
  | func f => simpa [Ax.ev, Act.eval] using hv
  | global g => simpa [Ax.ev, Act.eval] using hv
theorem Agree.evs {n : Nat} {σ : Env} {a : Act} (h : Agree n σ a) : ∀ {l : List Operand} {vs : List Value}, evs σ l = some vs → l.map a.eval = vs := by
  intro l
  induction l with
  | nil => intro vs hv; simpa [Ax.evs] using hv
  | cons x l ih =>
    intro vs hv
    simp only [Ax.evs] at hv
    cases hx : Ax.ev σ x with
    | none => simp [hx] at hv
    | some u =>
      cases hl : Ax.evs σ l with
      | none => simp [hx, hl] at hv
      | some us =>
        simp [hx, hl] at hv
        subst hv
        simp [h.ev hx, ih hl]

def put (σ : Env) (d : Option Nat) (v : Value) : Env := match d with | some t => (t, v) :: σ | none => σ
theorem Agree.put {n : Nat} {σ : Env} {a : Act} (h : Agree n σ a) {d : Option Nat} {v : Value} (hd : ∀ t, d = some t → t < n) : Agree n (put σ d v) (a.put d v) := by
  cases d with
  | none => exact h
  | some t =>
    refine ⟨by simp [Act.put, h.size], by simp [Act.put, h.defers], fun k u hk => ?_⟩
    simp only [Ax.put, look] at hk
    by_cases htk : t = k
    · subst htk
      simp at hk
      subst hk
      have := hd t rfl
      simp [Act.put, h.size, this]
    · simp [htk] at hk
      simp [Act.put, Array.getElem?_setIfInBounds_ne htk, h.get k u hk]

/-- Whole numbers, bit by bit. -/
def band (k : IntKind) (a b : Int) : Int := k.wrap (BitVec.ofInt k.bits a &&& BitVec.ofInt k.bits b).toNat
def bor (k : IntKind) (a b : Int) : Int := k.wrap (BitVec.ofInt k.bits a ||| BitVec.ofInt k.bits b).toNat
def bxor (k : IntKind) (a b : Int) : Int := k.wrap (BitVec.ofInt k.bits a ^^^ BitVec.ofInt k.bits b).toNat
def bclr (k : IntKind) (a b : Int) : Int := k.wrap (BitVec.ofInt k.bits a &&& ~~~BitVec.ofInt k.bits b).toNat
def shlv (k : IntKind) (a b : Int) : Int := k.wrap (a * 2 ^ (min b.toNat k.bits))
def shrv (k : IntKind) (a b : Int) : Int := a.fdiv (2 ^ (min b.toNat k.bits))

def binV (o : BinOp) (x y : Value) : Option Value :=
  match x, y with
  | .int k a, .int j b =>
    match o with
    | .shl => if b < 0 then none else some (.int k (shlv k a b))
    | .shr => if b < 0 then none else some (.int k (shrv k a b))
    | .add => if k = j then some (.int k (k.wrap (a + b))) else none
    | .sub => if k = j then some (.int k (k.wrap (a - b))) else none
    | .mul => if k = j then some (.int k (k.wrap (a * b))) else none
    | .quo => if k = j ∧ ¬ b = 0 then some (.int k (k.wrap (a.tdiv b))) else none
    | .rem => if k = j ∧ ¬ b = 0 then some (.int k (a.tmod b)) else none
    | .and => if k = j then some (.int k (band k a b)) else none
    | .or => if k = j then some (.int k (bor k a b)) else none
    | .xor => if k = j then some (.int k (bxor k a b)) else none
    | .andNot => if k = j then some (.int k (bclr k a b)) else none
    | .eql => if k = j then some (.bool (decide (a = b))) else none
    | .neq => if k = j then some (.bool (!decide (a = b))) else none
    | .lss => if k = j then some (.bool (decide (a < b))) else none
    | .leq => if k = j then some (.bool (decide (a ≤ b))) else none
    | .gtr => if k = j then some (.bool (decide (b < a))) else none
    | .geq => if k = j then some (.bool (decide (b ≤ a))) else none
  | _, _ => none

theorem run_binV {P : Program} {w : World} {o : BinOp} {t : TypeId} {x y : Operand} {u v r : Value} (h : binV o u v = some r) :
    ((do eqGuard o t x y u v; binOp o t u v) : Sem Value).run P w = .ok r w := by
  unfold binV at h
  split at h
  · rename_i k a j b
    have e : ∀ (q q' : Operand), eqGuard BinOp.shl t q q' (.int k a) (.int j b) = pure () := fun _ _ => rfl
    have e' : ∀ (q q' : Operand), eqGuard BinOp.shr t q q' (.int k a) (.int j b) = pure () := fun _ _ => rfl
    by_cases hkj : k = j
    · subst hkj
      cases o <;> simp only [if_true, true_and, Option.some.injEq, Option.ite_none_left_eq_some, Option.ite_none_right_eq_some] at h
      case shl => obtain ⟨h0, rfl⟩ := h; simp [go_sem, Op.shift, shlv, e]; omega
      case shr => obtain ⟨h0, rfl⟩ := h; simp [go_sem, Op.shift, shrv, e']; omega
      case quo => obtain ⟨h0, rfl⟩ := h; simp [go_sem, h0]
      case rem => obtain ⟨h0, rfl⟩ := h; simp [go_sem, h0]
      case eql => subst h; by_cases hab : a = b <;> simp [go_sem, hab]
      case neq => subst h; by_cases hab : a = b <;> simp [go_sem, hab]
      all_goals (subst h; simp [go_sem, Op.intBits, band, bor, bxor, bclr])
    · cases o <;> simp only [hkj, if_false, false_and, reduceCtorEq, Option.ite_none_left_eq_some, Option.some.injEq] at h
      case shl => obtain ⟨h0, rfl⟩ := h; simp [e, binOp, Op.shift, shlv]; intro; omega
      case shr => obtain ⟨h0, rfl⟩ := h; simp [e', binOp, Op.shift, shrv]; intro; omega
  · simp at h

def unV (o : UnOp) (x : Value) : Option Value :=
  match x with
  | .int k a => match o with
    | .neg => some (.int k (k.wrap (0 - a)))
    | .xor => some (.int k (bxor k (if k.signed then -1 else k.max) a))
    | _ => none
  | .bool b => match o with
    | .not => some (.bool (!b))
    | _ => none
  | _ => none

theorem run_unV {P : Program} {w : World} {o : UnOp} {u r : Value} (h : unV o u = some r) : (Op.unary o u).run P w = .ok r w := by
  unfold unV at h
  split at h
  · cases o <;> simp at h <;> subst h <;> simp [Op.unary, Op.intArith, Op.intBits, bxor]
  · cases o <;> simp at h
    subst h
    simp [Op.unary]
  · simp at h

/-- A value read out of cells. -/
def rd (agg : Bool) (n : Nat) (c : List Value) (off : Nat) : Option Value :=
  match agg with
  | true => if off + n ≤ c.length then some (.agg ((c.drop off).take n).toArray) else none
  | false => c[off]?

theorem rd_prefix {agg : Bool} {n off : Nat} {c c' : List Value} {v : Value} (h : rd agg n c off = some v) (hp : c <+: c') : rd agg n c' off = some v := by
  obtain ⟨t, rfl⟩ := hp
  cases agg with
  | true =>
    simp only [rd] at h ⊢
    split at h
    · rename_i hl
      simp at h
      subst h
      rw [if_pos (by simp; omega)]
      simp only [Option.some.injEq, Value.agg.injEq]
      rw [List.drop_append_of_le_length (by omega), List.take_append_of_le_length (by simp; omega)]
    · simp at h
  | false =>
    simp only [rd] at h ⊢
    rw [List.getElem?_append_left (List.getElem?_eq_some_iff.1 h).1]
    exact h

/-- How a struct's values are held against each other: its parts, each with its place. -/
inductive EK where
  | i | b | st (fs : List (Bool × Nat × Nat × EK))

mutual
def eqV : EK → Value → Value → Option Bool
  | .i, .int k a, .int j b => if k = j then some (decide (a = b)) else none
  | .b, .bool a, .bool b => some (a == b)
  | .st fs, .agg xs, .agg ys => eqFs fs xs.toList ys.toList
  | _, _, _ => none
def eqFs : List (Bool × Nat × Nat × EK) → List Value → List Value → Option Bool
  | [], _, _ => some true
  | (agg, off, n, e) :: fs, xs, ys => match rd agg n xs off, rd agg n ys off with
    | some a, some b => match eqV e a b, eqFs fs xs ys with
      | some r, some s => some (r && s)
      | _, _ => none
    | _, _ => none
end

inductive PK where
  | eqs (e : EK) (neg : Bool) (x y : Operand)
  | mv (x : Operand)
  | pick (c a b : Operand)
  | bin (o : BinOp) (x y : Operand)
  | eqb (neg : Bool) (x y : Operand)
  | un (o : UnOp) (x : Operand)
  | cv (k : IntKind) (x : Operand)
  | fa (off : Nat) (x : Operand)
  | ia (es : Nat) (x i : Operand)
  | iaa (len es : Nat) (x i : Operand)
  | fd (agg : Bool) (off n : Nat) (x : Operand)
  | ix (agg : Bool) (len es : Nat) (x i : Operand)
  | ld (agg : Bool) (n : Nat) (x : Operand)
  | bd (zero : List Value) (parts : List (Nat × Nat × Operand))
  | ex (x : Operand) (i : Nat)
  | mf (fn : Fn) (first captured : List Operand)
  | sl (es : Nat) (x : Operand) (lo hi : Option Operand)
  | ln (x : Operand)
  | ls (x : Operand)
  | mx (xs : List Operand)
  | mn (xs : List Operand)
  | nc (x : Operand)
  | sn (neg : Bool) (x : Operand)
  | si (x i : Operand)

def fillV : List Value → List (Nat × Nat × Value) → Option (List Value)
  | cs, [] => some cs
  | cs, (off, n, v) :: rest =>
    if v.cells.size = n ∧ off + n ≤ cs.length then fillV (cs.take off ++ v.cells.toList ++ cs.drop (off + n)) rest else none

def evParts (σ : Env) : List (Nat × Nat × Operand) → Option (List (Nat × Nat × Value))
  | [] => some []
  | (o, n, x) :: l => (ev σ x).bind fun v => (evParts σ l).bind fun vs => some ((o, n, v) :: vs)

def maxV : Int → List Value → Option Int
  | a, [] => some a
  | a, .int .i64 b :: l => maxV (if b > a then b else a) l
  | _, _ => none
def minV : Int → List Value → Option Int
  | a, [] => some a
  | a, .int .i64 b :: l => minV (if b < a then b else a) l
  | _, _ => none

def fnV : Option (List Value) → Fn → Option (List Value) → Option Value
  | some f, fn, some c => some (.func fn f.toArray c.toArray)
  | _, _, _ => none

def PK.val (σ : Env) (F : Fz) (M : Hp) : PK → Option Value
  | .mv x => ev σ x
  | .pick c a b => match ev σ c with
    | some (.bool t) => if t = true then ev σ a else ev σ b
    | _ => none
  | .bin o x y => (ev σ x).bind fun u => (ev σ y).bind fun v => binV o u v
  | .eqb neg x y => match ev σ x, ev σ y with
    | some (.bool a), some (.bool b) => some (.bool (xor neg (a == b)))
    | _, _ => none
  | .eqs e neg x y => match ev σ x, ev σ y with
    | some a, some b => (eqV e a b).map fun r => .bool (xor neg r)
    | _, _ => none
  | .un o x => (ev σ x).bind fun u => unV o u
  | .cv k x => match ev σ x with
    | some (.int _ n) => some (.int k (k.wrap n))
    | _ => none
  | .fa off x => match ev σ x with
    | some (.pointer (some ⟨b, o, none⟩)) => some (.pointer (some ⟨b, o + off, none⟩))
    | _ => none
  | .ia es x i => match ev σ x, ev σ i with
    | some (.slice (some ⟨b, o, none⟩) len _), some (.int _ n) => if 0 ≤ n ∧ n < len then some (.pointer (some ⟨b, o + n.toNat * es, none⟩)) else none
    | _, _ => none
  | .iaa len es x i => match ev σ x, ev σ i with
    | some (.pointer (some ⟨b, o, none⟩)), some (.int _ n) => if 0 ≤ n ∧ n < len then some (.pointer (some ⟨b, o + n.toNat * es, none⟩)) else none
    | _, _ => none
  | .fd agg off n x => match ev σ x with
    | some (.agg cs) => rd agg n cs.toList off
    | _ => none
  | .ix agg len es x i => match ev σ x, ev σ i with
    | some (.agg cs), some (.int _ n) => if 0 ≤ n ∧ n < len then rd agg es cs.toList (n.toNat * es) else none
    | _, _ => none
  | .ld agg n x => match ev σ x with
    | some (.pointer (some ⟨b, o, none⟩)) => (blk F M b).bind fun c => rd agg n c o
    | _ => none
  | .bd zero parts => (evParts σ parts).bind fun ps => (fillV zero ps).map fun cs => .agg cs.toArray
  | .ex x i => match ev σ x with
    | some (.tuple vs) => vs[i]?
    | _ => none
  | .mf fn f c => fnV (evs σ f) fn (evs σ c)
  | .sl es x lo hi => match ev σ x, lo.map (ev σ), hi.map (ev σ) with
    | some (.slice a len cap), none, none => some (.slice a len cap)
    | some (.slice a len cap), some (some (.int _ l)), none =>
      if 0 ≤ l ∧ l ≤ len then some (.slice (if (cap : Int) = l then a else a.map (·.add (l.toNat * es))) (len - l.toNat) (cap - l.toNat)) else none
    | some (.slice a len cap), none, some (some (.int _ h)) => if 0 ≤ h ∧ h ≤ len ∧ len ≤ cap then some (.slice a h.toNat cap) else none
    | some (.slice a len cap), some (some (.int _ l)), some (some (.int _ h)) =>
      if 0 ≤ l ∧ l ≤ h ∧ h ≤ len ∧ len ≤ cap then some (.slice (if (cap : Int) = l then a else a.map (·.add (l.toNat * es))) (h.toNat - l.toNat) (cap - l.toNat)) else none
    | _, _, _ => none
  | .ln x => match ev σ x with
    | some (.slice _ n _) => some (.int .i64 n)
    | _ => none
  | .ls x => match ev σ x with
    | some (.string z) => some (.int .i64 z.size)
    | _ => none
  | .mx xs => (evs σ xs).bind fun
    | .int .i64 a :: l => (maxV a l).map (.int .i64)
    | _ => none
  | .mn xs => (evs σ xs).bind fun
    | .int .i64 a :: l => (minV a l).map (.int .i64)
    | _ => none
  | .nc x => match ev σ x with
    | some (.pointer (some a)) => some (.pointer (some a))
    | _ => none
  | .sn neg x => match ev σ x with
    | some (.slice a _ _) => some (.bool (xor neg a.isNone))
    | _ => none
  | .si x i => match ev σ x, ev σ i with
    | some (.string z), some (.int _ n) => if 0 ≤ n then (z[n.toNat]?).map fun b => .int .u8 b.toNat else none
    | _, _ => none

end Go.Ax

/- From the machine's operations to the small ones, with types looked up; and that what is told is what the machine does. -/
namespace Go.Ax
open Go
set_option linter.unusedSimpArgs false

def aggT (P : Program) (t : TypeId) : Option Bool :=
  match P.underlying t with
  | some (.struct _) | some (.array _ _) => some true
  | some _ => some false
  | none => none
def sizeT (P : Program) (t : TypeId) : Option Nat := (P.info? t).map (·.size)
def zeroT (P : Program) (t : TypeId) : Option (List Value) := ((P.info? t).bind (·.zero)).map (·.cells.toList)
def elemT (P : Program) (t : TypeId) : Option TypeId := match P.underlying t with | some (.slice e) => some e | _ => none
def arrT (P : Program) (t : TypeId) : Option (Nat × TypeId) := match P.underlying t with | some (.array n e) => some (n, e) | _ => none
def fieldT (P : Program) (t : TypeId) (i : Nat) : Option Field := match P.underlying t with | some (.struct fs) => fs[i]? | _ => none

theorem run_isAgg {P : Program} {t : TypeId} {b : Bool} (h : aggT P t = some b) (w : World) : (isAgg t).run P w = .ok b w := by
  unfold aggT at h
  cases hd : P.underlying t with
  | none => simp [hd] at h
  | some d => cases d <;> simp [hd] at h <;> subst h <;> simp [isAgg, run_underlying hd]
theorem run_sizeOf {P : Program} {t : TypeId} {n : Nat} (h : sizeT P t = some n) (w : World) : (sizeOf t).run P w = .ok n w := by
  unfold sizeT at h
  cases hi : P.info? t with
  | none => simp [hi] at h
  | some i => simp [hi] at h; subst h; simp [sizeOf, typeInfo, hi]
theorem run_zeroValue {P : Program} {t : TypeId} {z : List Value} (h : zeroT P t = some z) (w : World) : ∃ v, (zeroValue t).run P w = .ok v w ∧ v.cells.toList = z := by
  unfold zeroT at h
  cases hi : P.info? t with
  | none => simp [hi] at h
  | some i =>
    cases hz : i.zero with
    | none => simp [hi, hz] at h
    | some v => simp [hi, hz] at h; exact ⟨v, by simp [zeroValue, typeInfo, hi, hz], h⟩

theorem run_part {P : Program} {t : TypeId} {b : Bool} {n off : Nat} {cs : Array Value} {v : Value} (hb : aggT P t = some b) (hn : sizeT P t = some n)
    (h : rd b n cs.toList off = some v) (w : World) : (part t cs off).run P w = .ok v w := by
  cases b with
  | true =>
    simp only [rd] at h
    split at h
    · simp at h
      subst h
      simp only [part, Sem.run_bind, run_isAgg hb, Result.andThen_ok, if_true, run_sizeOf hn, Sem.run_pure]
      congr 2
      apply Array.ext'
      simp [List.drop_take]
    · simp at h
  | false =>
    simp only [rd] at h
    have h' : cs[off]? = some v := by simpa using h
    simp [part, run_isAgg hb, h']

theorem run_loadVar {P : Program} {t : TypeId} {b : Bool} {n : Nat} {F : Fz} {M : Hp} {w : World} (hr : Rel F M w) {g o : Nat} {c : List Value} {v : Value}
    (hb : aggT P t = some b) (hn : sizeT P t = some n) (hc : blk F M g = some c) (h : rd b n c o = some v) : (loadVar t ⟨g, o, none⟩).run P w = .ok v w := by
  cases b with
  | true =>
    simp only [rd] at h
    split at h
    · rename_i hl
      simp at h
      subst h
      have hlen : ((c.drop o).take n).length = n := by simp; omega
      have := run_loadCells_list (P := P) w ⟨g, o, none⟩ ((c.drop o).take n) (fun j u hj => by
        rw [Addr.add_lit]
        refine hr.cell hc ?_
        rw [List.getElem?_take] at hj
        split at hj
        · rw [List.getElem?_drop] at hj; exact hj
        · simp at hj)
      rw [hlen] at this
      simp [loadVar, run_isAgg hb, run_sizeOf hn, this]
    · simp at h
  | false =>
    simp only [rd] at h
    simp [loadVar, run_isAgg hb, hr.cell hc h]

def fieldsT (P : Program) (fs : List Field) : Option (List (Nat × Nat)) := fs.mapM fun f => (P.info? f.type).map fun i => (f.offset, i.size)
def placesT (ls : List (Nat × Nat)) : List (Nat × Operand) → Option (List (Nat × Nat × Operand))
  | [] => some []
  | (i, x) :: l => match ls[i]? with
    | some (o, n) => (placesT ls l).map fun ps => (o, n, x) :: ps
    | none => none

/-- The shape of a type's values that can be held against each other leaf by leaf. -/
def eqTs (P : Program) (rec : TypeId → Option EK) : List Field → Option (List (Bool × Nat × Nat × EK))
  | [] => some []
  | f :: fs => if f.name = "_" then none else match aggT P f.type, sizeT P f.type, rec f.type, eqTs P rec fs with
    | some b, some n, some e, some es => some ((b, f.offset, n, e) :: es)
    | _, _, _, _ => none
def eqT (P : Program) : Nat → TypeId → Option EK
  | 0, _ => none
  | d + 1, t => match P.underlying t with
    | some (.int _) => some .i
    | some .bool => some .b
    | some (.struct fs) => if P.stoodInHeld t = true then none else (eqTs P (eqT P d) fs.toList).map .st
    | _ => none

def slimB (P : Program) : Callee → List Operand → List TypeId → Option PK
  | .builtin .len, [x], [t] => match P.underlying t with
    | some (.slice _) => some (.ln x)
    | some .string => some (.ls x)
    | _ => none
  | .builtin .max, xs, _ => some (.mx xs)
  | .builtin .min, xs, _ => some (.mn xs)
  | _, _, _ => none

def nilS : Operand → Bool
  | .const (.slice none 0 0) => true
  | _ => false
theorem nilS_spec {y : Operand} (h : nilS y = true) : y = .const (.slice none 0 0) := by
  unfold nilS at h
  split at h
  · rfl
  · cases h
/-- The small operation, if it is one that only computes or reads. -/
def slimP (P : Program) : Op → Option PK
  | .move x | .assign x => some (.mv x)
  | .pick c a b => some (.pick c a b)
  | .binOp o t x y _ => match P.underlying t with
    | some (.int _) => some (.bin o x y)
    | some .bool => match o with
      | .eql => some (.eqb false x y)
      | .neq => some (.eqb true x y)
      | _ => none
    | some (.slice _) => match o with
      | .eql => if nilS y = true then some (.sn false x) else none
      | .neq => if nilS y = true then some (.sn true x) else none
      | _ => none
    | some (.struct _) => if P.eqGuardType P.depth t = true then none else match o with
      | .eql => (eqT P 9 t).map fun e => .eqs e false x y
      | .neq => (eqT P 9 t).map fun e => .eqs e true x y
      | _ => none
    | _ => none
  | .unOp o _ x => some (.un o x)
  | .convert s d x => match P.underlying s, P.underlying d with
    | some (.int _), some (.int k) => some (.cv k x)
    | _, _ => none
  | .fieldAddr s x f => (fieldT P s f).bind fun fd => (sizeT P fd.type).bind fun n => if n = 0 then none else some (.fa fd.offset x)
  | .indexAddr t x i => match elemT P t with
    | some e => (sizeT P e).map fun es => .ia es x i
    | none => (arrT P t).bind fun ne => (sizeT P ne.2).map fun es => .iaa ne.1 es x i
  | .field t x f => (fieldT P t f).bind fun fd => (aggT P fd.type).bind fun b => (sizeT P fd.type).map fun n => .fd b fd.offset n x
  | .index t x i => match P.underlying t with
    | some .string => some (.si x i)
    | _ => (arrT P t).bind fun ne => (aggT P ne.2).bind fun b => (sizeT P ne.2).map fun es => .ix b ne.1 es x i
  | .load t a => (aggT P t).bind fun b => (sizeT P t).map fun n => .ld b n a
  | .build t parts => (zeroT P t).bind fun z => match P.underlying t with
    | some (.struct fs) => (fieldsT P fs.toList).bind fun ls => (placesT ls parts.toList).map fun ps => .bd z ps
    | some (.array _ e) => (sizeT P e).map fun n => .bd z (parts.toList.map fun (i, x) => (i * n, n, x))
    | _ => none
  | .extract x i => some (.ex x i)
  | .makeFunc fn f c => some (.mf fn f.toList c.toList)
  | .slice t x lo hi none => (elemT P t).bind fun e => (sizeT P e).map fun es => .sl es x lo hi
  | .nilCheck x => some (.nc x)
  | .call c => slimB P c.callee c.args.toList c.argTypes.toList
  | _ => none

theorem fillV_sound (place : Nat → Option (Nat × Nat)) : ∀ (l : List (Nat × Value)) (ps : List (Nat × Nat × Value)) (cs : Array Value) (r : List Value),
    l.length = ps.length → (∀ (j i : Nat) (v : Value), l[j]? = some (i, v) → ∃ o n, place i = some (o, n) ∧ ps[j]? = some (o, n, v)) → fillV cs.toList ps = some r →
    Instr.fill place cs l = some r.toArray := by
  intro l
  induction l with
  | nil =>
    intro ps cs r hl _ h
    cases ps with
    | nil => simp [fillV] at h; subst h; simp [Instr.fill]
    | cons p ps => simp at hl
  | cons x l ih =>
    intro ps cs r hl hp h
    cases ps with
    | nil => simp at hl
    | cons p ps =>
      obtain ⟨i, v⟩ := x
      obtain ⟨o, n, hpl, hpe⟩ := hp 0 i v (by simp)
      simp at hpe
      subst hpe
      simp only [fillV] at h
      split at h
      · rename_i hc
        obtain ⟨hv, hlen⟩ := hc
        have hb : (v.cells.size ≠ n || decide (o + v.cells.size > cs.size)) = false := by
          simp at hlen; simp [hv]; omega
        simp only [Instr.fill, hpl]
        rw [hb]
        simp only [Bool.false_eq_true, if_false]
        refine ih ps _ r (by simpa using hl) (fun j k u hj => hp (j + 1) k u (by simpa using hj)) ?_
        rw [← h]
        congr 1
        have key : ∀ (us : List Value) (m : Nat) (ds : Array Value), o + m + us.length ≤ ds.size →
            ((us.zipIdx m).foldl (fun cs (c, j) => cs.setIfInBounds (o + j) c) ds).toList = ds.toList.take (o + m) ++ us ++ ds.toList.drop (o + m + us.length) := by
          intro us
          induction us with
          | nil => intro m ds _; simp
          | cons u us ihu =>
            intro m ds hds
            simp only [List.length_cons] at hds
            simp only [List.zipIdx_cons, List.foldl_cons]
            rw [ihu (m + 1) _ (by simp; omega)]
            simp only [Array.toList_setIfInBounds, List.length_cons]
            have e1 : (ds.toList.set (o + m) u).take (o + (m + 1)) = ds.toList.take (o + m) ++ [u] := by
              rw [show o + (m + 1) = (o + m) + 1 by omega, List.take_add_one, List.getElem?_set_self (by simp; omega), List.take_set_of_le (by omega)]
              rfl
            have e2 : (ds.toList.set (o + m) u).drop (o + (m + 1) + us.length) = ds.toList.drop (o + m + (us.length + 1)) := by
              rw [List.drop_set_of_lt (by omega)]
              congr 1
              omega
            rw [e1, e2]
            simp
        have := key v.cells.toList 0 cs (by simp at hlen; simp [hv]; omega)
        simp only [Nat.add_zero, Array.length_toList, hv] at this
        rw [← Array.foldl_toList, Array.toList_zipIdx]
        exact this
      · simp at h

end Go.Ax

/- What a small operation that computes or reads tells is what the machine does. -/
namespace Go.Ax
open Go
set_option linter.unusedSimpArgs false

theorem placesT_get {ls : List (Nat × Nat)} : ∀ {l : List (Nat × Operand)} {ps : List (Nat × Nat × Operand)}, placesT ls l = some ps →
    ps.length = l.length ∧ ∀ (j i : Nat) (x : Operand), l[j]? = some (i, x) → ∃ o n, ls[i]? = some (o, n) ∧ ps[j]? = some (o, n, x) := by
  intro l
  induction l with
  | nil => intro ps h; simp [placesT] at h; subst h; simp
  | cons y l ih =>
    intro ps h
    obtain ⟨i, x⟩ := y
    simp only [placesT] at h
    cases hf : ls[i]? with
    | none => simp [hf] at h
    | some p =>
      obtain ⟨o, n⟩ := p
      cases hp : placesT ls l with
      | none => simp [hf, hp] at h
      | some qs =>
        simp [hf, hp] at h
        subst h
        obtain ⟨h1, h2⟩ := ih hp
        refine ⟨by simp [h1], fun j k u hj => ?_⟩
        cases j with
        | zero => simp at hj; obtain ⟨rfl, rfl⟩ := hj; exact ⟨o, n, hf, by simp⟩
        | succ j => simpa using h2 j k u (by simpa using hj)

theorem evParts_get {n : Nat} {σ : Env} {a : Act} (ha : Agree n σ a) : ∀ {l : List (Nat × Nat × Operand)} {ps : List (Nat × Nat × Value)}, evParts σ l = some ps →
    ps.length = l.length ∧ ∀ (j o m : Nat) (x : Operand), l[j]? = some (o, m, x) → ps[j]? = some (o, m, a.eval x) := by
  intro l
  induction l with
  | nil => intro ps h; simp [evParts] at h; subst h; simp
  | cons y l ih =>
    intro ps h
    obtain ⟨o, m, x⟩ := y
    simp only [evParts] at h
    cases hx : ev σ x with
    | none => simp [hx] at h
    | some v =>
      cases hp : evParts σ l with
      | none => simp [hx, hp] at h
      | some qs =>
        simp [hx, hp] at h
        subst h
        obtain ⟨h1, h2⟩ := ih hp
        refine ⟨by simp [h1], fun j o' m' u hj => ?_⟩
        cases j with
        | zero => simp at hj; obtain ⟨rfl, rfl, rfl⟩ := hj; simp [ha.ev hx]
        | succ j => simpa using h2 j o' m' u (by simpa using hj)

theorem maxV_fold {P : Program} {w : World} : ∀ {l : List Value} {a m : Int}, maxV a l = some m → (l.foldlM Builtin.max2 (.int .i64 a)).run P w = .ok (.int .i64 m) w := by
  intro l
  induction l with
  | nil => intro a m h; simp [maxV] at h; subst h; simp
  | cons v l ih =>
    intro a m h
    cases v with
    | int k b =>
      cases k with
      | i64 => simp only [maxV] at h; simp [Builtin.max2, ih h]
      | _ => simp [maxV] at h
    | _ => simp [maxV] at h
theorem minV_fold {P : Program} {w : World} : ∀ {l : List Value} {a m : Int}, minV a l = some m → (l.foldlM Builtin.min2 (.int .i64 a)).run P w = .ok (.int .i64 m) w := by
  intro l
  induction l with
  | nil => intro a m h; simp [minV] at h; subst h; simp
  | cons v l ih =>
    intro a m h
    cases v with
    | int k b =>
      cases k with
      | i64 => simp only [minV] at h; simp [Builtin.min2, ih h]
      | _ => simp [minV] at h
    | _ => simp [minV] at h

theorem run_fieldAt {P : Program} {s f : Nat} {fd : Field} {n b o : Nat} (hf : fieldT P s f = some fd) (hn : sizeT P fd.type = some n) (h0 : ¬ n = 0) (w : World) :
    (Instr.fieldAt s (.pointer (some ⟨b, o, none⟩)) f).run P w = .ok (.pointer (some ⟨b, o + fd.offset, none⟩)) w := by
  unfold fieldT at hf
  cases hd : P.underlying s with
  | none => simp [hd] at hf
  | some d =>
    cases d <;> simp [hd] at hf
    rename_i fs
    simp [Instr.fieldAt, run_underlying hd, hf, Instr.sureAddr, fieldPlace, run_sizeOf hn, h0, Addr.add_lit]

theorem elemT_spec {P : Program} {t e : TypeId} (h : elemT P t = some e) : P.underlying t = some (.slice e) := by
  unfold elemT at h
  split at h
  · simp at h; subst h; assumption
  · simp at h
theorem arrT_spec {P : Program} {t : TypeId} {p : Nat × TypeId} (h : arrT P t = some p) : P.underlying t = some (.array p.1 p.2) := by
  unfold arrT at h
  split at h
  · simp at h; subst h; assumption
  · simp at h

theorem eqFs_sound {P : Program} (w : World) {rec : TypeId → Option EK} {D : Nat}
    (ih : ∀ {t : TypeId} {e : EK} {x y : Value} {r : Bool}, rec t = some e → eqV e x y = some r → (Op.equalIn D t x y).run P w = .ok r w) {xs ys : Array Value} :
    ∀ {fs : List Field} {es : List (Bool × Nat × Nat × EK)} {r : Bool}, eqTs P rec fs = some es → eqFs es xs.toList ys.toList = some r → (Op.eqFields D xs ys fs).run P w = .ok r w := by
  intro fs
  induction fs with
  | nil =>
    intro es r he hv
    simp [eqTs] at he; subst he
    simp [eqFs] at hv; subst hv
    simp [Op.eqFields]
  | cons f fs ihf =>
    intro es r he hv
    rw [eqTs] at he
    split at he
    · simp at he
    · rename_i hn
      split at he
      · rename_i b m e rest h1 h2 h3 h4
        simp at he; subst he
        rw [eqFs] at hv
        split at hv
        · rename_i u v hu hv'
          split at hv
          · rename_i q s hq hs
            simp at hv; subst hv
            simp only [Op.eqFields, ne_eq, hn, not_false_eq_true, if_true, Sem.run_bind, run_part h1 h2 hu, run_part h1 h2 hv', Result.andThen_ok, ih h3 hq]
            cases q
            · simp
            · simp [ihf h4 hs]
          · simp at hv
        · simp at hv
      · simp at he
theorem eqV_sound {P : Program} (w : World) : ∀ (d : Nat) {D : Nat} {t : TypeId} {e : EK} {x y : Value} {r : Bool}, d ≤ D → eqT P d t = some e → eqV e x y = some r → (Op.equalIn D t x y).run P w = .ok r w := by
  intro d
  induction d with
  | zero => intro D t e x y r _ h; simp [eqT] at h
  | succ d ih =>
    intro D t e x y r hd he hv
    obtain ⟨D, rfl⟩ : ∃ k, D = k + 1 := ⟨D - 1, by omega⟩
    rw [eqT] at he
    split at he
    · rename_i k hu
      simp at he; subst he
      cases x <;> first | (simp only [eqV, reduceCtorEq] at hv; done) | skip
      cases y <;> first | (simp only [eqV, reduceCtorEq] at hv; done) | skip
      simp [eqV] at hv
      obtain ⟨rfl, rfl⟩ := hv
      rw [run_equalIn_int w D t _ k _ _ hu]
      congr 1
    · rename_i hu
      simp at he; subst he
      cases x <;> first | (simp only [eqV, reduceCtorEq] at hv; done) | skip
      cases y <;> first | (simp only [eqV, reduceCtorEq] at hv; done) | skip
      simp [eqV] at hv
      subst hv
      rw [run_equalIn_bool w D t _ _ hu]
    · rename_i fs hu
      split at he
      · simp at he
      · rename_i hp
        cases hes : eqTs P (eqT P d) fs.toList with
        | none => simp [hes] at he
        | some es =>
          simp [hes] at he; subst he
          cases x <;> first | (simp only [eqV, reduceCtorEq] at hv; done) | skip
          cases y <;> first | (simp only [eqV, reduceCtorEq] at hv; done) | skip
          simp only [eqV] at hv
          rename_i xs ys
          have hf : P.fieldsOf t = fs := by simp [Program.fieldsOf, hu]
          rw [run_equalIn_struct w D t xs ys (by rw [hf]; exact hu) (by simpa using hp), hf]
          exact eqFs_sound w (fun h1 h2 => ih (by omega) h1 h2) hes hv
    · simp at he

section
variable {P : Program} {n : Nat} {σ : Env} {a : Act} {F : Fz} {M : Hp} {w : World} {v : Value}

theorem val_sound_sl {t e : TypeId} {es : Nat} {x : Operand} {lo hi : Option Operand} (ha : Agree n σ a) (he : elemT P t = some e) (hs : sizeT P e = some es)
    (hv : (PK.sl es x lo hi).val σ F M = some v) : (Instr.sliceAt t (a.eval x) (lo.map a.eval) (hi.map a.eval) none).run P w = .ok v w := by
  have hu := elemT_spec he
  simp only [PK.val] at hv
  cases hx : ev σ x with
  | none => simp [hx] at hv
  | some xv =>
    rw [hx] at hv
    have hsl : ∃ ad len cap, xv = .slice ad len cap := by
      cases xv <;> first | exact ⟨_, _, _, rfl⟩ | (simp at hv; done)
    obtain ⟨ad, len, cap, rfl⟩ := hsl
    rw [ha.ev hx]
    cases lo with
    | none =>
      cases hi with
      | none =>
        simp at hv; subst hv
        simp [Instr.sliceAt, Instr.slice, Instr.sliceBounds, run_underlying hu, run_sizeOf hs]
        cases ad <;> simp [Addr.add]
      | some h =>
        cases hh : ev σ h with
        | none => simp [hh] at hv
        | some hv' =>
          cases hv' <;> simp [hh] at hv
          rename_i k i
          obtain ⟨⟨h1, h2, h3⟩, rfl⟩ := hv
          simp [ha.ev hh, Instr.sliceAt, Instr.slice, Instr.sliceBounds, Instr.sliceBound, asIntOf, run_underlying hu, run_sizeOf hs, h1, show i ≤ (cap : Int) by omega]
          cases ad <;> simp [Addr.add]
    | some l =>
      cases hl : ev σ l with
      | none => cases hi <;> simp [hl] at hv
      | some lv =>
        cases hi with
        | none =>
          cases lv <;> first | (simp [hl] at hv; done) | skip
          rename_i k i
          simp [hl] at hv
          obtain ⟨⟨h1, h2⟩, rfl⟩ := hv
          obtain ⟨i, rfl⟩ := Int.eq_ofNat_of_zero_le h1
          have h2' : i ≤ len := by omega
          simp [ha.ev hl, Instr.sliceAt, Instr.slice, Instr.sliceBounds, Instr.sliceBound, asIntOf, run_underlying hu, run_sizeOf hs, h2', Int.ofNat_inj]
        | some h =>
          cases hh : ev σ h with
          | none => cases lv <;> simp [hl, hh] at hv
          | some hv' =>
            cases lv <;> first | (simp [hl, hh] at hv; done) | skip
            cases hv' <;> first | (simp [hl, hh] at hv; done) | skip
            rename_i k i k' j
            simp [hl, hh] at hv
            obtain ⟨⟨h1, h2, h3, h4⟩, rfl⟩ := hv
            obtain ⟨i, rfl⟩ := Int.eq_ofNat_of_zero_le h1
            obtain ⟨j, rfl⟩ := Int.eq_ofNat_of_zero_le (Int.le_trans h1 h2)
            have h2' : i ≤ j := by omega
            have h3' : j ≤ cap := by omega
            simp [ha.ev hl, ha.ev hh, Instr.sliceAt, Instr.slice, Instr.sliceBounds, Instr.sliceBound, asIntOf, run_underlying hu, run_sizeOf hs, h2', h3', Int.ofNat_inj]
end

end Go.Ax
