/- A small heap logic over the kit's machine: what a call may know of memory, and what it keeps. -/
import Derived.Orders
import Derived.Tactics
import Derived.Below
import Derived.Laws.OwnMore
import Derived.Laws.Cells
namespace Go.Ax
open Go

/-- A block of the call's own: its first cells, its element type, how many cells it has. -/
structure Ent where
  cells : List Value
  elem : TypeId
  size : Nat

abbrev Hp := Nat → Option Ent
abbrev Fz := Nat → Option (List Value)
def Hp.upd (M : Hp) (b : Nat) (e : Ent) : Hp := fun k => if k = b then some e else M k
def Fz.upd (F : Fz) (b : Nat) (c : List Value) : Fz := fun k => if k = b then some c else F k

@[simp] theorem Hp.upd_same (M : Hp) (b : Nat) (e : Ent) : M.upd b e b = some e := by simp [Hp.upd]
theorem Hp.upd_ne {M : Hp} {b k : Nat} {e : Ent} (h : k ≠ b) : M.upd b e k = M k := by simp [Hp.upd, h]
theorem Hp.upd_comm {M : Hp} {a b : Nat} {x y : Ent} (h : a ≠ b) : (M.upd a x).upd b y = (M.upd b y).upd a x := by
  funext k; simp only [Hp.upd]; split <;> split <;> simp_all
theorem Hp.upd_upd {M : Hp} {a : Nat} {x y : Ent} : (M.upd a x).upd a y = M.upd a y := by
  funext k; simp only [Hp.upd]; split <;> simp_all

/-- What the world bears of what is known: blocks that stay as they are (F), blocks of the call's own (M). -/
structure Rel (F : Fz) (M : Hp) (w : World) : Prop where
  fz : ∀ b c, F b = some c → ∃ cur e fr, w.heap[b]? = some (.cells cur e fr) ∧ c <+: cur.toList
  mu : ∀ b n, M b = some n → ∃ cur, w.heap[b]? = some (.cells cur n.elem (0, 0)) ∧ n.cells <+: cur.toList ∧ cur.size = n.size
  ap : ∀ b, M b ≠ none → F b = none

/-- What a piece of a run keeps: the outside, and every block that is none of its own. -/
structure Fr (F : Fz) (M : Hp) (w : World) (F' : Fz) (M' : Hp) (w' : World) : Prop where
  os : w'.os = w.os
  tape : w'.tape = w.tape
  output : w'.output = w.output
  size : w.heap.size ≤ w'.heap.size
  block : ∀ b, b < w.heap.size → M b = none → w'.heap[b]? = w.heap[b]? ∧ M' b = none ∧ (F b = none → F' b = none)

theorem Fr.refl (F : Fz) (M : Hp) (w : World) : Fr F M w F M w := ⟨rfl, rfl, rfl, Nat.le_refl _, fun _ _ h => ⟨rfl, h, id⟩⟩
theorem Fr.trans {F F1 F2 : Fz} {M M1 M2 : Hp} {w w1 w2 : World} (h : Fr F M w F1 M1 w1) (k : Fr F1 M1 w1 F2 M2 w2) : Fr F M w F2 M2 w2 :=
  ⟨k.os.trans h.os, k.tape.trans h.tape, k.output.trans h.output, Nat.le_trans h.size k.size, fun b hb hm => by
    obtain ⟨e1, m1, f1⟩ := h.block b hb hm
    obtain ⟨e2, m2, f2⟩ := k.block b (Nat.lt_of_lt_of_le hb h.size) m1
    exact ⟨e2.trans e1, m2, fun hf => f2 (f1 hf)⟩⟩

/-- The heap, the streams and the tape are what a knowledge hangs on, not the count of draws. -/
structure Like (w w' : World) : Prop where
  heap : w'.heap = w.heap
  os : w'.os = w.os
  tape : w'.tape = w.tape
  output : w'.output = w.output
theorem Rel.like {F : Fz} {M : Hp} {w w' : World} (h : Rel F M w) (l : Like w w') : Rel F M w' :=
  ⟨fun b c hb => by rw [l.heap]; exact h.fz b c hb, fun b n hb => by rw [l.heap]; exact h.mu b n hb, h.ap⟩
theorem Fr.like {F : Fz} {M : Hp} {w w' : World} (l : Like w w') : Fr F M w F M w' :=
  ⟨l.os, l.tape, l.output, by rw [l.heap]; exact Nat.le_refl _, fun b _ h => ⟨by rw [l.heap], h, id⟩⟩

/-- More is known: what was known is known still (a block may have grown). -/
structure Le (F : Fz) (M : Hp) (F' : Fz) (M' : Hp) : Prop where
  fz : ∀ b c, F b = some c → F' b = some c
  mu : ∀ b e, M b = some e → ∃ e', M' b = some e' ∧ e.cells <+: e'.cells
  ap : ∀ b, F b ≠ none → M b = none → M' b = none
theorem Le.refl (F : Fz) (M : Hp) : Le F M F M := ⟨fun _ _ h => h, fun _ e h => ⟨e, h, List.prefix_refl _⟩, fun _ _ h => h⟩
theorem Le.trans {F F1 F2 : Fz} {M M1 M2 : Hp} (h : Le F M F1 M1) (k : Le F1 M1 F2 M2) : Le F M F2 M2 :=
  ⟨fun b c hb => k.fz b c (h.fz b c hb), fun b e hb => by
    obtain ⟨e1, h1, p1⟩ := h.mu b e hb
    obtain ⟨e2, h2, p2⟩ := k.mu b e1 h1
    exact ⟨e2, h2, p1.trans p2⟩, fun b h1 h2 => k.ap b (fun e => by
      cases hf : F b with
      | none => exact h1 hf
      | some c => have := h.fz b c hf; simp [this] at e) (h.ap b h1 h2)⟩
theorem Le.upd {F : Fz} {M : Hp} {r : Nat} {e : Ent} (hF : F r = none) (h : M r = none) : Le F M F (M.upd r e) :=
  ⟨fun _ _ h => h, fun b x hb => ⟨x, by rw [Hp.upd_ne]; exact hb; rintro rfl; simp [h] at hb, List.prefix_refl _⟩,
    fun b h1 h2 => by rw [Hp.upd_ne]; exact h2; rintro rfl; exact h1 hF⟩
theorem Le.grow {F : Fz} {M : Hp} {r : Nat} {e e' : Ent} (h : M r = some e) (hp : e.cells <+: e'.cells) : Le F M F (M.upd r e') :=
  ⟨fun _ _ h => h, fun b x hb => by
    by_cases hbr : b = r
    · subst hbr; rw [h] at hb; cases hb; exact ⟨e', by simp, hp⟩
    · exact ⟨x, by rw [Hp.upd_ne hbr]; exact hb, List.prefix_refl _⟩,
    fun b h1 h2 => by rw [Hp.upd_ne]; exact h2; rintro rfl; simp [h] at h2⟩

/-- The cells of a block, as far as known. -/
def blk (F : Fz) (M : Hp) (b : Nat) : Option (List Value) := match M b with | some e => some e.cells | none => F b

theorem Rel.of_blk {F : Fz} {M : Hp} {w : World} (h : Rel F M w) {b : Nat} {c : List Value} (hb : blk F M b = some c) :
    ∃ cur e fr, w.heap[b]? = some (.cells cur e fr) ∧ c <+: cur.toList := by
  unfold blk at hb
  split at hb
  · rename_i e he
    obtain ⟨cur, h1, h2, _⟩ := h.mu b e he
    cases hb
    exact ⟨cur, _, _, h1, h2⟩
  · exact h.fz b c hb

theorem blk_le {F F' : Fz} {M M' : Hp} (hl : Le F M F' M') {b : Nat} {c : List Value} (hb : blk F M b = some c) :
    ∃ c', blk F' M' b = some c' ∧ c <+: c' := by
  unfold blk at hb
  split at hb
  · rename_i e he
    obtain ⟨e', h1, h2⟩ := hl.mu b e he
    cases hb
    exact ⟨e'.cells, by simp [blk, h1], h2⟩
  · rename_i hm
    exact ⟨c, by simp [blk, hl.ap b (by simp [hb]) hm, hl.fz b c hb], List.prefix_refl _⟩

theorem Rel.lt {F : Fz} {M : Hp} {w : World} (h : Rel F M w) {b : Nat} {c : List Value} (hb : blk F M b = some c) : b < w.heap.size := by
  obtain ⟨cur, e, fr, h1, _⟩ := h.of_blk hb
  exact (Array.getElem?_eq_some_iff.1 h1).1

theorem Rel.cell {F : Fz} {M : Hp} {w : World} (h : Rel F M w) {b i : Nat} {c : List Value} {v : Value} (hb : blk F M b = some c) (hi : c[i]? = some v) :
    w.cell? ⟨b, i, none⟩ = some v := by
  obtain ⟨cur, e, fr, h1, t, ht⟩ := h.of_blk hb
  have hlt : i < c.length := (List.getElem?_eq_some_iff.1 hi).1
  simp only [World.cell?, h1]
  simp only [Option.isSome_none, Bool.false_eq_true, if_false]
  rw [← Array.getElem?_toList, ← ht, List.getElem?_append_left hlt]
  exact hi

/-- A block that is not there is unknown. -/
theorem Rel.fresh {F : Fz} {M : Hp} {w : World} (h : Rel F M w) {b : Nat} (hb : w.heap.size ≤ b) : F b = none ∧ M b = none := by
  constructor
  · cases hf : F b with
    | none => rfl
    | some c => obtain ⟨cur, e, fr, h1, _⟩ := h.fz b c hf; have := (Array.getElem?_eq_some_iff.1 h1).1; omega
  · cases hf : M b with
    | none => rfl
    | some n => obtain ⟨cur, h1, _⟩ := h.mu b n hf; have := (Array.getElem?_eq_some_iff.1 h1).1; omega

/-- A new block. -/
theorem Rel.alloc {F : Fz} {M : Hp} {w : World} (h : Rel F M w) (c : List Value) (t : TypeId) :
    Rel F (M.upd w.heap.size ⟨c, t, c.length⟩) (w.alloc (.cells c.toArray t)) := by
  have old : ∀ b, b < w.heap.size → (w.alloc (.cells c.toArray t)).heap[b]? = w.heap[b]? := fun b hb => RowKit.Below.heap_alloc _ _ _ hb
  refine ⟨fun b x hb => ?_, fun b n hb => ?_, fun b hb => ?_⟩
  · obtain ⟨cur, e, fr, h1, h2⟩ := h.fz b x hb
    exact ⟨cur, e, fr, by rw [old b (Array.getElem?_eq_some_iff.1 h1).1]; exact h1, h2⟩
  · by_cases hbs : b = w.heap.size
    · subst hbs
      simp only [Hp.upd_same, Option.some.injEq] at hb
      subst hb
      exact ⟨c.toArray, heap_alloc_new w _, by simp, by simp⟩
    · rw [Hp.upd_ne hbs] at hb
      obtain ⟨cur, h1, h2, h3⟩ := h.mu b n hb
      exact ⟨cur, by rw [old b (Array.getElem?_eq_some_iff.1 h1).1]; exact h1, h2, h3⟩
  · by_cases hbs : b = w.heap.size
    · subst hbs; exact (h.fresh (Nat.le_refl _)).1
    · rw [Hp.upd_ne hbs] at hb; exact h.ap b hb

theorem Fr.alloc {F : Fz} {M : Hp} {w : World} (e : Ent) (o : Obj) : Fr F M w F (M.upd w.heap.size e) (w.alloc o) :=
  ⟨rfl, rfl, rfl, by simp, fun b hb hm => ⟨RowKit.Below.heap_alloc _ _ _ hb, by rw [Hp.upd_ne (Nat.ne_of_lt hb)]; exact hm, id⟩⟩

/-- A contract. R: what came back, what is known then. -/
def Enters (P : Program) (f : FuncId) : Prop := ∃ fn, P.funcs[f]? = some fn ∧ (fn.name == "runtime.NumGoroutine") = false ∧ fn.body.isNone = false

def CallsA (P : Program) (f : FuncId) (args : List Value) (F : Fz) (M : Hp) (R : Value → Fz → Hp → Prop) : Prop :=
  Enters P f ∧ ∀ w, Rel F M w → Calls P f args.toArray w fun e w' => ∃ v F' M', e = .returned v ∧ Rel F' M' w' ∧ Fr F M w F' M' w' ∧ R v F' M'

theorem CallsA.mono {P : Program} {f : FuncId} {args : List Value} {F : Fz} {M : Hp} {R R' : Value → Fz → Hp → Prop} (h : CallsA P f args F M R)
    (hr : ∀ v F' M', R v F' M' → R' v F' M') : CallsA P f args F M R' :=
  ⟨h.1, fun w hw => (h.2 w hw).mono fun _ _ ⟨v, F', M', he, h1, h2, h3⟩ => ⟨v, F', M', he, h1, h2, hr _ _ _ h3⟩⟩

theorem CallsA.mono_rel {P : Program} {f : FuncId} {args : List Value} {F : Fz} {M : Hp} {R R' : Value → Fz → Hp → Prop} (h : CallsA P f args F M R)
    (hr : ∀ v F' M', (∃ w, Rel F' M' w) → R v F' M' → R' v F' M') : CallsA P f args F M R' :=
  ⟨h.1, fun w hw => (h.2 w hw).mono fun _ w' ⟨v, F', M', he, h1, h2, h3⟩ => ⟨v, F', M', he, h1, h2, hr _ _ _ ⟨w', h1⟩ h3⟩⟩

/-- There is always a further block's number. -/
def Inf (F : Fz) (M : Hp) : Prop := ∀ B, ∃ r, B ≤ r ∧ F r = none ∧ M r = none
theorem Rel.inf {F : Fz} {M : Hp} {w : World} (h : Rel F M w) : Inf F M := fun B =>
  ⟨max B w.heap.size, Nat.le_max_left _ _, h.fresh (Nat.le_max_right _ _)⟩
theorem Inf.upd {F : Fz} {M : Hp} (h : Inf F M) (b : Nat) (e : Ent) : Inf F (M.upd b e) := fun B => by
  obtain ⟨r, h1, h2, h3⟩ := h (max B (b + 1))
  exact ⟨r, by omega, h2, by rw [Hp.upd_ne (by omega)]; exact h3⟩

/-- The frame: a further block of the caller's own, of which the callee knows nothing, stays. -/
theorem CallsA.frame {P : Program} {f : FuncId} {args : List Value} {F : Fz} {M : Hp} {R : Value → Fz → Hp → Prop} (h : CallsA P f args F M R)
    {r : Nat} {e : Ent} (hF : F r = none) (hM : M r = none) :
    CallsA P f args F (M.upd r e) (fun v F' M'' => ∃ M', M'' = M'.upd r e ∧ F' r = none ∧ M' r = none ∧ R v F' M') := by
  refine ⟨h.1, fun w hw => ?_⟩
  obtain ⟨cur, hc, hp, hs⟩ := hw.mu r e (Hp.upd_same _ _ _)
  have hlt := (Array.getElem?_eq_some_iff.1 hc).1
  have hw' : Rel F M w := ⟨hw.fz, fun b n hb => hw.mu b n (by rw [Hp.upd_ne]; exact hb; rintro rfl; simp [hM] at hb),
    fun b hb => hw.ap b (by rw [Hp.upd_ne]; exact hb; rintro rfl; exact hb hM)⟩
  refine (h.2 w hw').mono ?_
  rintro en w' ⟨v, F', M', rfl, h1, h2, h3⟩
  obtain ⟨b1, b2, b3⟩ := h2.block r hlt hM
  refine ⟨v, F', M'.upd r e, rfl, ⟨h1.fz, fun b n hb => ?_, fun b hb => ?_⟩, ⟨h2.os, h2.tape, h2.output, h2.size, fun b hb hm => ?_⟩, M', rfl, b3 hF, b2, h3⟩
  · by_cases hbr : b = r
    · subst hbr
      simp only [Hp.upd_same, Option.some.injEq] at hb
      subst hb
      exact ⟨cur, by rw [b1]; exact hc, hp, hs⟩
    · rw [Hp.upd_ne hbr] at hb; exact h1.mu b n hb
  · by_cases hbr : b = r
    · subst hbr; exact b3 hF
    · rw [Hp.upd_ne hbr] at hb; exact h1.ap b hb
  · by_cases hbr : b = r
    · subst hbr; simp at hm
    · rw [Hp.upd_ne hbr] at hm ⊢; exact h2.block b hb hm

/-- Less is told: knowledge is dropped, or a block of one's own is said to stay as it is from now on. -/
structure Wk (F : Fz) (M : Hp) (F' : Fz) (M' : Hp) : Prop where
  rel : ∀ w, Rel F M w → Rel F' M' w
  domF : ∀ b, F b = none → M b = none → F' b = none
  domM : ∀ b, M b = none → M' b = none
theorem Wk.refl (F : Fz) (M : Hp) : Wk F M F M := ⟨fun _ h => h, fun _ h _ => h, fun _ h => h⟩
theorem Wk.trans {F F1 F2 : Fz} {M M1 M2 : Hp} (h : Wk F M F1 M1) (k : Wk F1 M1 F2 M2) : Wk F M F2 M2 :=
  ⟨fun w hw => k.rel w (h.rel w hw), fun b h1 h2 => k.domF b (h.domF b h1 h2) (h.domM b h2), fun b h1 => k.domM b (h.domM b h1)⟩
theorem Wk.drop {F : Fz} {M : Hp} {r : Nat} {e : Ent} (h : M r = none) : Wk F (M.upd r e) F M := by
  refine ⟨fun w hw => ⟨hw.fz, fun b n hb => hw.mu b n ?_, fun b hb => hw.ap b ?_⟩, fun _ h _ => h, fun b hb => ?_⟩
  · rw [Hp.upd_ne]; exact hb; rintro rfl; simp [h] at hb
  · rw [Hp.upd_ne]; exact hb; rintro rfl; exact hb h
  · by_cases hbr : b = r
    · subst hbr; exact h
    · rw [Hp.upd_ne hbr] at hb; exact hb
theorem Wk.freeze {F : Fz} {M : Hp} {r : Nat} {e : Ent} (h : M r = none) : Wk F (M.upd r e) (F.upd r e.cells) M := by
  refine ⟨fun w hw => ⟨fun b c hb => ?_, fun b n hb => hw.mu b n ?_, fun b hb => ?_⟩, fun b h1 h2 => ?_, fun b hb => ?_⟩
  · by_cases hbr : b = r
    · subst hbr
      simp only [Fz.upd, if_true, Option.some.injEq] at hb
      subst hb
      obtain ⟨cur, h1, h2, _⟩ := hw.mu b e (Hp.upd_same _ _ _)
      exact ⟨cur, _, _, h1, h2⟩
    · simp only [Fz.upd, hbr, if_false] at hb; exact hw.fz b c hb
  · rw [Hp.upd_ne]; exact hb; rintro rfl; simp [h] at hb
  · have hbr : b ≠ r := by rintro rfl; exact hb h
    simp only [Fz.upd, hbr, if_false]
    exact hw.ap b (by rw [Hp.upd_ne hbr]; exact hb)
  · have hbr : b ≠ r := by rintro rfl; simp at h2
    simp only [Fz.upd, hbr, if_false]; exact h1
  · by_cases hbr : b = r
    · subst hbr; exact h
    · rw [Hp.upd_ne hbr] at hb; exact hb

/-- A run may be ended by telling less. -/
theorem CallsA.wk {P : Program} {f : FuncId} {args : List Value} {F : Fz} {M : Hp} {R : Value → Fz → Hp → Prop}
    (h : CallsA P f args F M fun v F1 M1 => ∃ F2 M2, Wk F1 M1 F2 M2 ∧ R v F2 M2) : CallsA P f args F M R :=
  ⟨h.1, fun w hw => (h.2 w hw).mono fun _ w' ⟨v, F1, M1, he, h1, h2, F2, M2, h3, h4⟩ =>
    ⟨v, F2, M2, he, h3.rel _ h1, ⟨h2.os, h2.tape, h2.output, h2.size, fun b hb hm => by
      obtain ⟨x, y, z⟩ := h2.block b hb hm
      exact ⟨x, h3.domM b y, fun hf => h3.domF b (z hf) y⟩⟩, h4⟩⟩

end Go.Ax
