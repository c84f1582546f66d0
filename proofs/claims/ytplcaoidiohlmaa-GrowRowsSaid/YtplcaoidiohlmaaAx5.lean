/- The small code's steps: what they ask and what they leave; and that the machine does so. -/
import Derived.Test.YtplcaoidiohlmaaAx4
import Derived.Laws.AppendOwn
namespace Go.Ax
open Go
set_option linter.unusedSimpArgs false

/-- σ' knows all that σ knows. -/
def Env.le (σ σ' : Env) : Prop := ∀ t v, look σ t = some v → look σ' t = some v

theorem Agree.mono {n : Nat} {σ σ' : Env} {a : Act} (h : Agree n σ' a) (hl : Env.le σ σ') : Agree n σ a := ⟨h.size, h.defers, fun t v ht => h.get t v (hl t v ht)⟩

/-- A slice that owns its block from its begin on. -/
def Own (M : Hp) (e es : Nat) (v : Value) (n : Nat) (xs : List Value) : Prop :=
  xs.length = n * es ∧ ((v = .slice none 0 0 ∧ n = 0) ∨ ∃ g cap, v = .slice (some ⟨g, 0, none⟩) n cap ∧ M g = some ⟨xs, e, cap * es⟩ ∧ n ≤ cap ∧ cap ≤ maxLen)

/-- A slice that can be read: its cells. -/
def Src (F : Fz) (M : Hp) (es : Nat) (u : Value) (m : Nat) (ys : List Value) : Prop :=
  ys.length = m * es ∧ (u = .slice none 0 0 ∧ m = 0 ∨ ∃ a cap, u = .slice (some a) m cap ∧ (m = 0 ∨ ∃ b o cs, a = ⟨b, o, none⟩ ∧ blk F M b = some cs ∧ (cs.drop o).take (m * es) = ys))

def plainCells (l : List Value) : Prop := ∀ u ∈ l, u.oneCell' = true

/-- What an append leaves. -/
def ApRes (F : Fz) (M : Hp) (e es : Nat) (v : Value) (n m : Nat) (zs : List Value) (v' : Value) (M' : Hp) : Prop :=
  (v = .slice none 0 0 ∧ m = 0 ∧ v' = .slice none 0 0 ∧ M' = M) ∨
  ∃ r cap, ((∃ c, v = .slice (some ⟨r, 0, none⟩) n c) ∨ (F r = none ∧ M r = none)) ∧ v' = .slice (some ⟨r, 0, none⟩) (n + m) cap ∧ n + m ≤ cap ∧ cap ≤ maxLen ∧ M' = M.upd r ⟨zs, e, cap * es⟩

inductive SK where
  | p (q : PK)
  | al (e : TypeId) (z : List Value)
  | bx (e : TypeId) (x : Operand)
  | bs (e : TypeId) (len : Nat) (z : List Value) (parts : List (Nat × Nat × Operand))
  | ap (e es bytes : Nat) (x y : Operand)
  | st (fl : List Nat) (n : Nat) (a x : Operand)
  | ms (e es bytes : Nat) (z : List Value) (l c : Operand)
  | cp (es : Nat) (x y : Operand)
  | ca (f : Operand) (args : List Operand)
  | cq (f : Operand) (args : List Operand)

/-- One step. strict: a call must leave all that is known. -/
def stepK (P : Program) (strict : Bool) (d : Option Nat) (k : SK) (K : Env → Fz → Hp → Prop) (σ : Env) (F : Fz) (M : Hp) : Prop :=
  match k with
  | .p q => ∃ v, q.val σ F M = some v ∧ K (put σ d v) F M
  | .al e z => ∀ r, F r = none → M r = none → K (put σ d (.pointer (some ⟨r, 0, none⟩))) F (M.upd r ⟨z, e, z.length⟩)
  | .bx e x => ∃ v, ev σ x = some v ∧ ∀ r, F r = none → M r = none → K (put σ d (.pointer (some ⟨r, 0, none⟩))) F (M.upd r ⟨v.cells.toList, e, v.cells.toList.length⟩)
  | .bs e len z parts => ∃ ps, evParts σ parts = some ps ∧ ∃ cs, fillV z ps = some cs ∧
      ∀ r, F r = none → M r = none → K (put σ d (.slice (some ⟨r, 0, none⟩) len len)) F (M.upd r ⟨cs, e, cs.length⟩)
  | .ap e es bytes x y => ∃ v, ev σ x = some v ∧ ∃ u, ev σ y = some u ∧ ∃ n xs, Own M e es v n xs ∧ ∃ m ys, Src F M es u m ys ∧ plainCells ys ∧
      n + m ≤ maxLen ∧ (n + m) * bytes ≤ 140737488355328 ∧ ∀ v' M', ApRes F M e es v n m (xs ++ ys) v' M' → K (put σ d v') F M'
  | .st fl n a x => ∃ b o, ev σ a = some (.pointer (some ⟨b, o, none⟩)) ∧ ∃ v, ev σ x = some v ∧ ∃ e, M b = some e ∧ v.cells.size = n ∧ plainCells v.cells.toList ∧
      o + n ≤ e.cells.length ∧ (∀ t ∈ fl, ∃ b' o', look σ t = some (.pointer (some ⟨b', o', none⟩)) ∧ b' ≠ b) ∧ K (put σ d undef) F (M.upd b ⟨e.cells.take o ++ v.cells.toList ++ e.cells.drop (o + n), e.elem, e.size⟩)
  | .ms e es bytes z l c => ∃ k n, ev σ l = some (.int k (n : Nat)) ∧ ∃ k' m, ev σ c = some (.int k' (m : Nat)) ∧ n ≤ m ∧ m ≤ maxLen ∧ m * bytes ≤ 140737488355328 ∧
      ∀ r, F r = none → M r = none → K (put σ d (.slice (some ⟨r, 0, none⟩) n m)) F (M.upd r ⟨(List.replicate m z).flatten, e, m * es⟩)
  | .cp es x y => ∃ b o n c, ev σ x = some (.slice (some ⟨b, o, none⟩) n c) ∧ ∃ u, ev σ y = some u ∧ ∃ m ys, Src F M es u m ys ∧ plainCells ys ∧ ∃ e, M b = some e ∧
      o + n * es ≤ e.cells.length ∧
      K (put σ d (.int .i64 (min m n : Nat))) F (M.upd b ⟨e.cells.take o ++ ys.take (min m n * es) ++ e.cells.drop (o + min m n * es), e.elem, e.size⟩)
  | .ca f args => ∃ g fi ca, ev σ f = some (.func (.func g) fi ca) ∧ ∃ vs, evs σ args = some vs ∧
      CallsA P g (fi.toList ++ vs ++ ca.toList) F M fun v F' M' => (strict = true → Le F M F' M') ∧ K (put σ d v) F' M'
  | .cq f args => ∃ g fi ca, ev σ f = some (.func (.func g) fi ca) ∧ ∃ vs, evs σ args = some vs ∧
      CallsA P g (fi.toList ++ vs ++ ca.toList) F M fun v F' M' => K (put σ d v) F' M'

theorem stepK_mono {P : Program} {s : Bool} {d : Option Nat} {k : SK} {K K' : Env → Fz → Hp → Prop} {σ : Env} {F : Fz} {M : Hp}
    (h : ∀ σ F M, K σ F M → K' σ F M) (hh : stepK P s d k K σ F M) : stepK P s d k K' σ F M := by
  cases k <;> simp only [stepK] at hh ⊢
  case p q => obtain ⟨v, h1, h2⟩ := hh; exact ⟨v, h1, h _ _ _ h2⟩
  case al e z => exact fun r h1 h2 => h _ _ _ (hh r h1 h2)
  case bx e x => obtain ⟨v, h1, h2⟩ := hh; exact ⟨v, h1, fun r a b => h _ _ _ (h2 r a b)⟩
  case bs e len z parts => obtain ⟨ps, h1, cs, h2, h3⟩ := hh; exact ⟨ps, h1, cs, h2, fun r a b => h _ _ _ (h3 r a b)⟩
  case ap e es bytes x y => obtain ⟨v, h1, u, h2, n, xs, h3, m, ys, h4, h5, h6, h7, h8⟩ := hh; exact ⟨v, h1, u, h2, n, xs, h3, m, ys, h4, h5, h6, h7, fun v' M' a => h _ _ _ (h8 v' M' a)⟩
  case st fl n a x => obtain ⟨b, o, h1, v, h2, e, h3, h4, h5, h6, h7, h8⟩ := hh; exact ⟨b, o, h1, v, h2, e, h3, h4, h5, h6, h7, h _ _ _ h8⟩
  case ms e es bytes z l c => obtain ⟨k, n, h1, k', m, h2, h3, h4, h5, h6⟩ := hh; exact ⟨k, n, h1, k', m, h2, h3, h4, h5, fun r a b => h _ _ _ (h6 r a b)⟩
  case cp es x y => obtain ⟨b, o, n, c, h1, u, h2, m, ys, h3, h4, e, h5, h6, h7⟩ := hh; exact ⟨b, o, n, c, h1, u, h2, m, ys, h3, h4, e, h5, h6, h _ _ _ h7⟩
  case ca f args => obtain ⟨g, fi, c, h1, vs, h2, h3⟩ := hh; exact ⟨g, fi, c, h1, vs, h2, h3.mono fun v F' M' ⟨a, b⟩ => ⟨a, h _ _ _ b⟩⟩
  case cq f args => obtain ⟨g, fi, c, h1, vs, h2, h3⟩ := hh; exact ⟨g, fi, c, h1, vs, h2, h3.mono fun v F' M' b => h _ _ _ b⟩

structure SO where
  d : Option Nat
  g : Option (Nat × Bool)
  k : SK

def stepG (P : Program) (strict : Bool) (o : SO) (K : Env → Fz → Hp → Prop) (σ : Env) (F : Fz) (M : Hp) : Prop :=
  match o.g with
  | none => stepK P strict o.d o.k K σ F M
  | some (t, want) => ∃ v, look σ t = some v ∧ (v = .bool want → stepK P strict o.d o.k K σ F M) ∧ (v ≠ .bool want → K (put σ o.d undef) F M)

theorem stepG_mono {P : Program} {s : Bool} {o : SO} {K K' : Env → Fz → Hp → Prop} {σ : Env} {F : Fz} {M : Hp}
    (h : ∀ σ F M, K σ F M → K' σ F M) (hh : stepG P s o K σ F M) : stepG P s o K' σ F M := by
  unfold stepG at *
  split
  · rename_i hg; rw [hg] at hh; exact stepK_mono h hh
  · rename_i t want hg
    rw [hg] at hh
    obtain ⟨v, h1, h2, h3⟩ := hh
    exact ⟨v, h1, fun a => stepK_mono h (h2 a), fun a => h _ _ _ (h3 a)⟩

/-- Steps, one behind the other. -/
def opsW (P : Program) (strict : Bool) : List SO → (Env → Fz → Hp → Prop) → Env → Fz → Hp → Prop
  | [], K => K
  | o :: l, K => stepG P strict o (opsW P strict l K)

/-- The machine's operation as a step. -/
def slimK (P : Program) (o : Oper) : Option SK :=
  match slimP P o.op with
  | some q => some (.p q)
  | none => match o.op with
    | .alloc e => (zeroT P e).map fun z => .al e z
    | .box e x => some (.bx e x)
    | .buildSlice t len parts => (elemT P t).bind fun e => (sizeT P e).bind fun es => (zeroT P e).bind fun z =>
        if len * es ≤ 16777216 ∧ z.length = es then some (.bs e len (List.replicate len z).flatten (parts.toList.map fun (i, x) => (i * es, es, x))) else none
    | .store t a x => (sizeT P t).map fun n => .st [] n a x
    | .makeSlice t l c => (elemT P t).bind fun e => (sizeT P e).bind fun es => (zeroT P e).bind fun z => (P.info? e).bind fun i =>
        if z.length = es then some (.ms e es i.bytes z l c) else none
    | .call c => match c.callee, c.args.toList, c.argTypes.toList with
      | .builtin .append, [x, y], [t, t'] => if t = t' then (elemT P t).bind fun e => (P.info? e).bind fun i => (i.zero).bind fun z =>
          if z.cells.size = i.size ∧ 0 < i.size then some (.ap e i.size i.bytes x y) else none else none
      | .builtin .copy, [x, y], [t, t'] => (elemT P t).bind fun e => (elemT P t').bind fun _ => (sizeT P e).map fun es => .cp es x y
      | .value f, args, _ => some (.ca f args)
      | _, _, _ => none
    | _ => none

def slimO (P : Program) (n : Nat) (ops : Array Oper) (o : Oper) : Option SO :=
  match slimK P o with
  | none => none
  | some k => if o.dst.all (fun d => Nat.blt d n) = true then
      match o.guard with
      | none => some ⟨o.dst, none, k⟩
      | some (j, want) => ((ops[j]?).bind (·.dst)).map fun t => ⟨o.dst, some (t, want), k⟩
    else none

end Go.Ax
