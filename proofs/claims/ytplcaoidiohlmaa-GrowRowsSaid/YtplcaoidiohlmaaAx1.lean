/- The small code's operations that only compute or read: their values, and that the machine tells the same. -/
import Derived.Test.YtplcaoidiohlmaaAx0
namespace Go.Ax
open Go
set_option linter.unusedSimpArgs false

abbrev Env := List (Nat × Value)
def look : Env → Nat → Option Value
  | [], _ => none
  | (k, v) :: l, t => if k = t then some v else look l t

def ev (σ : Env) : Operand → Option Value
  | .tmp t => look σ t
  | .const v => some v
  | .func f => some (.func (.func f) #[] #[])
  | .global g => some (.pointer (some ⟨g, 0, none⟩))
def evs (σ : Env) : List Operand → Option (List Value)
  | [] => some []
  | x :: l => (ev σ x).bind fun v => (evs σ l).bind fun vs => some (v :: vs)

/-- What is known of a frame. -/
structure Agree (n : Nat) (σ : Env) (a : Act) : Prop where
  size : a.tmps.size = n
  defers : a.defers = []
  get : ∀ t v, look σ t = some v → a.tmps[t]? = some v

theorem Agree.ev {n : Nat} {σ : Env} {a : Act} (h : Agree n σ a) {x : Operand} {v : Value} (hv : ev σ x = some v) : a.eval x = v := by
  cases x with
  | tmp t => simp [Act.eval, h.get t v hv]
  | const c => simpa [Ax.ev, Act.eval] using hv
  | func f => simpa [Ax.ev, Act.eval] using hv
  | global g => simpa [Ax.ev, Act.eval] using hv
theorem Agree.evs {n : Nat} {σ : Env} {a : Act} (h : Agree n σ a) : ∀ {l : List Operand} {vs : List Value}, evs σ l = some vs → l.map a.eval = vs := by
  intro l
  induction l with
  | nil => intro vs hv; simpa [Ax.evs] using hv
  | cons x l ih =>
    intro vs hv
    simp only [Ax.evs] at hv
    cases hx : Ax.ev σ x with
    | none => simp [hx] at hv
    | some u =>
      cases hl : Ax.evs σ l with
      | none => simp [hx, hl] at hv
      | some us =>
        simp [hx, hl] at hv
        subst hv
        simp [h.ev hx, ih hl]

def put (σ : Env) (d : Option Nat) (v : Value) : Env := match d with | some t => (t, v) :: σ | none => σ
theorem Agree.put {n : Nat} {σ : Env} {a : Act} (h : Agree n σ a) {d : Option Nat} {v : Value} (hd : ∀ t, d = some t → t < n) : Agree n (put σ d v) (a.put d v) := by
  cases d with
  | none => exact h
  | some t =>
    refine ⟨by simp [Act.put, h.size], by simp [Act.put, h.defers], fun k u hk => ?_⟩
    simp only [Ax.put, look] at hk
    by_cases htk : t = k
    · subst htk
      simp at hk
      subst hk
      have := hd t rfl
      simp [Act.put, h.size, this]
    · simp [htk] at hk
      simp [Act.put, Array.getElem?_setIfInBounds_ne htk, h.get k u hk]

/-- Whole numbers, bit by bit. -/
def band (k : IntKind) (a b : Int) : Int := k.wrap (BitVec.ofInt k.bits a &&& BitVec.ofInt k.bits b).toNat
def bor (k : IntKind) (a b : Int) : Int := k.wrap (BitVec.ofInt k.bits a ||| BitVec.ofInt k.bits b).toNat
def bxor (k : IntKind) (a b : Int) : Int := k.wrap (BitVec.ofInt k.bits a ^^^ BitVec.ofInt k.bits b).toNat
def bclr (k : IntKind) (a b : Int) : Int := k.wrap (BitVec.ofInt k.bits a &&& ~~~BitVec.ofInt k.bits b).toNat
def shlv (k : IntKind) (a b : Int) : Int := k.wrap (a * 2 ^ (min b.toNat k.bits))
def shrv (k : IntKind) (a b : Int) : Int := a.fdiv (2 ^ (min b.toNat k.bits))

def binV (o : BinOp) (x y : Value) : Option Value :=
  match x, y with
  | .int k a, .int j b =>
    match o with
    | .shl => if b < 0 then none else some (.int k (shlv k a b))
    | .shr => if b < 0 then none else some (.int k (shrv k a b))
    | .add => if k = j then some (.int k (k.wrap (a + b))) else none
    | .sub => if k = j then some (.int k (k.wrap (a - b))) else none
    | .mul => if k = j then some (.int k (k.wrap (a * b))) else none
    | .quo => if k = j ∧ ¬ b = 0 then some (.int k (k.wrap (a.tdiv b))) else none
    | .rem => if k = j ∧ ¬ b = 0 then some (.int k (a.tmod b)) else none
    | .and => if k = j then some (.int k (band k a b)) else none
    | .or => if k = j then some (.int k (bor k a b)) else none
    | .xor => if k = j then some (.int k (bxor k a b)) else none
    | .andNot => if k = j then some (.int k (bclr k a b)) else none
    | .eql => if k = j then some (.bool (decide (a = b))) else none
    | .neq => if k = j then some (.bool (!decide (a = b))) else none
    | .lss => if k = j then some (.bool (decide (a < b))) else none
    | .leq => if k = j then some (.bool (decide (a ≤ b))) else none
    | .gtr => if k = j then some (.bool (decide (b < a))) else none
    | .geq => if k = j then some (.bool (decide (b ≤ a))) else none
  | _, _ => none

theorem run_binV {P : Program} {w : World} {o : BinOp} {t : TypeId} {x y : Operand} {u v r : Value} (h : binV o u v = some r) :
    ((do eqGuard o t x y u v; binOp o t u v) : Sem Value).run P w = .ok r w := by
  unfold binV at h
  split at h
  · rename_i k a j b
    have e : ∀ (q q' : Operand), eqGuard BinOp.shl t q q' (.int k a) (.int j b) = pure () := fun _ _ => rfl
    have e' : ∀ (q q' : Operand), eqGuard BinOp.shr t q q' (.int k a) (.int j b) = pure () := fun _ _ => rfl
    by_cases hkj : k = j
    · subst hkj
      cases o <;> simp only [if_true, true_and, Option.some.injEq, Option.ite_none_left_eq_some, Option.ite_none_right_eq_some] at h
      case shl => obtain ⟨h0, rfl⟩ := h; simp [go_sem, Op.shift, shlv, e]; omega
      case shr => obtain ⟨h0, rfl⟩ := h; simp [go_sem, Op.shift, shrv, e']; omega
      case quo => obtain ⟨h0, rfl⟩ := h; simp [go_sem, h0]
      case rem => obtain ⟨h0, rfl⟩ := h; simp [go_sem, h0]
      case eql => subst h; by_cases hab : a = b <;> simp [go_sem, hab]
      case neq => subst h; by_cases hab : a = b <;> simp [go_sem, hab]
      all_goals (subst h; simp [go_sem, Op.intBits, band, bor, bxor, bclr])
    · cases o <;> simp only [hkj, if_false, false_and, reduceCtorEq, Option.ite_none_left_eq_some, Option.some.injEq] at h
      case shl => obtain ⟨h0, rfl⟩ := h; simp [e, binOp, Op.shift, shlv]; intro; omega
      case shr => obtain ⟨h0, rfl⟩ := h; simp [e', binOp, Op.shift, shrv]; intro; omega
  · simp at h

def unV (o : UnOp) (x : Value) : Option Value :=
  match x with
  | .int k a => match o with
    | .neg => some (.int k (k.wrap (0 - a)))
    | .xor => some (.int k (bxor k (if k.signed then -1 else k.max) a))
    | _ => none
  | .bool b => match o with
    | .not => some (.bool (!b))
    | _ => none
  | _ => none

theorem run_unV {P : Program} {w : World} {o : UnOp} {u r : Value} (h : unV o u = some r) : (Op.unary o u).run P w = .ok r w := by
  unfold unV at h
  split at h
  · cases o <;> simp at h <;> subst h <;> simp [Op.unary, Op.intArith, Op.intBits, bxor]
  · cases o <;> simp at h
    subst h
    simp [Op.unary]
  · simp at h

/-- A value read out of cells. -/
def rd (agg : Bool) (n : Nat) (c : List Value) (off : Nat) : Option Value :=
  match agg with
  | true => if off + n ≤ c.length then some (.agg ((c.drop off).take n).toArray) else none
  | false => c[off]?

theorem rd_prefix {agg : Bool} {n off : Nat} {c c' : List Value} {v : Value} (h : rd agg n c off = some v) (hp : c <+: c') : rd agg n c' off = some v := by
  obtain ⟨t, rfl⟩ := hp
  cases agg with
  | true =>
    simp only [rd] at h ⊢
    split at h
    · rename_i hl
      simp at h
      subst h
      rw [if_pos (by simp; omega)]
      simp only [Option.some.injEq, Value.agg.injEq]
      rw [List.drop_append_of_le_length (by omega), List.take_append_of_le_length (by simp; omega)]
    · simp at h
  | false =>
    simp only [rd] at h ⊢
    rw [List.getElem?_append_left (List.getElem?_eq_some_iff.1 h).1]
    exact h

/-- How a struct's values are held against each other: its parts, each with its place. -/
inductive EK where
  | i | b | st (fs : List (Bool × Nat × Nat × EK))

mutual
def eqV : EK → Value → Value → Option Bool
  | .i, .int k a, .int j b => if k = j then some (decide (a = b)) else none
  | .b, .bool a, .bool b => some (a == b)
  | .st fs, .agg xs, .agg ys => eqFs fs xs.toList ys.toList
  | _, _, _ => none
def eqFs : List (Bool × Nat × Nat × EK) → List Value → List Value → Option Bool
  | [], _, _ => some true
  | (agg, off, n, e) :: fs, xs, ys => match rd agg n xs off, rd agg n ys off with
    | some a, some b => match eqV e a b, eqFs fs xs ys with
      | some r, some s => some (r && s)
      | _, _ => none
    | _, _ => none
end

inductive PK where
  | eqs (e : EK) (neg : Bool) (x y : Operand)
  | mv (x : Operand)
  | pick (c a b : Operand)
  | bin (o : BinOp) (x y : Operand)
  | eqb (neg : Bool) (x y : Operand)
  | un (o : UnOp) (x : Operand)
  | cv (k : IntKind) (x : Operand)
  | fa (off : Nat) (x : Operand)
  | ia (es : Nat) (x i : Operand)
  | iaa (len es : Nat) (x i : Operand)
  | fd (agg : Bool) (off n : Nat) (x : Operand)
  | ix (agg : Bool) (len es : Nat) (x i : Operand)
  | ld (agg : Bool) (n : Nat) (x : Operand)
  | bd (zero : List Value) (parts : List (Nat × Nat × Operand))
  | ex (x : Operand) (i : Nat)
  | mf (fn : Fn) (first captured : List Operand)
  | sl (es : Nat) (x : Operand) (lo hi : Option Operand)
  | ln (x : Operand)
  | ls (x : Operand)
  | mx (xs : List Operand)
  | mn (xs : List Operand)
  | nc (x : Operand)

def fillV : List Value → List (Nat × Nat × Value) → Option (List Value)
  | cs, [] => some cs
  | cs, (off, n, v) :: rest =>
    if v.cells.size = n ∧ off + n ≤ cs.length then fillV (cs.take off ++ v.cells.toList ++ cs.drop (off + n)) rest else none

def evParts (σ : Env) : List (Nat × Nat × Operand) → Option (List (Nat × Nat × Value))
  | [] => some []
  | (o, n, x) :: l => (ev σ x).bind fun v => (evParts σ l).bind fun vs => some ((o, n, v) :: vs)

def maxV : Int → List Value → Option Int
  | a, [] => some a
  | a, .int .i64 b :: l => maxV (if b > a then b else a) l
  | _, _ => none
def minV : Int → List Value → Option Int
  | a, [] => some a
  | a, .int .i64 b :: l => minV (if b < a then b else a) l
  | _, _ => none

def fnV : Option (List Value) → Fn → Option (List Value) → Option Value
  | some f, fn, some c => some (.func fn f.toArray c.toArray)
  | _, _, _ => none

def PK.val (σ : Env) (F : Fz) (M : Hp) : PK → Option Value
  | .mv x => ev σ x
  | .pick c a b => match ev σ c with
    | some (.bool t) => if t = true then ev σ a else ev σ b
    | _ => none
  | .bin o x y => (ev σ x).bind fun u => (ev σ y).bind fun v => binV o u v
  | .eqb neg x y => match ev σ x, ev σ y with
    | some (.bool a), some (.bool b) => some (.bool (xor neg (a == b)))
    | _, _ => none
  | .eqs e neg x y => match ev σ x, ev σ y with
    | some a, some b => (eqV e a b).map fun r => .bool (xor neg r)
    | _, _ => none
  | .un o x => (ev σ x).bind fun u => unV o u
  | .cv k x => match ev σ x with
    | some (.int _ n) => some (.int k (k.wrap n))
    | _ => none
  | .fa off x => match ev σ x with
    | some (.pointer (some ⟨b, o, none⟩)) => some (.pointer (some ⟨b, o + off, none⟩))
    | _ => none
  | .ia es x i => match ev σ x, ev σ i with
    | some (.slice (some ⟨b, o, none⟩) len _), some (.int _ n) => if 0 ≤ n ∧ n < len then some (.pointer (some ⟨b, o + n.toNat * es, none⟩)) else none
    | _, _ => none
  | .iaa len es x i => match ev σ x, ev σ i with
    | some (.pointer (some ⟨b, o, none⟩)), some (.int _ n) => if 0 ≤ n ∧ n < len then some (.pointer (some ⟨b, o + n.toNat * es, none⟩)) else none
    | _, _ => none
  | .fd agg off n x => match ev σ x with
    | some (.agg cs) => rd agg n cs.toList off
    | _ => none
  | .ix agg len es x i => match ev σ x, ev σ i with
    | some (.agg cs), some (.int _ n) => if 0 ≤ n ∧ n < len then rd agg es cs.toList (n.toNat * es) else none
    | _, _ => none
  | .ld agg n x => match ev σ x with
    | some (.pointer (some ⟨b, o, none⟩)) => (blk F M b).bind fun c => rd agg n c o
    | _ => none
  | .bd zero parts => (evParts σ parts).bind fun ps => (fillV zero ps).map fun cs => .agg cs.toArray
  | .ex x i => match ev σ x with
    | some (.tuple vs) => vs[i]?
    | _ => none
  | .mf fn f c => fnV (evs σ f) fn (evs σ c)
  | .sl es x lo hi => match ev σ x, lo.map (ev σ), hi.map (ev σ) with
    | some (.slice a len cap), none, none => some (.slice a len cap)
    | some (.slice a len cap), some (some (.int _ l)), none =>
      if 0 ≤ l ∧ l ≤ len then some (.slice (if (cap : Int) = l then a else a.map (·.add (l.toNat * es))) (len - l.toNat) (cap - l.toNat)) else none
    | some (.slice a len cap), none, some (some (.int _ h)) => if 0 ≤ h ∧ h ≤ len ∧ len ≤ cap then some (.slice a h.toNat cap) else none
    | some (.slice a len cap), some (some (.int _ l)), some (some (.int _ h)) =>
      if 0 ≤ l ∧ l ≤ h ∧ h ≤ len ∧ len ≤ cap then some (.slice (if (cap : Int) = l then a else a.map (·.add (l.toNat * es))) (h.toNat - l.toNat) (cap - l.toNat)) else none
    | _, _, _ => none
  | .ln x => match ev σ x with
    | some (.slice _ n _) => some (.int .i64 n)
    | _ => none
  | .ls x => match ev σ x with
    | some (.string z) => some (.int .i64 z.size)
    | _ => none
  | .mx xs => (evs σ xs).bind fun
    | .int .i64 a :: l => (maxV a l).map (.int .i64)
    | _ => none
  | .mn xs => (evs σ xs).bind fun
    | .int .i64 a :: l => (minV a l).map (.int .i64)
    | _ => none
  | .nc x => match ev σ x with
    | some (.pointer (some a)) => some (.pointer (some a))
    | _ => none

end Go.Ax
