/- From the machine's operations to the small ones, with types looked up; and that what is told is what the machine does. -/
import Derived.Test.YtplcaoidiohlmaaAx1
import Derived.Laws.Shifts
namespace Go.Ax
open Go
set_option linter.unusedSimpArgs false

def aggT (P : Program) (t : TypeId) : Option Bool :=
  match P.underlying t with
  | some (.struct _) | some (.array _ _) => some true
  | some _ => some false
  | none => none
def sizeT (P : Program) (t : TypeId) : Option Nat := (P.info? t).map (·.size)
def zeroT (P : Program) (t : TypeId) : Option (List Value) := ((P.info? t).bind (·.zero)).map (·.cells.toList)
def elemT (P : Program) (t : TypeId) : Option TypeId := match P.underlying t with | some (.slice e) => some e | _ => none
def arrT (P : Program) (t : TypeId) : Option (Nat × TypeId) := match P.underlying t with | some (.array n e) => some (n, e) | _ => none
def fieldT (P : Program) (t : TypeId) (i : Nat) : Option Field := match P.underlying t with | some (.struct fs) => fs[i]? | _ => none

theorem run_isAgg {P : Program} {t : TypeId} {b : Bool} (h : aggT P t = some b) (w : World) : (isAgg t).run P w = .ok b w := by
  unfold aggT at h
  cases hd : P.underlying t with
  | none => simp [hd] at h
  | some d => cases d <;> simp [hd] at h <;> subst h <;> simp [isAgg, run_underlying hd]
theorem run_sizeOf {P : Program} {t : TypeId} {n : Nat} (h : sizeT P t = some n) (w : World) : (sizeOf t).run P w = .ok n w := by
  unfold sizeT at h
  cases hi : P.info? t with
  | none => simp [hi] at h
  | some i => simp [hi] at h; subst h; simp [sizeOf, typeInfo, hi]
theorem run_zeroValue {P : Program} {t : TypeId} {z : List Value} (h : zeroT P t = some z) (w : World) : ∃ v, (zeroValue t).run P w = .ok v w ∧ v.cells.toList = z := by
  unfold zeroT at h
  cases hi : P.info? t with
  | none => simp [hi] at h
  | some i =>
    cases hz : i.zero with
    | none => simp [hi, hz] at h
    | some v => simp [hi, hz] at h; exact ⟨v, by simp [zeroValue, typeInfo, hi, hz], h⟩

theorem run_part {P : Program} {t : TypeId} {b : Bool} {n off : Nat} {cs : Array Value} {v : Value} (hb : aggT P t = some b) (hn : sizeT P t = some n)
    (h : rd b n cs.toList off = some v) (w : World) : (part t cs off).run P w = .ok v w := by
  cases b with
  | true =>
    simp only [rd] at h
    split at h
    · simp at h
      subst h
      simp only [part, Sem.run_bind, run_isAgg hb, Result.andThen_ok, if_true, run_sizeOf hn, Sem.run_pure]
      congr 2
      apply Array.ext'
      simp [List.drop_take]
    · simp at h
  | false =>
    simp only [rd] at h
    have h' : cs[off]? = some v := by simpa using h
    simp [part, run_isAgg hb, h']

theorem run_loadVar {P : Program} {t : TypeId} {b : Bool} {n : Nat} {F : Fz} {M : Hp} {w : World} (hr : Rel F M w) {g o : Nat} {c : List Value} {v : Value}
    (hb : aggT P t = some b) (hn : sizeT P t = some n) (hc : blk F M g = some c) (h : rd b n c o = some v) : (loadVar t ⟨g, o, none⟩).run P w = .ok v w := by
  cases b with
  | true =>
    simp only [rd] at h
    split at h
    · rename_i hl
      simp at h
      subst h
      have hlen : ((c.drop o).take n).length = n := by simp; omega
      have := run_loadCells_list (P := P) w ⟨g, o, none⟩ ((c.drop o).take n) (fun j u hj => by
        rw [Addr.add_lit]
        refine hr.cell hc ?_
        rw [List.getElem?_take] at hj
        split at hj
        · rw [List.getElem?_drop] at hj; exact hj
        · simp at hj)
      rw [hlen] at this
      simp [loadVar, run_isAgg hb, run_sizeOf hn, this]
    · simp at h
  | false =>
    simp only [rd] at h
    simp [loadVar, run_isAgg hb, hr.cell hc h]

def fieldsT (P : Program) (fs : List Field) : Option (List (Nat × Nat)) := fs.mapM fun f => (P.info? f.type).map fun i => (f.offset, i.size)
def placesT (ls : List (Nat × Nat)) : List (Nat × Operand) → Option (List (Nat × Nat × Operand))
  | [] => some []
  | (i, x) :: l => match ls[i]? with
    | some (o, n) => (placesT ls l).map fun ps => (o, n, x) :: ps
    | none => none

/-- The shape of a type's values that can be held against each other leaf by leaf. -/
def eqTs (P : Program) (rec : TypeId → Option EK) : List Field → Option (List (Bool × Nat × Nat × EK))
  | [] => some []
  | f :: fs => if f.name = "_" then none else match aggT P f.type, sizeT P f.type, rec f.type, eqTs P rec fs with
    | some b, some n, some e, some es => some ((b, f.offset, n, e) :: es)
    | _, _, _, _ => none
def eqT (P : Program) : Nat → TypeId → Option EK
  | 0, _ => none
  | d + 1, t => match P.underlying t with
    | some (.int _) => some .i
    | some .bool => some .b
    | some (.struct fs) => if P.stoodInHeld t = true then none else (eqTs P (eqT P d) fs.toList).map .st
    | _ => none

def slimB (P : Program) : Callee → List Operand → List TypeId → Option PK
  | .builtin .len, [x], [t] => match P.underlying t with
    | some (.slice _) => some (.ln x)
    | some .string => some (.ls x)
    | _ => none
  | .builtin .max, xs, _ => some (.mx xs)
  | .builtin .min, xs, _ => some (.mn xs)
  | _, _, _ => none

/-- The small operation, if it is one that only computes or reads. -/
def slimP (P : Program) : Op → Option PK
  | .move x | .assign x => some (.mv x)
  | .pick c a b => some (.pick c a b)
  | .binOp o t x y _ => match P.underlying t with
    | some (.int _) => some (.bin o x y)
    | some .bool => match o with
      | .eql => some (.eqb false x y)
      | .neq => some (.eqb true x y)
      | _ => none
    | some (.struct _) => if P.eqGuardType P.depth t = true then none else match o with
      | .eql => (eqT P 9 t).map fun e => .eqs e false x y
      | .neq => (eqT P 9 t).map fun e => .eqs e true x y
      | _ => none
    | _ => none
  | .unOp o _ x => some (.un o x)
  | .convert s d x => match P.underlying s, P.underlying d with
    | some (.int _), some (.int k) => some (.cv k x)
    | _, _ => none
  | .fieldAddr s x f => (fieldT P s f).bind fun fd => (sizeT P fd.type).bind fun n => if n = 0 then none else some (.fa fd.offset x)
  | .indexAddr t x i => match elemT P t with
    | some e => (sizeT P e).map fun es => .ia es x i
    | none => (arrT P t).bind fun ne => (sizeT P ne.2).map fun es => .iaa ne.1 es x i
  | .field t x f => (fieldT P t f).bind fun fd => (aggT P fd.type).bind fun b => (sizeT P fd.type).map fun n => .fd b fd.offset n x
  | .index t x i => (arrT P t).bind fun ne => (aggT P ne.2).bind fun b => (sizeT P ne.2).map fun es => .ix b ne.1 es x i
  | .load t a => (aggT P t).bind fun b => (sizeT P t).map fun n => .ld b n a
  | .build t parts => (zeroT P t).bind fun z => match P.underlying t with
    | some (.struct fs) => (fieldsT P fs.toList).bind fun ls => (placesT ls parts.toList).map fun ps => .bd z ps
    | some (.array _ e) => (sizeT P e).map fun n => .bd z (parts.toList.map fun (i, x) => (i * n, n, x))
    | _ => none
  | .extract x i => some (.ex x i)
  | .makeFunc fn f c => some (.mf fn f.toList c.toList)
  | .slice t x lo hi none => (elemT P t).bind fun e => (sizeT P e).map fun es => .sl es x lo hi
  | .nilCheck x => some (.nc x)
  | .call c => slimB P c.callee c.args.toList c.argTypes.toList
  | _ => none

theorem fillV_sound (place : Nat → Option (Nat × Nat)) : ∀ (l : List (Nat × Value)) (ps : List (Nat × Nat × Value)) (cs : Array Value) (r : List Value),
    l.length = ps.length → (∀ (j i : Nat) (v : Value), l[j]? = some (i, v) → ∃ o n, place i = some (o, n) ∧ ps[j]? = some (o, n, v)) → fillV cs.toList ps = some r →
    Instr.fill place cs l = some r.toArray := by
  intro l
  induction l with
  | nil =>
    intro ps cs r hl _ h
    cases ps with
    | nil => simp [fillV] at h; subst h; simp [Instr.fill]
    | cons p ps => simp at hl
  | cons x l ih =>
    intro ps cs r hl hp h
    cases ps with
    | nil => simp at hl
    | cons p ps =>
      obtain ⟨i, v⟩ := x
      obtain ⟨o, n, hpl, hpe⟩ := hp 0 i v (by simp)
      simp at hpe
      subst hpe
      simp only [fillV] at h
      split at h
      · rename_i hc
        obtain ⟨hv, hlen⟩ := hc
        have hb : (v.cells.size ≠ n || decide (o + v.cells.size > cs.size)) = false := by
          simp at hlen; simp [hv]; omega
        simp only [Instr.fill, hpl]
        rw [hb]
        simp only [Bool.false_eq_true, if_false]
        refine ih ps _ r (by simpa using hl) (fun j k u hj => hp (j + 1) k u (by simpa using hj)) ?_
        rw [← h]
        congr 1
        have key : ∀ (us : List Value) (m : Nat) (ds : Array Value), o + m + us.length ≤ ds.size →
            ((us.zipIdx m).foldl (fun cs (c, j) => cs.setIfInBounds (o + j) c) ds).toList = ds.toList.take (o + m) ++ us ++ ds.toList.drop (o + m + us.length) := by
          intro us
          induction us with
          | nil => intro m ds _; simp
          | cons u us ihu =>
            intro m ds hds
            simp only [List.length_cons] at hds
            simp only [List.zipIdx_cons, List.foldl_cons]
            rw [ihu (m + 1) _ (by simp; omega)]
            simp only [Array.toList_setIfInBounds, List.length_cons]
            have e1 : (ds.toList.set (o + m) u).take (o + (m + 1)) = ds.toList.take (o + m) ++ [u] := by
              rw [show o + (m + 1) = (o + m) + 1 by omega, List.take_add_one, List.getElem?_set_self (by simp; omega), List.take_set_of_le (by omega)]
              rfl
            have e2 : (ds.toList.set (o + m) u).drop (o + (m + 1) + us.length) = ds.toList.drop (o + m + (us.length + 1)) := by
              rw [List.drop_set_of_lt (by omega)]
              congr 1
              omega
            rw [e1, e2]
            simp
        have := key v.cells.toList 0 cs (by simp at hlen; simp [hv]; omega)
        simp only [Nat.add_zero, Array.length_toList, hv] at this
        rw [← Array.foldl_toList, Array.toList_zipIdx]
        exact this
      · simp at h

end Go.Ax
