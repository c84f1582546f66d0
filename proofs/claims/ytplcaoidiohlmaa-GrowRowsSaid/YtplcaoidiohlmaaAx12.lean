/- What an input's reading tells of memory: a type's shape, and the cells that have it. -/
import Derived.Test.YtplcaoidiohlmaaAx11
import Derived.SizedLaws
import Derived.ChangeArms
import Derived.DataReads
import Derived.WideReads
namespace Go.Ax
open Go

abbrev Bk := Nat → Option (List Value)

/-- A slice whose elements' cells are these. -/
def Sl (B : Bk) (sz : Nat) (v : Value) (l : List (List Value)) : Prop :=
  ∃ a cap, v = .slice a l.length cap ∧ l.length ≤ cap ∧ cap ≤ maxLen ∧ (a = none → cap = 0) ∧ (∀ x ∈ l, x.length = sz) ∧
    (l = [] ∨ ∃ b o cs, a = some ⟨b, o, none⟩ ∧ B b = some cs ∧ ∀ i x, l[i]? = some x → (cs.drop (o + i * sz)).take sz = x)

inductive Sh where
  | int (k : IntKind)
  | bool
  | str
  | slice (sz bytes : Nat) (e : Sh)
  | nil
  | cons (n : Nat) (a r : Sh)

def Rd (B : Bk) : Sh → List Value → Prop
  | .int k, cs => ∃ n, cs = [.int k n] ∧ (Lit.int k n).wf = true
  | .bool, cs => ∃ b, cs = [.bool b]
  | .str, cs => ∃ z : ByteArray, cs = [.string z] ∧ z.size ≤ reachBytes
  | .slice sz bytes e, cs => ∃ v l, cs = [v] ∧ Sl B sz v l ∧ l.length * bytes ≤ reachBytes ∧ ∀ x ∈ l, Rd B e x
  | .nil, cs => cs = []
  | .cons n a r, cs => (cs.take n).length = n ∧ Rd B a (cs.take n) ∧ Rd B r (cs.drop n)

def shFields (sh : TypeId → Option Sh) (P : Program) : List Field → (pos len : Nat) → Option Sh
  | [], pos, len => if pos = len then some .nil else none
  | f :: fs, pos, len => if f.offset = pos ∧ pos + P.cellsOf f.type ≤ len then
      match sh f.type, shFields sh P fs (pos + P.cellsOf f.type) len with
      | some a, some r => some (.cons (P.cellsOf f.type) a r)
      | _, _ => none
    else none

def shOf (P : Program) : Nat → TypeId → Option Sh
  | 0, _ => none
  | d + 1, t => match P.underlying t with
    | some (.int k) => some (.int k)
    | some .bool => some .bool
    | some .string => some .str
    | some (.slice e) => if 0 < P.cellsOf e then (shOf P d e).map (.slice (P.cellsOf e) (P.bytesOf e)) else none
    | some (.struct fs) => shFields (shOf P d) P fs.toList 0 (P.cellsOf t)
    | _ => none

/-- Blocks of cells, as they lie in a world. -/
def fzOf (w : World) : Fz := fun b => match w.heap[b]? with | some (.cells c _ _) => some c.toList | _ => none
def noHp : Hp := fun _ => none
theorem rel_start (w : World) : Rel (fzOf w) noHp w where
  fz := by
    intro b c h
    unfold fzOf at h
    split at h
    · rename_i c0 e fr hw; cases h; exact ⟨c0, e, fr, hw, List.prefix_refl _⟩
    · cases h
  mu := by intro b n h; simp [noHp] at h
  ap := by intro b h; exact absurd rfl h
theorem blk_noHp (F : Fz) : blk F noHp = F := by funext b; rfl

theorem weights_all {H : Type} {P : Program} {e : TypeId} : ∀ {l : List (DataW H)} {d : DataW H}, d ∈ l → ∀ n ∈ d.weights P e, n ∈ DataW.weightsAll P e l
  | x :: l, d, h, n, hn => by
    simp only [DataW.weightsAll, List.mem_append]
    rcases List.mem_cons.1 h with rfl | h
    · exact .inl hn
    · exact .inr (weights_all h n hn)

section
variable {H : Type} {enc : TypeId × Value → H} {P : Program} {w : World} {sp : Nat → Bool} {held : Bool}

theorem cells_fz {b o n : Nat} {x : List Value} (h : w.cells? 0 ⟨b, o, none⟩ n = some x) (hn : 0 < n) :
    ∃ c, fzOf w b = some c ∧ (c.drop o).take n = x := by
  obtain ⟨_, hl, hc⟩ := World.cells?_some h
  have h0 := hc 0 hn
  rw [List.getElem?_eq_getElem (by omega), Addr.add_lit] at h0
  unfold World.cell? at h0
  split at h0
  · rename_i c e fr hw
    simp only at hw
    refine ⟨c.toList, by simp [fzOf, hw], ?_⟩
    apply List.ext_getElem?
    intro i
    by_cases hi : i < n
    · rw [List.getElem?_take_of_lt hi, List.getElem?_drop, ← hc i hi, Addr.add_lit]
      simp [World.cell?, hw]
    · rw [List.getElem?_eq_none (by simp; omega), List.getElem?_eq_none (by omega)]
  · cases h0

theorem cells_spot {a : Addr} {n : Nat} {x : List Value} (h : w.cells? 0 a n = some x) (hn : 0 < n) : a.spot = none := by
  obtain ⟨_, hl, hc⟩ := World.cells?_some h
  have h0 := hc 0 hn
  rw [List.getElem?_eq_getElem (by omega)] at h0
  have := World.cell?_spot h0
  simpa [Addr.add] using this

theorem rd_fields {sh : TypeId → Option Sh} {d : Nat} (ih : ∀ t s (cs : List Value) y, sh t = some s → DataW.trod enc P w 0 sp held d t cs = some y → (∀ n ∈ y.1.weights P t, n ≤ reachBytes) → Rd (fzOf w) s cs) :
    ∀ (fs : List Field) (pos : Nat) (s : Sh) (cs : List Value) (ys : List (DataW H × List MemPlace)), shFields sh P fs pos cs.length = some s → ys.length = fs.length →
      (∀ (i : Nat) (f : Field), fs[i]? = some f → DataW.trod enc P w 0 sp held d f.type ((cs.drop f.offset).take (P.cellsOf f.type)) = ys[i]?) →
      (∀ n ∈ DataW.weightsEach P (fs.map (·.type)) (ys.map (·.1)), n ≤ reachBytes) → pos ≤ cs.length → Rd (fzOf w) s (cs.drop pos)
  | [], pos, s, cs, ys, hs, _, _, _, hp => by
    simp only [shFields] at hs
    split at hs
    · cases hs; subst pos; simp [Rd]
    · cases hs
  | f :: fs, pos, s, cs, ys, hs, hl, hf, hw, hp => by
    simp only [shFields] at hs
    split at hs
    · rename_i ho
      split at hs
      · rename_i a r ha hr
        cases hs
        cases ys with
        | nil => simp at hl
        | cons y ys =>
          have h0 := hf 0 f rfl
          rw [ho.1] at h0
          refine ⟨by simp; omega, ?_, ?_⟩
          · exact ih _ _ _ y ha h0 (fun n hn => hw n (by simp [DataW.weightsEach, hn]))
          · rw [List.drop_drop]
            exact rd_fields ih fs _ r cs ys hr (by simpa using hl) (fun i g hg => by have := hf (i + 1) g (by simpa using hg); simpa using this) (fun n hn => hw n (by simp [DataW.weightsEach, hn])) ho.2
      · cases hs
    · cases hs

theorem rd_of_trod : ∀ (d0 d : Nat) (t : TypeId) (s : Sh) (cs : List Value) (y : DataW H × List MemPlace), shOf P d0 t = some s → DataW.trod enc P w 0 sp held d t cs = some y →
    (∀ n ∈ y.1.weights P t, n ≤ reachBytes) → Rd (fzOf w) s cs
  | 0, _, _, _, _, _, hs, _, _ => by cases hs
  | d0 + 1, d, t, s, cs, y, hs, ht, hw => by
    simp only [shOf] at hs
    split at hs
    · rename_i k hu; cases hs
      obtain ⟨n, h1, _, h2⟩ := DataW.trod_int hu ht
      exact ⟨n, h1, h2⟩
    · rename_i hu; cases hs
      obtain ⟨b, h1, _⟩ := DataW.trod_bool hu ht
      exact ⟨b, h1⟩
    · rename_i hu; cases hs
      obtain ⟨z, h1, h2, _⟩ := DataW.trod_string hu ht
      refine ⟨z, h1, ?_⟩
      have := hw z.data.toList.length (by rw [h2]; simp only [DataW.weights, List.mem_cons, true_or])
      rw [Array.length_toList] at this
      exact this
    · rename_i e hu
      split at hs
      · rename_i hpos
        cases he : shOf P d0 e with
        | none => rw [he] at hs; simp at hs
        | some s' =>
          rw [he] at hs
          simp only [Option.map_some, Option.some.injEq] at hs
          subst hs
          rcases DataW.trod_slice hu ht with ⟨rfl, _⟩ | ⟨a, len, cap, elems, rest, n, _, rfl, rfl, _, hl, hm, hel, hx, _, _⟩
          · exact ⟨_, [], rfl, ⟨none, 0, rfl, Nat.le_refl _, Nat.zero_le _, fun _ => rfl, by simp, .inl rfl⟩, by simp, by simp⟩
          · have key : ∀ i, i < len → ∃ x y, w.cells? 0 (a.add (i * P.cellsOf e)) (P.cellsOf e) = some x ∧ elems[i]? = some y ∧ DataW.trod enc P w 0 sp held n e x = some y := by
              intro i hi
              have h1 := hx i hi
              rw [List.getElem?_eq_getElem (by omega)] at h1
              obtain ⟨x, h2, h3⟩ := Option.bind_eq_some_iff.1 h1
              exact ⟨x, elems[i], h2, List.getElem?_eq_getElem (by omega), h3⟩
            let l : List (List Value) := (List.range len).map fun i => (w.cells? 0 (a.add (i * P.cellsOf e)) (P.cellsOf e)).getD []
            have hll : l.length = len := by simp [l]
            have hget : ∀ i x, l[i]? = some x → i < len ∧ w.cells? 0 (a.add (i * P.cellsOf e)) (P.cellsOf e) = some x := by
              intro i x h
              have hi : i < len := by
                have := (List.getElem?_eq_some_iff.1 h).1
                omega
              obtain ⟨x', _, h2, _⟩ := key i hi
              simp only [l, List.getElem?_map, List.getElem?_range hi, Option.map_some, h2, Option.getD_some, Option.some.injEq] at h
              subst h
              exact ⟨hi, h2⟩
            refine ⟨_, l, rfl, ⟨some a, cap, by rw [hll], by rw [hll]; exact hl, hm, by simp, ?_, ?_⟩, ?_, ?_⟩
            · intro x hx'
              obtain ⟨i, hi⟩ := List.getElem?_of_mem hx'
              exact (World.cells?_some (hget i x hi).2).2.1
            · by_cases h0 : len = 0
              · exact .inl (List.eq_nil_of_length_eq_zero (by omega))
              · refine .inr ?_
                obtain ⟨x0, _, h2, _⟩ := key 0 (by omega)
                obtain ⟨b, o, spt⟩ := a
                have hsp : spt = none := by have := cells_spot h2 hpos; simpa [Addr.add] using this
                subst hsp
                rw [Addr.add_lit] at h2
                obtain ⟨c, hc, _⟩ := cells_fz h2 hpos
                refine ⟨b, o, c, rfl, hc, fun i x hi => ?_⟩
                obtain ⟨_, h3⟩ := hget i x hi
                rw [Addr.add_lit] at h3
                obtain ⟨c', hc', h4⟩ := cells_fz h3 hpos
                rw [hc] at hc'
                cases hc'
                exact h4
            · have := hw ((elems.length + rest.length) * P.bytesOf e) (by simp [DataW.weights, hu])
              refine Nat.le_trans (Nat.mul_le_mul_right _ ?_) this
              omega
            · intro x hx'
              obtain ⟨i, hi⟩ := List.getElem?_of_mem hx'
              obtain ⟨h3, h4⟩ := hget i x hi
              obtain ⟨x', y', h5, h6, h7⟩ := key i h3
              rw [h4] at h5
              cases h5
              refine rd_of_trod d0 n e s' x y' he h7 fun q hq => hw q ?_
              have hy : y'.1 ∈ elems.map (·.1) := List.mem_map_of_mem (List.mem_of_getElem? h6)
              simp [DataW.weights, hu]
              exact .inr (.inl (by simpa using weights_all hy q hq))
      · cases hs
    · rename_i fs hu
      obtain ⟨xs, n, rfl, rfl, hlen, hxl, hf⟩ := DataW.trod_struct hu ht
      rw [← hlen] at hs
      have := rd_fields (fun t s cs y h1 h2 h3 => rd_of_trod d0 n t s cs y h1 h2 h3) fs.toList 0 s cs xs hs (by simpa using hxl) (fun i f h => hf i f (by simpa using h)) (fun q hq => hw q (by simpa [DataW.weights, hu] using hq)) (Nat.zero_le _)
      simpa using this
    · cases hs
end
end Go.Ax
