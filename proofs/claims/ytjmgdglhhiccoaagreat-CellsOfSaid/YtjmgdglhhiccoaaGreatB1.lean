/- Parts B1: the machine's runs of small codes, contracts of functions, plain facts. -/
import Derived.SizedLaws
import Derived.ChangeArms
import Derived.DataReads
import Derived.WideReads
import Derived.RowKit
import Derived.Test.YtjmgdglhhiccoaaGreatS3
namespace Go.Ax
open Go
abbrev Bk := Nat → Option (List Value)
def Sl (B : Bk) (sz : Nat) (v : Value) (l : List (List Value)) : Prop :=
  ∃ a cap, v = .slice a l.length cap ∧ l.length ≤ cap ∧ cap ≤ maxLen ∧ (a = none → cap = 0) ∧ (∀ x ∈ l, x.length = sz) ∧
    (l = [] ∨ ∃ b o cs, a = some ⟨b, o, none⟩ ∧ B b = some cs ∧ ∀ i x, l[i]? = some x → (cs.drop (o + i * sz)).take sz = x)
inductive Sh where
  | int (k : IntKind)
  | bool
  | str
  | slice (sz bytes : Nat) (e : Sh)
  | nil
  | cons (n : Nat) (a r : Sh)
def Rd (B : Bk) : Sh → List Value → Prop
  | .int k, cs => ∃ n, cs = [.int k n] ∧ (Lit.int k n).wf = true
  | .bool, cs => ∃ b, cs = [.bool b]
  | .str, cs => ∃ z : ByteArray, cs = [.string z] ∧ z.size ≤ reachBytes
  | .slice sz bytes e, cs => ∃ v l, cs = [v] ∧ Sl B sz v l ∧ l.length * bytes ≤ reachBytes ∧ ∀ x ∈ l, Rd B e x
  | .nil, cs => cs = []
  | .cons n a r, cs => (cs.take n).length = n ∧ Rd B a (cs.take n) ∧ Rd B r (cs.drop n)
def shFields (sh : TypeId → Option Sh) (P : Program) : List Field → (pos len : Nat) → Option Sh
  | [], pos, len => if pos = len then some .nil else none
  | f :: fs, pos, len => if f.offset = pos ∧ pos + P.cellsOf f.type ≤ len then
      match sh f.type, shFields sh P fs (pos + P.cellsOf f.type) len with
      | some a, some r => some (.cons (P.cellsOf f.type) a r)
      | _, _ => none
    else none
def shOf (P : Program) : Nat → TypeId → Option Sh
  | 0, _ => none
  | d + 1, t => match P.underlying t with
    | some (.int k) => some (.int k)
    | some .bool => some .bool
    | some .string => some .str
    | some (.slice e) => if 0 < P.cellsOf e then (shOf P d e).map (.slice (P.cellsOf e) (P.bytesOf e)) else none
    | some (.struct fs) => shFields (shOf P d) P fs.toList 0 (P.cellsOf t)
    | _ => none
def fzOf (w : World) : Fz := ⟨fun b => match w.heap[b]? with | some (.cells c _ _) => some c.toList | _ => none, fun _ => none⟩
def noHp : Hp := fun _ => none
theorem rel_start (w : World) : Rel (fzOf w) noHp w where
  mp := fun b l h => by cases h
  fz := by
    intro b c h
    unfold fzOf at h
    simp only [] at h
    split at h
    · rename_i c0 e fr hw; cases h; exact ⟨c0, e, fr, hw, List.prefix_refl _⟩
    · cases h
  mu := by intro b n h; simp [noHp] at h
  ap := by intro b h; exact absurd rfl h
theorem weights_all {H : Type} {P : Program} {e : TypeId} : ∀ {l : List (DataW H)} {d : DataW H}, d ∈ l → ∀ n ∈ d.weights P e, n ∈ DataW.weightsAll P e l
  | x :: l, d, h, n, hn => by
    simp only [DataW.weightsAll, List.mem_append]
    rcases List.mem_cons.1 h with rfl | h
    · exact .inl hn
    · exact .inr (weights_all h n hn)
section
variable {H : Type} {enc : TypeId × Value → H} {P : Program} {w : World} {sp : Nat → Bool} {held : Bool}
theorem cells_fz {b o n : Nat} {x : List Value} (h : w.cells? 0 ⟨b, o, none⟩ n = some x) (hn : 0 < n) :
    ∃ c, fzOf w b = some c ∧ (c.drop o).take n = x := by
  obtain ⟨_, hl, hc⟩ := World.cells?_some h
  have h0 := hc 0 hn
  rw [List.getElem?_eq_getElem (by omega), Addr.add_lit] at h0
  unfold World.cell? at h0
  split at h0
  · rename_i c e fr hw
    simp only at hw
    refine ⟨c.toList, by simp [fzOf, hw], ?_⟩
    apply List.ext_getElem?
    intro i
    by_cases hi : i < n
    · rw [List.getElem?_take_of_lt hi, List.getElem?_drop, ← hc i hi, Addr.add_lit]
      simp [World.cell?, hw]
    · rw [List.getElem?_eq_none (by simp; omega), List.getElem?_eq_none (by omega)]
  · cases h0
theorem cells_spot {a : Addr} {n : Nat} {x : List Value} (h : w.cells? 0 a n = some x) (hn : 0 < n) : a.spot = none := by
  obtain ⟨_, hl, hc⟩ := World.cells?_some h
  have h0 := hc 0 hn
  rw [List.getElem?_eq_getElem (by omega)] at h0
  have := World.cell?_spot h0
  simpa [Addr.add] using this
theorem rd_fields {sh : TypeId → Option Sh} {d : Nat} (ih : ∀ t s (cs : List Value) y, sh t = some s → DataW.trod enc P w 0 sp held d t cs = some y → (∀ n ∈ y.1.weights P t, n ≤ reachBytes) → Rd (fzOf w) s cs) :
    ∀ (fs : List Field) (pos : Nat) (s : Sh) (cs : List Value) (ys : List (DataW H × List MemPlace)), shFields sh P fs pos cs.length = some s → ys.length = fs.length →
      (∀ (i : Nat) (f : Field), fs[i]? = some f → DataW.trod enc P w 0 sp held d f.type ((cs.drop f.offset).take (P.cellsOf f.type)) = ys[i]?) →
      (∀ n ∈ DataW.weightsEach P (fs.map (·.type)) (ys.map (·.1)), n ≤ reachBytes) → pos ≤ cs.length → Rd (fzOf w) s (cs.drop pos)
  | [], pos, s, cs, ys, hs, _, _, _, hp => by
    simp only [shFields] at hs
    split at hs
    · cases hs; subst pos; simp [Rd]
    · cases hs
  | f :: fs, pos, s, cs, ys, hs, hl, hf, hw, hp => by
    simp only [shFields] at hs
    split at hs
    · rename_i ho
      split at hs
      · rename_i a r ha hr
        cases hs
        cases ys with
        | nil => simp at hl
        | cons y ys =>
          have h0 := hf 0 f rfl
          rw [ho.1] at h0
          refine ⟨by simp; omega, ?_, ?_⟩
          · exact ih _ _ _ y ha h0 (fun n hn => hw n (by simp [DataW.weightsEach, hn]))
          · rw [List.drop_drop]
            exact rd_fields ih fs _ r cs ys hr (by simpa using hl) (fun i g hg => by have := hf (i + 1) g (by simpa using hg); simpa using this) (fun n hn => hw n (by simp [DataW.weightsEach, hn])) ho.2
      · cases hs
    · cases hs
theorem rd_of_trod : ∀ (d0 d : Nat) (t : TypeId) (s : Sh) (cs : List Value) (y : DataW H × List MemPlace), shOf P d0 t = some s → DataW.trod enc P w 0 sp held d t cs = some y →
    (∀ n ∈ y.1.weights P t, n ≤ reachBytes) → Rd (fzOf w) s cs
  | 0, _, _, _, _, _, hs, _, _ => by cases hs
  | d0 + 1, d, t, s, cs, y, hs, ht, hw => by
    simp only [shOf] at hs
    split at hs
    · rename_i k hu; cases hs
      obtain ⟨n, h1, _, h2⟩ := DataW.trod_int hu ht
      exact ⟨n, h1, h2⟩
    · rename_i hu; cases hs
      obtain ⟨b, h1, _⟩ := DataW.trod_bool hu ht
      exact ⟨b, h1⟩
    · rename_i hu; cases hs
      obtain ⟨z, h1, h2, _⟩ := DataW.trod_string hu ht
      refine ⟨z, h1, ?_⟩
      have := hw z.data.toList.length (by rw [h2]; simp only [DataW.weights, List.mem_cons, true_or])
      rw [Array.length_toList] at this
      exact this
    · rename_i e hu
      split at hs
      · rename_i hpos
        cases he : shOf P d0 e with
        | none => rw [he] at hs; simp at hs
        | some s' =>
          rw [he] at hs
          simp only [Option.map_some, Option.some.injEq] at hs
          subst hs
          rcases DataW.trod_slice hu ht with ⟨rfl, _⟩ | ⟨a, len, cap, elems, rest, n, _, rfl, rfl, _, hl, hm, hel, hx, _, _⟩
          · exact ⟨_, [], rfl, ⟨none, 0, rfl, Nat.le_refl _, Nat.zero_le _, fun _ => rfl, by simp, .inl rfl⟩, by simp, by simp⟩
          · have key : ∀ i, i < len → ∃ x y, w.cells? 0 (a.add (i * P.cellsOf e)) (P.cellsOf e) = some x ∧ elems[i]? = some y ∧ DataW.trod enc P w 0 sp held n e x = some y := by
              intro i hi
              have h1 := hx i hi
              rw [List.getElem?_eq_getElem (by omega)] at h1
              obtain ⟨x, h2, h3⟩ := Option.bind_eq_some_iff.1 h1
              exact ⟨x, elems[i], h2, List.getElem?_eq_getElem (by omega), h3⟩
            let l : List (List Value) := (List.range len).map fun i => (w.cells? 0 (a.add (i * P.cellsOf e)) (P.cellsOf e)).getD []
            have hll : l.length = len := by simp [l]
            have hget : ∀ i x, l[i]? = some x → i < len ∧ w.cells? 0 (a.add (i * P.cellsOf e)) (P.cellsOf e) = some x := by
              intro i x h
              have hi : i < len := by
                have := (List.getElem?_eq_some_iff.1 h).1
                omega
              obtain ⟨x', _, h2, _⟩ := key i hi
              simp only [l, List.getElem?_map, List.getElem?_range hi, Option.map_some, h2, Option.getD_some, Option.some.injEq] at h
              subst h
              exact ⟨hi, h2⟩
            refine ⟨_, l, rfl, ⟨some a, cap, by rw [hll], by rw [hll]; exact hl, hm, by simp, ?_, ?_⟩, ?_, ?_⟩
            · intro x hx'
              obtain ⟨i, hi⟩ := List.getElem?_of_mem hx'
              exact (World.cells?_some (hget i x hi).2).2.1
            · by_cases h0 : len = 0
              · exact .inl (List.eq_nil_of_length_eq_zero (by omega))
              · refine .inr ?_
                obtain ⟨x0, _, h2, _⟩ := key 0 (by omega)
                obtain ⟨b, o, spt⟩ := a
                have hsp : spt = none := by have := cells_spot h2 hpos; simpa [Addr.add] using this
                subst hsp
                rw [Addr.add_lit] at h2
                obtain ⟨c, hc, _⟩ := cells_fz h2 hpos
                refine ⟨b, o, c, rfl, hc, fun i x hi => ?_⟩
                obtain ⟨_, h3⟩ := hget i x hi
                rw [Addr.add_lit] at h3
                obtain ⟨c', hc', h4⟩ := cells_fz h3 hpos
                rw [hc] at hc'
                cases hc'
                exact h4
            · have := hw ((elems.length + rest.length) * P.bytesOf e) (by simp [DataW.weights, hu])
              refine Nat.le_trans (Nat.mul_le_mul_right _ ?_) this
              omega
            · intro x hx'
              obtain ⟨i, hi⟩ := List.getElem?_of_mem hx'
              obtain ⟨h3, h4⟩ := hget i x hi
              obtain ⟨x', y', h5, h6, h7⟩ := key i h3
              rw [h4] at h5
              cases h5
              refine rd_of_trod d0 n e s' x y' he h7 fun q hq => hw q ?_
              have hy : y'.1 ∈ elems.map (·.1) := List.mem_map_of_mem (List.mem_of_getElem? h6)
              simp [DataW.weights, hu]
              exact .inr (.inl (by simpa using weights_all hy q hq))
      · cases hs
    · rename_i fs hu
      obtain ⟨xs, n, rfl, rfl, hlen, hxl, hf⟩ := DataW.trod_struct hu ht
      rw [← hlen] at hs
      have := rd_fields (fun t s cs y h1 h2 h3 => rd_of_trod d0 n t s cs y h1 h2 h3) fs.toList 0 s cs xs hs (by simpa using hxl) (fun i f h => hf i f (by simpa using h)) (fun q hq => hw q (by simpa [DataW.weights, hu] using hq)) (Nat.zero_le _)
      simpa using this
    · cases hs
end
end Go.Ax
namespace Go.Ax
open Go
set_option linter.unusedVariables false
@[go_sem] theorem gK_undef {P : Program} {s : Bool} {d : Option Nat} {l : List SO} {K : Env → Fz → Hp → Prop} {σ : Env} {F : Fz} {M : Hp} {w : Bool} {k : SK} :
    gK P s d l K σ F M w k (some undef) = opsW P s l K (put σ d undef) F M := by simp [gK, undef]
structure V where
  w : Int
  no : Bool
  low : Int
  high : Int
  free : Int
  bits : Int
instance V.dec : DecidableEq V := fun a b => decidable_of_iff (a.w = b.w ∧ a.no = b.no ∧ a.low = b.low ∧ a.high = b.high ∧ a.free = b.free ∧ a.bits = b.bits) (by
  cases a; cases b; simp)
def V.cs (v : V) : List Value := [.int .i64 v.w, .bool v.no, .int .i64 v.low, .int .i64 v.high, .int .i64 v.free, .int .i64 v.bits]
def V.val (v : V) : Value := .agg v.cs.toArray
def V.zero : V := ⟨0, false, 0, 0, 0, 0⟩
theorem decEq_V (a b : V) : decide (a = b) = (decide (a.w = b.w) && ((a.no == b.no) && (decide (a.low = b.low) && (decide (a.high = b.high) && (decide (a.free = b.free) && (decide (a.bits = b.bits) && true)))))) := by
  apply Bool.eq_iff_iff.2
  cases a; cases b
  simp
@[go_sem] theorem V.fold {a c d e f : Int} {b : Bool} : Value.agg [.int .i64 a, .bool b, .int .i64 c, .int .i64 d, .int .i64 e, .int .i64 f].toArray = V.val ⟨a, b, c, d, e, f⟩ := rfl
@[go_sem] theorem cells_int {k : IntKind} {n : Int} : (Value.int k n).cells = #[.int k n] := rfl
@[go_sem] theorem cells_bool {b : Bool} : (Value.bool b).cells = #[.bool b] := rfl
@[go_sem] theorem cells_slice {a : Option Addr} {n c : Nat} : (Value.slice a n c).cells = #[.slice a n c] := rfl
@[go_sem] theorem cells_ptr {a : Option Addr} : (Value.pointer a).cells = #[.pointer a] := rfl
@[go_sem] theorem cells_str {z : ByteArray} : (Value.string z).cells = #[.string z] := rfl
@[go_sem] theorem cells_agg {cs : Array Value} : (Value.agg cs).cells = cs := rfl
@[go_sem] theorem arr_list {l : List Value} : l.toArray.toList = l := rfl
@[go_sem] theorem V.cells_m {v : V} : Value.cells.match_1 (fun _ => Array Value) v.val (fun cs => cs) (fun u => #[u]) = v.cs.toArray := rfl
@[go_sem] theorem V.cells_val {v : V} : v.val.cells = v.cs.toArray := rfl
@[go_sem] theorem V.cs_size {v : V} : v.cs.toArray.size = 6 := rfl
@[go_sem] theorem V.cs_len {v : V} : v.cs.length = 6 := rfl
@[go_sem] theorem plain_nil : plainCells [] = True := by simp [plainCells]
@[go_sem] theorem plain_int {k : IntKind} {n : Int} {l : List Value} : plainCells (.int k n :: l) = plainCells l := by simp [plainCells, Value.oneCell']
@[go_sem] theorem plain_bool {b : Bool} {l : List Value} : plainCells (.bool b :: l) = plainCells l := by simp [plainCells, Value.oneCell']
@[go_sem] theorem plain_slice {a : Option Addr} {n c : Nat} {l : List Value} : plainCells (.slice a n c :: l) = plainCells l := by simp [plainCells, Value.oneCell']
@[go_sem] theorem plain_ptr {a : Option Addr} {l : List Value} : plainCells (.pointer a :: l) = plainCells l := by simp [plainCells, Value.oneCell']
@[go_sem] theorem plain_str {z : ByteArray} {l : List Value} : plainCells (.string z :: l) = plainCells l := by simp [plainCells, Value.oneCell']
@[go_sem] theorem V.cs_plain {v : V} : plainCells v.cs = True := by
  apply eq_true
  intro u hu
  simp only [V.cs, List.mem_cons, List.not_mem_nil, or_false] at hu
  rcases hu with rfl | rfl | rfl | rfl | rfl | rfl <;> rfl
@[go_sem] theorem V.take6 {v : V} : v.cs.take 6 = v.cs := rfl
@[go_sem] theorem V.fold2 {v : V} : Value.agg v.cs.toArray = v.val := rfl
@[go_sem] theorem V.take0 {v : V} : v.cs.take 0 = [] := rfl
@[go_sem] theorem V.drop6 {v : V} : v.cs.drop 6 = [] := rfl
@[go_sem] theorem drop_six {a b c d e f : Value} : [a, b, c, d, e, f].drop 6 = [] := rfl
@[go_sem] theorem drop_two {a b : Value} : [a, b].drop 2 = [] := rfl
@[go_sem] theorem no_flags {p : Nat → Prop} : (∀ t ∈ ([] : List Nat), p t) = True := by simp
@[go_sem] theorem V.get0 {v : V} : v.cs[0]? = some (.int .i64 v.w) := rfl
@[go_sem] theorem V.get1 {v : V} : v.cs[1]? = some (.bool v.no) := rfl
@[go_sem] theorem V.get2 {v : V} : v.cs[2]? = some (.int .i64 v.low) := rfl
@[go_sem] theorem V.get3 {v : V} : v.cs[3]? = some (.int .i64 v.high) := rfl
@[go_sem] theorem V.get4 {v : V} : v.cs[4]? = some (.int .i64 v.free) := rfl
@[go_sem] theorem V.get5 {v : V} : v.cs[5]? = some (.int .i64 v.bits) := rfl
@[go_sem] theorem V.ld {v : V} : rd true 6 v.cs 0 = some v.val := rfl
@[go_sem] theorem V.ld0 {v : V} : rd false 1 v.cs 0 = some (.int .i64 v.w) := rfl
@[go_sem] theorem V.ld1 {v : V} : rd false 1 v.cs 1 = some (.bool v.no) := rfl
@[go_sem] theorem V.ld2 {v : V} : rd false 1 v.cs 2 = some (.int .i64 v.low) := rfl
@[go_sem] theorem V.ld3 {v : V} : rd false 1 v.cs 3 = some (.int .i64 v.high) := rfl
@[go_sem] theorem V.ld4 {v : V} : rd false 1 v.cs 4 = some (.int .i64 v.free) := rfl
@[go_sem] theorem V.ld5 {v : V} : rd false 1 v.cs 5 = some (.int .i64 v.bits) := rfl
attribute [go_sem] List.getElem?_toArray List.getElem?_cons_zero List.getElem?_cons_succ List.size_toArray List.drop_succ_cons List.drop_zero List.take_succ_cons List.cons_append List.nil_append List.append_nil List.take_zero and_self Nat.le_refl List.length_cons List.length_nil
@[go_sem] theorem eqV_V (a b : V) : eqV (.st [(false, 0, 1, .i), (false, 1, 1, .b), (false, 2, 1, .i), (false, 3, 1, .i), (false, 4, 1, .i), (false, 5, 1, .i)]) a.val b.val = some (decide (a = b)) := by
  rw [decEq_V]
  simp [eqV, eqFs, V.val, V.cs, rd]
theorem fresh_of {M : Hp} {r b : Nat} {e : Ent} (h : (M.upd b e) r = none) : ¬ r = b ∧ ¬ b = r ∧ M r = none := by
  rw [upd_none] at h
  exact ⟨h.1, fun e => h.1 e.symm, h.2⟩
theorem w64 {n : Int} (h1 : -9223372036854775808 ≤ n) (h2 : n ≤ 9223372036854775807) : IntKind.i64.wrap n = n := by rw [IntKind.wrap_i64]; omega
attribute [go_sem] w64 Nat.zero_add Bool.not_false Bool.not_true decide_true decide_false and_true true_and or_true true_or or_false false_or and_false false_and Int.cast_ofNat_Int Bool.false_and Bool.true_and Bool.and_true Bool.and_false Bool.false_or Bool.true_or Bool.or_false Bool.or_true Bool.xor_self Bool.false_xor Bool.true_xor Bool.xor_true Bool.xor_false
theorem shl1 {j : Int} (h1 : 0 ≤ j) (h2 : j ≤ 62) : shlv .i64 1 j = 2 ^ j.toNat := by
  unfold shlv
  have e : min j.toNat IntKind.i64.bits = j.toNat := by simp [IntKind.bits]; omega
  rw [e, Int.one_mul]
  have h3 : (2 : Nat) ^ j.toNat ≤ 2 ^ 62 := Nat.pow_le_pow_right (by decide) (by omega)
  have h4 : ((2 ^ j.toNat : Nat) : Int) ≤ ((2 ^ 62 : Nat) : Int) := Int.ofNat_le.2 h3
  have h5 : ((2 ^ j.toNat : Nat) : Int) = (2 : Int) ^ j.toNat := by simp
  rw [h5] at h4
  have h6 : (0 : Int) ≤ 2 ^ j.toNat := by rw [← h5]; exact Int.natCast_nonneg _
  exact w64 (by omega) (Int.le_trans h4 (by decide))
def mostV (w : Int) : Int := 2 ^ w.toNat - 1
theorem pow_le62 {w : Int} (h1 : w ≤ 62) : (2 : Int) ^ w.toNat ≤ 4611686018427387904 ∧ 1 ≤ (2 : Int) ^ w.toNat := by
  have h3 : (2 : Nat) ^ w.toNat ≤ 2 ^ 62 := Nat.pow_le_pow_right (by decide) (by omega)
  have h4 : ((2 ^ w.toNat : Nat) : Int) ≤ ((2 ^ 62 : Nat) : Int) := Int.ofNat_le.2 h3
  have h5 : ((2 ^ w.toNat : Nat) : Int) = (2 : Int) ^ w.toNat := by simp
  have h6 : 1 ≤ 2 ^ w.toNat := Nat.one_le_two_pow
  have h7 : ((1 : Nat) : Int) ≤ ((2 ^ w.toNat : Nat) : Int) := Int.ofNat_le.2 h6
  rw [h5] at h4 h7
  exact ⟨Int.le_trans h4 (by decide), h7⟩
theorem most_wrap {w : Int} (h0 : 0 ≤ w) (h1 : w ≤ 62) : IntKind.i64.wrap (2 ^ w.toNat - 1) = mostV w := by
  have := pow_le62 h1
  exact w64 (by omega) (by omega)
def isW (w : Int) : Bool := decide (w = 8) || decide (w = 16) || decide (w = 32)
def isN (n w : Int) : Bool := decide (0 ≤ n) && decide (n ≤ mostV w)
def V.ok (v : V) : Bool := isW v.w && (if v.no then decide (v = ⟨v.w, true, 0, 0, 0, 0⟩) else isN v.low v.w && isN v.high v.w && isN v.free v.w && isN v.bits v.w && decide (band .i64 v.bits v.free = 0))
def V.within (v : V) (n : Int) : Bool := if v.low ≤ v.high then decide (v.low ≤ n) && decide (n ≤ v.high) else decide (v.low ≤ n) || decide (n ≤ v.high)
def V.has (v : V) (n : Int) : Bool := !v.no && decide (bclr .i64 n v.free = v.bits) && v.within n
def V.nothing (w : Int) : V := ⟨w, true, 0, 0, 0, 0⟩
def V.whole (w : Int) : V := ⟨w, false, 0, mostV w, mostV w, 0⟩
def V.just (w n : Int) : V := ⟨w, false, n, n, 0, n⟩
def V.matchStep (v : V) (n : Int) (j : Nat) : Option Int :=
  if shrv .i64 (bxor .i64 (bclr .i64 n v.free) v.bits) (j + 1) = 0 ∧ band .i64 (shrv .i64 n j) 1 = 0 ∧ (band .i64 (shrv .i64 v.free j) 1 = 1 ∨ band .i64 (shrv .i64 v.bits j) 1 = 1) then
    some (bor .i64 (bor .i64 (shlv .i64 (shrv .i64 n (j + 1)) (j + 1)) (2 ^ j)) (band .i64 v.bits (2 ^ j - 1)))
  else none
def V.matchGo (v : V) (n : Int) : Nat → Nat → Int
  | 0, _ => -1
  | f + 1, j => match v.matchStep n j with | some x => x | none => V.matchGo v n f (j + 1)
def V.matchF (v : V) (n : Int) : Int := if bclr .i64 n v.free = v.bits then n else v.matchGo n v.w.toNat 0
def V.fillStep (v : V) (n : Int) (j : Nat) : Option Int :=
  if band .i64 n (2 ^ j) = 0 ∧ bclr .i64 (bclr .i64 (bor .i64 (bclr .i64 n (2 ^ j - 1)) (2 ^ j)) v.free) (2 ^ j - 1) = bclr .i64 v.bits (2 ^ j - 1) then
    some (bor .i64 (bor .i64 (bclr .i64 n (2 ^ j - 1)) (2 ^ j)) (band .i64 v.bits (2 ^ j - 1)))
  else none
def V.fillGo (v : V) (n : Int) : Nat → Nat → Int
  | 0, _ => -1
  | f + 1, j => match v.fillStep n j with | some x => x | none => V.fillGo v n f (j + 1)
def V.fillF (v : V) (n : Int) : Int := if bclr .i64 n v.free = v.bits then n else v.fillGo n v.w.toNat 0
def mx (a b : Int) : Int := if b > a then b else a
def V.p0 (v : V) : Int × Int := if v.low ≤ v.high then (v.low, v.high) else (0, v.high)
def V.p1 (v : V) : Int × Int := if v.low ≤ v.high then (0, -1) else (v.low, mostV v.w)
def V.tryP (v : V) (n : Int) (p : Int × Int) : Option Int :=
  if p.2 < mx n p.1 then none else if 0 ≤ v.matchF (mx n p.1) ∧ v.matchF (mx n p.1) ≤ p.2 then some (v.matchF (mx n p.1)) else none
def V.nextR (v : V) (n : Int) : Int := if v.no = true ∨ 2 ^ v.w.toNat ≤ n then -1 else (v.tryP n v.p0).getD ((v.tryP n v.p1).getD (-1))
theorem maxV_two {a b : Int} : maxV a [.int .i64 b] = some (mx a b) := rfl
attribute [go_sem] maxV_two
end Go.Ax
namespace Go.Ax
open Go
set_option linter.unusedVariables false
theorem wrap_nat {n : Nat} (h : n < 2 ^ 63) : IntKind.i64.wrap (n : Int) = n := w64 (by omega) (by omega)
theorem ofInt_nat {n : Nat} (h : n < 2 ^ 63) : (BitVec.ofInt 64 (n : Int)) = BitVec.ofNat 64 n := by
  simp
theorem toNat_nat {n : Nat} (h : n < 2 ^ 63) : (BitVec.ofNat 64 n).toNat = n := by
  rw [BitVec.toNat_ofNat, Nat.mod_eq_of_lt (by omega)]
theorem band_nat {a b : Nat} (ha : a < 2 ^ 63) (hb : b < 2 ^ 63) : band .i64 a b = ((a &&& b : Nat) : Int) := by
  unfold band
  rw [show IntKind.i64.bits = 64 from rfl, ofInt_nat ha, ofInt_nat hb, BitVec.toNat_and, toNat_nat ha, toNat_nat hb]
  exact wrap_nat (Nat.lt_of_le_of_lt Nat.and_le_left ha)
theorem bor_nat {a b : Nat} (ha : a < 2 ^ 63) (hb : b < 2 ^ 63) : bor .i64 a b = ((a ||| b : Nat) : Int) := by
  unfold bor
  rw [show IntKind.i64.bits = 64 from rfl, ofInt_nat ha, ofInt_nat hb, BitVec.toNat_or, toNat_nat ha, toNat_nat hb]
  exact wrap_nat (Nat.or_lt_two_pow ha hb)
theorem bxor_nat {a b : Nat} (ha : a < 2 ^ 63) (hb : b < 2 ^ 63) : bxor .i64 a b = ((a ^^^ b : Nat) : Int) := by
  unfold bxor
  rw [show IntKind.i64.bits = 64 from rfl, ofInt_nat ha, ofInt_nat hb, BitVec.toNat_xor, toNat_nat ha, toNat_nat hb]
  exact wrap_nat (Nat.xor_lt_two_pow ha hb)
def clr (a b : Nat) : Nat := a ^^^ (a &&& b)
theorem clr_bit (a b i : Nat) : (clr a b).testBit i = (a.testBit i && !b.testBit i) := by
  simp only [clr, Nat.testBit_xor, Nat.testBit_and]
  cases a.testBit i <;> cases b.testBit i <;> rfl
theorem clr_le (a b : Nat) : clr a b ≤ a := by
  have h : a &&& clr a b = clr a b := by
    apply Nat.eq_of_testBit_eq
    intro i
    rw [Nat.testBit_and, clr_bit]
    cases a.testBit i <;> cases b.testBit i <;> rfl
  rw [← h]
  exact Nat.and_le_left
theorem bclr_nat {a b : Nat} (ha : a < 2 ^ 63) (hb : b < 2 ^ 63) : bclr .i64 a b = ((clr a b : Nat) : Int) := by
  unfold bclr
  have e : (BitVec.ofNat 64 a &&& ~~~ BitVec.ofNat 64 b).toNat = clr a b := by
    apply Nat.eq_of_testBit_eq
    intro i
    rw [BitVec.toNat_and, Nat.testBit_and, toNat_nat ha, clr_bit, ← BitVec.getLsbD, BitVec.getLsbD_not]
    by_cases hi : i < 64
    · simp [hi, BitVec.getElem_eq_testBit_toNat, Nat.mod_eq_of_lt (show b < 18446744073709551616 by omega)]
    · have : a.testBit i = false := Nat.testBit_lt_two_pow (Nat.lt_of_lt_of_le ha (Nat.pow_le_pow_right (by decide) (by omega)))
      simp [this]
  rw [show IntKind.i64.bits = 64 from rfl, ofInt_nat ha, ofInt_nat hb, e]
  refine wrap_nat ?_
  exact Nat.xor_lt_two_pow ha (Nat.lt_of_le_of_lt Nat.and_le_left ha)
theorem clr_zero (a : Nat) : clr a 0 = a := by simp [clr]
theorem isN_nat {n w : Int} (h0 : 0 ≤ w) (h : isN n w = true) : ∃ k : Nat, n = k ∧ k < 2 ^ w.toNat := by
  have h5 : ((2 ^ w.toNat : Nat) : Int) = (2 : Int) ^ w.toNat := by simp
  simp only [isN, mostV, ← h5, Bool.and_eq_true, decide_eq_true_eq] at h
  generalize 2 ^ w.toNat = q at *
  exact ⟨n.toNat, by omega, by omega⟩
theorem pow_lt63 {w : Int} (h : w ≤ 62) : 2 ^ w.toNat < 2 ^ 63 := Nat.pow_lt_pow_right (by decide) (by omega)
theorem mostV_pos {w : Int} (h1 : w ≤ 62) : 0 ≤ mostV w ∧ mostV w ≤ 4611686018427387903 := by
  have := pow_le62 h1
  unfold mostV
  omega
theorem isN_zero {w : Int} (h0 : 0 ≤ w) (h1 : w ≤ 62) : isN 0 w = true := by
  have := mostV_pos h1
  simp [isN, this]
theorem isN_most {w : Int} (h0 : 0 ≤ w) (h1 : w ≤ 62) : isN (mostV w) w = true := by
  have := mostV_pos h1
  simp [isN, this]
theorem isW_le {w : Int} (h : isW w = true) : 0 ≤ w ∧ w ≤ 62 := by
  simp [isW] at h
  omega
theorem just_ok {w n : Int} (h : isW w = true) (hn : isN n w = true) : (V.just w n).ok = true := by
  have hl := isW_le h
  obtain ⟨k, rfl, hk⟩ := isN_nat hl.1 hn
  have hb : band .i64 (k : Int) 0 = 0 := by
    have := pow_lt63 hl.2
    exact (band_nat (a := k) (b := 0) (by omega) (by decide)).trans (by simp)
  simp [V.ok, V.just, h, isN_zero hl.1 hl.2, hn, hb]
theorem just_match {w n : Int} (h : isW w = true) (hn : isN n w = true) : (V.just w n).matchF n = n := by
  have hl := isW_le h
  obtain ⟨k, rfl, hk⟩ := isN_nat hl.1 hn
  have hp := pow_lt63 hl.2
  have hb : bclr .i64 (k : Int) 0 = k := by
    have := bclr_nat (a := k) (b := 0) (by omega) (by decide)
    rw [clr_zero] at this
    exact this
  simp [V.matchF, V.just, hb]
theorem just_next0 {w n : Int} (h : isW w = true) (hn : isN n w = true) : (V.just w n).nextR 0 = n := by
  have hl := isW_le h
  have hm := just_match h hn
  have := pow_le62 hl.2
  simp [isN] at hn
  have e : mx 0 n = n := by unfold mx; split <;> omega
  have hw : (V.just w n).w = w := rfl
  have hp0 : (V.just w n).p0 = (n, n) := by simp [V.p0, V.just]
  have ht : (V.just w n).tryP 0 (n, n) = some n := by
    simp [V.tryP, e, hm, hn]
  rw [V.nextR, if_neg (by simp [V.just]; omega), hp0, ht]
  rfl
theorem just_next1 {w n : Int} (h : isW w = true) (hn : isN n w = true) : (V.just w n).nextR (n + 1) = -1 := by
  have hl := isW_le h
  simp [isN] at hn
  have e : mx (n + 1) n = n + 1 := by unfold mx; split <;> omega
  have e0 : mx (n + 1) 0 = n + 1 := by unfold mx; split <;> omega
  unfold V.nextR
  split
  · rfl
  · have hp0 : (V.just w n).p0 = (n, n) := by simp [V.p0, V.just]
    have hp1 : (V.just w n).p1 = (0, -1) := by simp [V.p1, V.just]
    rw [hp0, hp1]
    have t0 : (V.just w n).tryP (n + 1) (n, n) = none := by simp [V.tryP, e]; omega
    have t1 : (V.just w n).tryP (n + 1) (0, -1) = none := by simp [V.tryP, e0]; omega
    rw [t0, t1]; rfl
theorem tryP_le {v : V} {n x : Int} {p : Int × Int} (h : v.tryP n p = some x) : 0 ≤ x ∧ x ≤ p.2 := by
  unfold V.tryP at h
  split at h
  · cases h
  · split at h
    · rename_i h2; cases h; exact h2
    · cases h
theorem nextR_le {v : V} (hv : v.ok = true) (n : Int) : -1 ≤ v.nextR n ∧ v.nextR n ≤ mostV v.w := by
  have hw : isW v.w = true := by simp [V.ok] at hv; exact hv.1
  have hl := isW_le hw
  have hm := isN_most hl.1 hl.2
  simp [isN] at hm
  unfold V.nextR
  split
  · omega
  · rename_i hc
    have hno : v.no = false := by cases h : v.no <;> simp_all
    simp [V.ok, hw, hno, isN] at hv
    cases h0 : v.tryP n v.p0 with
    | some x =>
      have := tryP_le h0
      have e : v.p0.2 = v.high := by unfold V.p0; split <;> rfl
      simp; omega
    | none =>
      cases h1 : v.tryP n v.p1 with
      | some x =>
        have := tryP_le h1
        have e : v.p1.2 = -1 ∨ v.p1.2 = mostV v.w := by unfold V.p1; split <;> simp
        simp; omega
      | none => simp; omega
end Go.Ax
namespace Go.Proofs.Tryz.K
open Go Go.Ax Go.Proofs.Tryz.S
set_option maxRecDepth 100000
set_option linter.unusedSimpArgs false
set_option linter.unusedVariables false
abbrev Same (F : Fz) (M : Hp) (r : Value) : Value → Fz → Hp → Prop := fun v F' M' => v = r ∧ F' = F ∧ M' = M
theorem hm : Tryz.prog.follows .mixedOrders = true := by kernel_rfl
variable (F : Fz) (M : Hp)
theorem k161 (w : Int) : CallsA Tryz.prog 161 [.int .i64 w] F M (Same F M (.bool (isW w))) := by
  refine callsA_of hm Tryz.func161 e161 (Nat.le_of_ble_eq_true rfl) ?_
  simp only [c161, go_sem, reduceCtorEq, reduceIte]
  repeat' (refine gK_of (fun h => ?_) (fun h => ?_) <;> simp only [go_sem, reduceCtorEq, reduceIte, Nat.reduceEqDiff, h])
  all_goals exact endK_same ⟨by simp_all [isW], rfl, rfl⟩
theorem k115 (w : Int) : CallsA Tryz.prog 115 [.int .i64 w] F M (Same F M (.bool (isW w))) := by
  refine callsA_of hm Tryz.func115 e115 (Nat.le_of_ble_eq_true rfl) ?_
  simp only [c115, go_sem, reduceCtorEq, reduceIte]
  repeat' (refine gK_of (fun h => ?_) (fun h => ?_) <;> simp only [go_sem, reduceCtorEq, reduceIte, Nat.reduceEqDiff, h])
  all_goals exact endK_same ⟨by simp_all [isW], rfl, rfl⟩
theorem k32 (n m : Int) : CallsA Tryz.prog 32 [.int .i64 n, .int .i64 m] F M (Same F M (.bool (decide (0 ≤ n) && decide (n ≤ m)))) := by
  refine callsA_of hm Tryz.func32 e32 (Nat.le_of_ble_eq_true rfl) ?_
  simp only [c32, go_sem, reduceCtorEq, reduceIte]
  repeat' (refine gK_of (fun h => ?_) (fun h => ?_) <;> simp only [go_sem, reduceCtorEq, reduceIte, Nat.reduceEqDiff, h])
  all_goals exact endK_same ⟨by simp_all, rfl, rfl⟩
theorem k33 (n l m : Int) : CallsA Tryz.prog 33 [.int .i64 n, .int .i64 l, .int .i64 m] F M (Same F M (.bool (decide (l ≤ n) && decide (n ≤ m)))) := by
  refine callsA_of hm Tryz.func33 e33 (Nat.le_of_ble_eq_true rfl) ?_
  simp only [c33, go_sem, reduceCtorEq, reduceIte, Nat.reduceEqDiff, Nat.reduceAdd]
  repeat' (refine gK_of (fun h => ?_) (fun h => ?_) <;> simp only [go_sem, reduceCtorEq, reduceIte, Nat.reduceEqDiff, h])
  all_goals exact endK_same ⟨by simp_all, rfl, rfl⟩
theorem k148 (w : Int) (h0 : 0 ≤ w) (h1 : w ≤ 62) : CallsA Tryz.prog 148 [.int .i64 w] F M (Same F M (.int .i64 (mostV w))) := by
  refine callsA_of hm Tryz.func148 e148 (Nat.le_of_ble_eq_true rfl) ?_
  have : ¬ w < 0 := by omega
  simp only [c148, go_sem, reduceCtorEq, reduceIte, this, shl1 h0 h1, most_wrap h0 h1]
  exact endK_same ⟨rfl, rfl, rfl⟩
theorem k129 (n w : Int) (h0 : 0 ≤ w) (h1 : w ≤ 62) : CallsA Tryz.prog 129 [.int .i64 n, .int .i64 w] F M (Same F M (.bool (isN n w))) := by
  refine callsA_of hm Tryz.func129 e129 (Nat.le_of_ble_eq_true rfl) ?_
  simp only [c129, go_sem, reduceCtorEq, reduceIte]
  refine gK_of (fun h => ?_) (fun h => ?_) <;> simp only [go_sem, reduceCtorEq, reduceIte, Nat.reduceEqDiff, h]
  · refine callK_same (k148 F M w h0 h1) ?_
    simp only [go_sem, reduceIte, Nat.reduceEqDiff]
    exact endK_same ⟨by simp_all [isN], rfl, rfl⟩
  · exact endK_same ⟨by simp_all [isN]; omega, rfl, rfl⟩
theorem k50 (n w : Int) (h0 : 0 ≤ w) (h1 : w ≤ 62) : CallsA Tryz.prog 50 [.int .i64 n, .int .i64 w] F M (Same F M (.bool (isN n w))) := by
  refine callsA_of hm Tryz.func50 e50 (Nat.le_of_ble_eq_true rfl) ?_
  have : ¬ w < 0 := by omega
  simp only [c50, go_sem, reduceCtorEq, reduceIte, Nat.reduceEqDiff, this, shl1 h0 h1, most_wrap h0 h1]
  refine callK_same (k32 F M n (mostV w)) ?_
  simp only [go_sem]
  exact endK_same ⟨rfl, rfl, rfl⟩
theorem k162 (w : Int) : CallsA Tryz.prog 162 [.int .i64 w] F M (Same F M (V.nothing w).val) := by
  refine callsA_of hm Tryz.func162 e162 (Nat.le_of_ble_eq_true rfl) ?_
  simp only [c162, go_sem, Nat.reduceAdd]
  intro r hF hM
  simp only [go_sem, reduceCtorEq, reduceIte, Nat.reduceEqDiff, Nat.reduceAdd, Nat.reduceLeDiff]
  exact endK_drop hM (endK_same ⟨rfl, rfl, rfl⟩)
theorem k111 (w n : Int) : CallsA Tryz.prog 111 [.int .i64 w, .int .i64 n] F M (Same F M (V.just w n).val) := by
  refine callsA_of hm Tryz.func111 e111 (Nat.le_of_ble_eq_true rfl) ?_
  simp only [c111, go_sem, Nat.reduceAdd]
  intro r hF hM
  simp only [go_sem, reduceCtorEq, reduceIte, Nat.reduceEqDiff, Nat.reduceAdd, Nat.reduceLeDiff]
  exact endK_drop hM (endK_same ⟨rfl, rfl, rfl⟩)
end Go.Proofs.Tryz.K
namespace Go.Proofs.Tryz.K
open Go Go.Ax Go.Proofs.Tryz.S
set_option maxRecDepth 100000
set_option linter.unusedSimpArgs false
set_option linter.unusedVariables false
variable (F : Fz) (M : Hp)
theorem k73 (v : V) : CallsA Tryz.prog 73 [v.val] F M (Same F M (.bool v.ok)) := by
  refine callsA_of hm Tryz.func73 e73 (Nat.le_of_ble_eq_true rfl) ?_
  simp only [c73, go_sem]
  intro r hF hM
  simp only [go_sem, Nat.reduceEqDiff]
  refine callK_same (k115 F _ v.w) ?_
  cases hw : isW v.w
  · simp only [go_sem]
    exact endK_drop hM (endK_same ⟨by simp [V.ok, hw], rfl, rfl⟩)
  have hl := isW_le hw
  cases hno : v.no
  · simp only [go_sem, Nat.reduceEqDiff, hno]
    refine callK_same (k50 F _ v.low v.w hl.1 hl.2) ?_
    cases h1 : isN v.low v.w
    · simp only [go_sem, reduceCtorEq, reduceIte, Nat.reduceEqDiff]
      exact endK_drop hM (endK_same ⟨by simp [V.ok, hw, hno, h1], rfl, rfl⟩)
    simp only [go_sem, Nat.reduceEqDiff]
    refine callK_same (k50 F _ v.high v.w hl.1 hl.2) ?_
    cases h2 : isN v.high v.w
    · simp only [go_sem, reduceCtorEq, reduceIte, Nat.reduceEqDiff]
      exact endK_drop hM (endK_same ⟨by simp [V.ok, hw, hno, h1, h2], rfl, rfl⟩)
    simp only [go_sem, reduceIte, Nat.reduceEqDiff]
    refine callK_same (k50 F _ v.free v.w hl.1 hl.2) ?_
    cases h3 : isN v.free v.w
    · simp only [go_sem, reduceCtorEq, reduceIte, Nat.reduceEqDiff]
      exact endK_drop hM (endK_same ⟨by simp [V.ok, hw, hno, h1, h2, h3], rfl, rfl⟩)
    simp only [go_sem, reduceIte, Nat.reduceEqDiff]
    refine callK_same (k50 F _ v.bits v.w hl.1 hl.2) ?_
    cases h4 : isN v.bits v.w
    · simp only [go_sem, reduceCtorEq, reduceIte, Nat.reduceEqDiff]
      exact endK_drop hM (endK_same ⟨by simp [V.ok, hw, hno, h1, h2, h3, h4], rfl, rfl⟩)
    simp only [go_sem, reduceIte, Nat.reduceEqDiff]
    exact endK_drop hM (endK_same ⟨by simp [V.ok, hw, hno, h1, h2, h3, h4], rfl, rfl⟩)
  · simp only [go_sem, reduceIte, Nat.reduceEqDiff, Nat.reduceAdd, Nat.reduceLeDiff, hno]
    exact endK_drop hM (endK_same ⟨by simp [V.ok, hw, hno], rfl, rfl⟩)
theorem k88 (v : V) (n : Int) : CallsA Tryz.prog 88 [v.val, .int .i64 n] F M (Same F M (.bool (v.has n))) := by
  refine callsA_of hm Tryz.func88 e88 (Nat.le_of_ble_eq_true rfl) ?_
  simp only [c88, go_sem]
  intro r hF hM
  simp only [go_sem, Nat.reduceEqDiff]
  cases hno : v.no
  · simp only [go_sem, reduceCtorEq, reduceIte, Nat.reduceEqDiff]
    by_cases hb : bclr .i64 n v.free = v.bits
    · simp only [go_sem, reduceIte, Nat.reduceEqDiff, hb, decide_true]
      by_cases hlh : v.low ≤ v.high
      · simp only [go_sem, reduceCtorEq, Nat.reduceEqDiff, hlh, decide_true]
        refine callK_same (k33 F _ n v.low v.high) ?_
        simp only [go_sem]
        exact endK_drop hM (endK_same ⟨by simp [V.has, hno, hb, V.within, hlh], rfl, rfl⟩)
      · simp only [go_sem, reduceCtorEq, reduceIte, Nat.reduceEqDiff, hlh, decide_false]
        refine gK_of (fun h => ?_) (fun h => ?_) <;> simp only [go_sem, reduceCtorEq, reduceIte, Nat.reduceEqDiff, h]
        all_goals exact endK_drop hM (endK_same ⟨by simp only [V.has, V.within, hno, hb, hlh, if_false, h]; simp, rfl, rfl⟩)
    · simp only [go_sem, hb, decide_false]
      exact endK_drop hM (endK_same ⟨by simp [V.has, hno, hb], rfl, rfl⟩)
  · simp only [go_sem, reduceIte, Nat.reduceEqDiff]
    exact endK_drop hM (endK_same ⟨by simp [V.has, hno], rfl, rfl⟩)
theorem k145 (v : V) (n : Int) : CallsA Tryz.prog 145 [v.val, .int .i64 n] F M (Same F M (.bool (v.within n))) := by
  refine callsA_of hm Tryz.func145 e145 (Nat.le_of_ble_eq_true rfl) ?_
  simp only [c145, go_sem]
  intro r hF hM
  simp only [go_sem, reduceIte, Nat.reduceEqDiff]
  by_cases hlh : v.low ≤ v.high <;> simp only [go_sem, reduceCtorEq, reduceIte, Nat.reduceEqDiff, hlh, decide_true, decide_false]
  all_goals refine gK_of (fun h => ?_) (fun h => ?_) <;> simp only [go_sem, reduceCtorEq, reduceIte, Nat.reduceEqDiff, h]
  all_goals exact endK_drop hM (endK_same ⟨by simp only [V.within, hlh, if_true, if_false, h]; simp, rfl, rfl⟩)
theorem k122 (v : V) (n : Int) : CallsA Tryz.prog 122 [v.val, .int .i64 n] F M (Same F M (.bool (v.has n))) := by
  refine callsA_of hm Tryz.func122 e122 (Nat.le_of_ble_eq_true rfl) ?_
  simp only [c122, go_sem]
  intro r hF hM
  simp only [go_sem, Nat.reduceEqDiff]
  cases hno : v.no <;> simp only [go_sem, reduceCtorEq, reduceIte, Nat.reduceEqDiff]
  · by_cases hb : bclr .i64 n v.free = v.bits <;> simp only [go_sem, reduceCtorEq, reduceIte, Nat.reduceEqDiff, hb, decide_true, decide_false]
    · refine callK_same (k145 F _ v n) ?_
      simp only [go_sem, reduceIte, Nat.reduceEqDiff]
      exact endK_drop hM (endK_same ⟨by simp [V.has, hno, hb], rfl, rfl⟩)
    · exact endK_drop hM (endK_same ⟨by simp [V.has, hno, hb], rfl, rfl⟩)
  · exact endK_drop hM (endK_same ⟨by simp [V.has, hno], rfl, rfl⟩)
def mayI (v : V) (F : Fz) (M : Hp) (r r1 : Nat) (m : Nat) (σ : Env) (F' : Fz) (M' : Hp) : Prop :=
  F' = F ∧ M' = (M.upd r ⟨v.cs, 65, 6⟩).upd r1 ⟨[.int .i64 v.low, .int .i64 v.high, .int .i64 v.free, .int .i64 v.bits], 3, 4⟩ ∧
      Ax.look σ 1 = some (.pointer (some ⟨r, 0, none⟩)) ∧ Ax.look σ 24 = some (.slice (some ⟨r1, 0, none⟩) 4 4) ∧ Ax.look σ 25 = some (.int .i64 4) ∧ 
      (m = 4 ∧ Ax.look σ 26 = some (.int .i64 0) ∨ m = 3 ∧ Ax.look σ 26 = some (.int .i64 1) ∧ isN v.low v.w = true ∨ m = 2 ∧ Ax.look σ 26 = some (.int .i64 2) ∧ isN v.low v.w = true ∧ isN v.high v.w = true ∨
       m = 1 ∧ Ax.look σ 26 = some (.int .i64 3) ∧ isN v.low v.w = true ∧ isN v.high v.w = true ∧ isN v.free v.w = true ∨
       m = 0 ∧ Ax.look σ 26 = some (.int .i64 4) ∧ isN v.low v.w = true ∧ isN v.high v.w = true ∧ isN v.free v.w = true ∧ isN v.bits v.w = true)
theorem k154 (v : V) : CallsA Tryz.prog 154 [v.val] F M (Same F M (.bool v.ok)) := by
  refine callsA_of hm Tryz.func154 e154 (Nat.le_of_ble_eq_true rfl) ?_
  simp only [c154, go_sem]
  intro r hF hM
  simp only [go_sem, Nat.reduceEqDiff]
  refine callK_same (k161 F _ v.w) ?_
  cases hw : isW v.w
  · simp only [go_sem]
    exact endK_drop hM (endK_same ⟨by simp [V.ok, hw], rfl, rfl⟩)
  have hl := isW_le hw
  cases hno : v.no
  · simp only [go_sem, reduceIte, Nat.reduceEqDiff, Nat.reduceAdd, Nat.reduceLeDiff, hno]
    intro r1 hF1 hM1
    have hr := fresh_of hM1
    simp only [go_sem]
    refine loop_of (mayI v F M r r1) 4 ?_ ?_
    · simp only [mayI, go_sem, reduceCtorEq, Nat.reduceEqDiff]
    · rintro m σ F' M' ⟨rfl, rfl, h1, h24, h25, h26⟩
      rcases h26 with ⟨rfl, h26⟩ | ⟨rfl, h26, g1⟩ | ⟨rfl, h26, g1, g2⟩ | ⟨rfl, h26, g1, g2, g3⟩ | ⟨rfl, h26, g1, g2, g3, g4⟩
      · simp only [go_sem, reduceIte, Nat.reduceEqDiff, Nat.reduceMul, Int.reduceLT, Int.reduceLE, Int.reduceToNat, h1, h24, h25, h26, hr]
        refine callK_same (k129 F' _ v.low v.w hl.1 hl.2) ?_
        cases g : isN v.low v.w
        · simp only [go_sem]
          exact endK_drop hM1 (endK_drop hM (endK_same ⟨by simp [V.ok, hw, hno, g], rfl, rfl⟩))
        · simp only [go_sem, reduceIte, Nat.reduceEqDiff, Int.reduceLE, Int.reduceAdd, Int.reduceNeg, h26]
          exact ⟨3, by omega, rfl, rfl, h1, h24, h25, by simp [go_sem, go_sem, reduceCtorEq, Nat.reduceEqDiff, Int.reduceEq, g]⟩
      · simp only [go_sem, reduceIte, Nat.reduceEqDiff, Nat.reduceMul, Int.reduceLT, Int.reduceLE, Int.reduceToNat, h1, h24, h25, h26, hr]
        refine callK_same (k129 F' _ v.high v.w hl.1 hl.2) ?_
        cases g : isN v.high v.w
        · simp only [go_sem]
          exact endK_drop hM1 (endK_drop hM (endK_same ⟨by simp [V.ok, hw, hno, g], rfl, rfl⟩))
        · simp only [go_sem, reduceIte, Nat.reduceEqDiff, Int.reduceLE, Int.reduceAdd, Int.reduceNeg, h26]
          exact ⟨2, by omega, rfl, rfl, h1, h24, h25, by simp [go_sem, go_sem, reduceCtorEq, Nat.reduceEqDiff, Int.reduceEq, g, g1]⟩
      · simp only [go_sem, reduceIte, Nat.reduceEqDiff, Nat.reduceMul, Int.reduceLT, Int.reduceLE, Int.reduceToNat, h1, h24, h25, h26, hr]
        refine callK_same (k129 F' _ v.free v.w hl.1 hl.2) ?_
        cases g : isN v.free v.w
        · simp only [go_sem]
          exact endK_drop hM1 (endK_drop hM (endK_same ⟨by simp [V.ok, hw, hno, g], rfl, rfl⟩))
        · simp only [go_sem, reduceIte, Nat.reduceEqDiff, Int.reduceLE, Int.reduceAdd, Int.reduceNeg, h26]
          exact ⟨1, by omega, rfl, rfl, h1, h24, h25, by simp [go_sem, go_sem, Nat.reduceEqDiff, Int.reduceEq, g, g1, g2]⟩
      · simp only [go_sem, reduceIte, Nat.reduceEqDiff, Nat.reduceMul, Int.reduceLT, Int.reduceLE, Int.reduceToNat, h1, h24, h25, h26, hr]
        refine callK_same (k129 F' _ v.bits v.w hl.1 hl.2) ?_
        cases g : isN v.bits v.w
        · simp only [go_sem]
          exact endK_drop hM1 (endK_drop hM (endK_same ⟨by simp [V.ok, hw, hno, g], rfl, rfl⟩))
        · simp only [go_sem, reduceIte, Nat.reduceEqDiff, Int.reduceLE, Int.reduceAdd, Int.reduceNeg, h26]
          exact ⟨0, by omega, rfl, rfl, h1, h24, h25, by simp [go_sem, go_sem, reduceCtorEq, Int.reduceEq, g, g1, g2, g3]⟩
      · simp only [go_sem, reduceIte, Nat.reduceEqDiff, Int.reduceLT, h1, h25, h26, hr]
        exact endK_drop hM1 (endK_drop hM (endK_same ⟨by simp [V.ok, hw, hno, g1, g2, g3, g4], rfl, rfl⟩))
  · simp only [go_sem, reduceIte, Nat.reduceEqDiff, hno]
    refine callK_same (k162 F _ v.w) ?_
    simp only [go_sem, Nat.reduceEqDiff]
    exact endK_drop hM (endK_same ⟨by simp only [V.ok, hw, hno, Bool.true_and, if_true]; rfl, rfl, rfl⟩)
end Go.Proofs.Tryz.K
namespace Go.Proofs.Tryz.K
open Go Go.Ax Go.Proofs.Tryz.S
set_option maxRecDepth 100000
set_option linter.unusedSimpArgs false
set_option linter.unusedVariables false
variable (F : Fz) (M : Hp)
theorem ok_isW {v : V} (h : v.ok = true) : isW v.w = true := by
  simp [V.ok] at h; exact h.1
end Go.Proofs.Tryz.K
namespace Go.Ax
open Go
set_option linter.unusedVariables false
abbrev shInts : Sh := .slice 1 8 (.int .i64)
abbrev shV : Sh := .cons 1 (.int .i64) (.cons 1 .bool (.cons 1 (.int .i64) (.cons 1 (.int .i64) (.cons 1 (.int .i64) (.cons 1 (.int .i64) .nil)))))
def intV (n : Int) : Value := .int .i64 n
def in64 (n : Int) : Prop := -9223372036854775808 ≤ n ∧ n ≤ 9223372036854775807
theorem plain_ints (l : List Int) : plainCells (l.map intV) := by
  intro u hu
  obtain ⟨n, _, rfl⟩ := List.mem_map.1 hu
  rfl
theorem ne_of_none {M : Hp} {r b : Nat} {e : Ent} (h : M r = none) (hb : M b = some e) : ¬ b = r ∧ ¬ r = b := by
  constructor
  · rintro rfl; rw [h] at hb; cases hb
  · rintro rfl; rw [h] at hb; cases hb
@[go_sem] theorem zero_fold : V.mk 0 false 0 0 0 0 = V.zero := rfl
@[go_sem] theorem V.whole_w {w : Int} : (V.whole w).w = w := rfl
@[go_sem] theorem V.whole_no {w : Int} : (V.whole w).no = false := rfl
@[go_sem] theorem V.whole_free {w : Int} : (V.whole w).free = mostV w := rfl
@[go_sem] theorem V.nothing_w {w : Int} : (V.nothing w).w = w := rfl
@[go_sem] theorem V.just_w {w n : Int} : (V.just w n).w = w := rfl
theorem nothing_next {w n : Int} : (V.nothing w).nextR n = -1 := by simp [V.nextR, V.nothing]
attribute [go_sem] nothing_next
def Keep (M M' : Hp) : Prop := ∀ b e, M b = some e → M' b = some e
theorem Keep.refl (M : Hp) : Keep M M := fun _ _ h => h
theorem Keep.trans {A B C : Hp} (h : Keep A B) (k : Keep B C) : Keep A C := fun b e hb => k b e (h b e hb)
theorem Keep.free {M M' : Hp} (h : Keep M M') {r : Nat} (hr : M' r = none) : M r = none := by
  cases hm : M r with
  | none => rfl
  | some e => rw [h r e hm] at hr; cases hr
theorem Keep.new {M M' : Hp} (h : Keep M M') {r : Nat} {e : Ent} (hr : M r = none) : Keep M (M'.upd r e) := fun b x hb => by
  rw [Hp.upd_ne]
  · exact h b x hb
  · rintro rfl; rw [hr] at hb; cases hb
theorem Keep.both {M M' : Hp} (h : Keep M M') {r : Nat} {e : Ent} : Keep (M.upd r e) (M'.upd r e) := fun b x hb => by
  by_cases hbr : b = r
  · subst hbr; rw [Hp.upd_same] at hb ⊢; exact hb
  · rw [Hp.upd_ne hbr] at hb ⊢; exact h b x hb
theorem Keep.one {M M' : Hp} (h : Keep M M') {r : Nat} {e : Ent} (he : M' r = some e) : Keep (M.upd r e) M' := fun b x hb => by
  by_cases hbr : b = r
  · subst hbr; rw [Hp.upd_same] at hb; rw [he]; exact hb
  · rw [Hp.upd_ne hbr] at hb; exact h b x hb
theorem Keep.wk {M M' : Hp} (h : Keep M M') (F : Fz) : Wk F M' F M :=
  ⟨fun w hw => ⟨hw.fz, fun b e hb => hw.mu b e (h b e hb), fun b hb => hw.ap b (fun e => hb (h.free e)), hw.mp⟩, fun _ hf _ => hf, fun b hb => h.free hb, fun _ h => h⟩
theorem endK_keep {F : Fz} {M M' : Hp} {R : Value → Fz → Hp → Prop} {v : Value} (h : Keep M M') (hr : R v F M) : endK F M' R v := ⟨F, M, h.wk F, hr⟩
def V.mem (v : V) : Nat → Int → List Int
  | 0, _ => []
  | k + 1, n => if v.nextR n < 0 then [] else v.nextR n :: V.mem v k (v.nextR n + 1)
def V.members (v : V) (most : Nat) : List Int := v.mem (most + 1) 0
def V.is1 (v : V) : Bool := decide (0 ≤ v.nextR 0) && decide (v.nextR (v.nextR 0 + 1) < 0)
theorem V.members1 (v : V) : v.members 1 = if v.nextR 0 < 0 then [] else v.nextR 0 :: (if v.nextR (v.nextR 0 + 1) < 0 then [] else [v.nextR (v.nextR 0 + 1)]) := by
  simp [V.members, V.mem]
attribute [go_sem] beq_self_eq_true
def Old (F : Fz) (M : Hp) : Prop := ∀ b, F b ≠ none → M b = none
theorem Old.start (F : Fz) : Old F noHp := fun _ _ => rfl
theorem Old.upd {F : Fz} {M : Hp} (h : Old F M) {r : Nat} {e : Ent} (hr : F r = none) : Old F (M.upd r e) := fun b hb => by
  rw [Hp.upd_ne]
  · exact h b hb
  · rintro rfl; exact hb hr
theorem Old.blk {F : Fz} {M : Hp} (h : Old F M) {b : Nat} {c : List Value} (hb : F b = some c) : blk F M b = some c := blk_F hb (h b (by rw [hb]; simp))
end Go.Ax
namespace Go.Ax
open Go
set_option linter.unusedVariables false
set_option linter.unusedSimpArgs false
theorem natPow (j : Nat) : (2 : Int) ^ j = ((2 ^ j : Nat) : Int) := by simp
theorem natMost (j : Nat) : (2 : Int) ^ j - 1 = ((2 ^ j - 1 : Nat) : Int) := by
  have : 1 ≤ 2 ^ j := Nat.one_le_two_pow
  rw [natPow]
  generalize 2 ^ j = q at *
  omega
theorem shrv_nat {n j : Nat} (hj : j ≤ 62) : shrv .i64 (n : Int) (j : Int) = ((n >>> j : Nat) : Int) := by
  unfold shrv
  have e : min ((j : Int).toNat) IntKind.i64.bits = j := by simp [IntKind.bits]; omega
  rw [e, natPow, Nat.shiftRight_eq_div_pow, Int.fdiv_eq_ediv_of_nonneg _ (Int.natCast_nonneg _)]
  simp
theorem shlv_nat {n j : Nat} (hj : j ≤ 62) (h : n <<< j < 2 ^ 63) : shlv .i64 (n : Int) (j : Int) = ((n <<< j : Nat) : Int) := by
  unfold shlv
  have e : min ((j : Int).toNat) IntKind.i64.bits = j := by simp [IntKind.bits]; omega
  rw [e, natPow, ← wrap_nat h, Nat.shiftLeft_eq]
  simp
theorem bit_and_one {n j : Nat} : (n >>> j) &&& 1 = 0 ↔ n.testBit j = false := by
  rw [Nat.testBit, Nat.and_comm]; simp
theorem bit_and_one' {n j : Nat} : (n >>> j) &&& 1 = 1 ↔ n.testBit j = true := by
  rw [Nat.and_one_is_mod, Nat.testBit, Nat.and_comm, Nat.and_one_is_mod]; simp
theorem bit_and_pow {n j : Nat} : n &&& 2 ^ j = 0 ↔ n.testBit j = false := by
  constructor
  · intro h
    have := congrArg (fun y => y.testBit j) h
    simpa [Nat.testBit_two_pow] using this
  · intro h
    apply Nat.eq_of_testBit_eq
    intro i
    rw [Nat.testBit_and, Nat.testBit_two_pow, Nat.zero_testBit]
    by_cases e : j = i
    · subst e; simp [h]
    · simp [e]
def mS (f b n j : Nat) : Option Nat :=
  if (clr n f ^^^ b) >>> (j + 1) = 0 ∧ n.testBit j = false ∧ (f.testBit j = true ∨ b.testBit j = true) then
    some (((n >>> (j + 1)) <<< (j + 1) ||| 2 ^ j) ||| (b &&& (2 ^ j - 1)))
  else none
theorem shr_zero {x j : Nat} : x >>> j = 0 ↔ ∀ i, j ≤ i → x.testBit i = false := by
  constructor
  · intro h i hi
    have := congrArg (fun y => y.testBit (i - j)) h
    simp only [Nat.testBit_shiftRight, Nat.zero_testBit] at this
    rw [show j + (i - j) = i by omega] at this
    exact this
  · intro h
    apply Nat.eq_of_testBit_eq
    intro i
    rw [Nat.testBit_shiftRight, Nat.zero_testBit]
    exact h _ (by omega)
theorem shl_shr_le (n j : Nat) : (n >>> j) <<< j ≤ n := by
  rw [Nat.shiftLeft_eq, Nat.shiftRight_eq_div_pow]
  exact Nat.div_mul_le_self _ _
theorem matchStep_nat {v : V} {f b n j : Nat} (hf : v.free = f) (hb : v.bits = b) (f1 : f < 2 ^ 62) (b1 : b < 2 ^ 62) (n1 : n < 2 ^ 62) (hj : j < 62) :
    v.matchStep n j = (mS f b n j).map Int.ofNat := by
  have c1 : clr n f < 2 ^ 62 := Nat.lt_of_le_of_lt (clr_le _ _) n1
  have p1 : 2 ^ j < 2 ^ 62 := Nat.pow_lt_pow_right (by decide) hj
  have s1 := Nat.lt_of_le_of_lt (shl_shr_le n (j + 1)) n1
  have x1 : clr n f ^^^ b < 2 ^ 62 := Nat.xor_lt_two_pow c1 b1
  have r1 := Nat.or_lt_two_pow s1 p1
  unfold V.matchStep mS
  rw [hf, hb, show ((j : Int) + 1) = ((j + 1 : Nat) : Int) by simp, bclr_nat (by omega) (by omega), bxor_nat (by omega) (by omega), shrv_nat (by omega), shrv_nat (by omega),
    shrv_nat (by omega), shrv_nat (by omega), shrv_nat (by omega), natMost, natPow,
    show (1 : Int) = ((1 : Nat) : Int) from rfl,
    band_nat (Nat.lt_of_le_of_lt (Nat.shiftRight_le _ _) (by omega)) (by decide), band_nat (Nat.lt_of_le_of_lt (Nat.shiftRight_le _ _) (by omega)) (by decide),
    band_nat (Nat.lt_of_le_of_lt (Nat.shiftRight_le _ _) (by omega)) (by decide), band_nat (by omega) (by omega),
    shlv_nat (by omega) (by omega), bor_nat (by omega) (by omega), bor_nat (by omega) (Nat.lt_of_le_of_lt Nat.and_le_left (by omega))]
  simp only [Int.natCast_eq_zero, Int.ofNat_inj, bit_and_one, bit_and_one']
  split <;> rfl
theorem high_eq {n j : Nat} (h : n.testBit j = false) : clr n (2 ^ j - 1) ||| 2 ^ j = (n >>> (j + 1)) <<< (j + 1) ||| 2 ^ j := by
  apply Nat.eq_of_testBit_eq
  intro i
  simp only [Nat.testBit_or, clr_bit, Nat.testBit_two_pow_sub_one, Nat.testBit_two_pow, Nat.testBit_shiftLeft, Nat.testBit_shiftRight]
  by_cases h1 : j = i
  · simp [h1]
  · by_cases h2 : i < j
    · simp [h1, h2]; omega
    · have : j + 1 ≤ i := by omega
      simp [h1, h2, this, show j + 1 + (i - (j + 1)) = i by omega]
theorem fill_cond {f b n j : Nat} (hbf : b &&& f = 0) (h : n.testBit j = false) :
    clr (clr (clr n (2 ^ j - 1) ||| 2 ^ j) f) (2 ^ j - 1) = clr b (2 ^ j - 1) ↔ (clr n f ^^^ b) >>> (j + 1) = 0 ∧ (f.testBit j = true ∨ b.testBit j = true) := by
  have hbf' : ∀ i, b.testBit i = true → f.testBit i = false := by
    intro i hi
    have := congrArg (fun y => y.testBit i) hbf
    simp only [Nat.testBit_and, hi, Bool.true_and, Nat.zero_testBit] at this
    exact this
  constructor
  · intro he
    have key : ∀ i, _ := fun i => congrArg (fun y => y.testBit i) he
    simp only [Nat.testBit_or, clr_bit, Nat.testBit_two_pow_sub_one, Nat.testBit_two_pow] at key
    refine ⟨shr_zero.2 fun i hi => ?_, ?_⟩
    · have := key i
      have h1 : ¬ i < j := by omega
      have h2 : ¬ j = i := by omega
      simp [h1, h2] at this
      simp [Nat.testBit_xor, clr_bit, this]
    · have := key j
      simp at this
      cases hf : f.testBit j
      · right; rw [hf] at this; simpa using this.symm
      · left; rfl
  · rintro ⟨h1, h2⟩
    rw [shr_zero] at h1
    apply Nat.eq_of_testBit_eq
    intro i
    simp only [Nat.testBit_or, clr_bit, Nat.testBit_two_pow_sub_one, Nat.testBit_two_pow]
    by_cases a : i < j
    · simp [a]
    by_cases e : j = i
    · subst e
      simp
      rcases h2 with h2 | h2
      · rw [h2]
        cases hb : b.testBit j
        · rfl
        · rw [hbf' j hb] at h2; cases h2
      · rw [h2, hbf' j h2]; rfl
    · have := h1 i (by omega)
      simp only [Nat.testBit_xor, clr_bit] at this
      simp [a, e]
      revert this
      cases (n.testBit i && !f.testBit i) <;> cases b.testBit i <;> simp
theorem fillStep_nat {v : V} {f b n j : Nat} (hf : v.free = f) (hb : v.bits = b) (f1 : f < 2 ^ 62) (b1 : b < 2 ^ 62) (n1 : n < 2 ^ 62) (hj : j < 62) (hbf : b &&& f = 0) :
    v.fillStep n j = (mS f b n j).map Int.ofNat := by
  have p1 : 2 ^ j < 2 ^ 62 := Nat.pow_lt_pow_right (by decide) hj
  have c1 : clr n (2 ^ j - 1) < 2 ^ 62 := Nat.lt_of_le_of_lt (clr_le _ _) n1
  have r1 := Nat.or_lt_two_pow c1 p1
  have r2 := clr_le (clr n (2 ^ j - 1) ||| 2 ^ j) f
  unfold V.fillStep mS
  rw [hf, hb, natMost, natPow, band_nat (by omega) (by omega), bclr_nat (by omega) (by omega), bor_nat (by omega) (by omega), bclr_nat (by omega) (by omega), bclr_nat (by omega) (by omega),
    bclr_nat (by omega) (by omega), band_nat (by omega) (by omega), bor_nat (by omega) (Nat.lt_of_le_of_lt Nat.and_le_left (by omega))]
  simp only [Int.natCast_eq_zero, Int.ofNat_inj, bit_and_pow]
  by_cases hn : n.testBit j = false
  · rw [high_eq hn]
    have := fill_cond hbf hn
    rw [high_eq hn] at this
    simp only [hn, this, true_and]
    split <;> rfl
  · simp [hn]
theorem fillGo_eq {v : V} {f b n : Nat} (hf : v.free = f) (hb : v.bits = b) (f1 : f < 2 ^ 62) (b1 : b < 2 ^ 62) (n1 : n < 2 ^ 62) (hbf : b &&& f = 0) :
    ∀ m j : Nat, m + j ≤ 62 → v.fillGo n m j = v.matchGo n m j
  | 0, _, _ => rfl
  | m + 1, j, h => by
    simp only [V.fillGo, V.matchGo]
    rw [fillStep_nat hf hb f1 b1 n1 (by omega) hbf, matchStep_nat hf hb f1 b1 n1 (by omega), fillGo_eq hf hb f1 b1 n1 hbf m (j + 1) (by omega)]
theorem ok_nat {v : V} (h : v.ok = true) (hno : v.no = false) : ∃ l g f b : Nat, v.low = l ∧ v.high = g ∧ v.free = f ∧ v.bits = b ∧ l < 2 ^ v.w.toNat ∧ g < 2 ^ v.w.toNat ∧ f < 2 ^ v.w.toNat ∧ b < 2 ^ v.w.toNat ∧ b &&& f = 0 ∧ 2 ^ v.w.toNat ≤ 2 ^ 62 := by
  have hw : isW v.w = true := by simp [V.ok] at h; exact h.1
  have hl := isW_le hw
  simp [V.ok, hw, hno] at h
  obtain ⟨⟨⟨⟨h1, h2⟩, h3⟩, h4⟩, h5⟩ := h
  obtain ⟨l, e1, g1⟩ := isN_nat hl.1 h1
  obtain ⟨g, e2, g2⟩ := isN_nat hl.1 h2
  obtain ⟨f, e3, g3⟩ := isN_nat hl.1 h3
  obtain ⟨b, e4, g4⟩ := isN_nat hl.1 h4
  have hp : 2 ^ v.w.toNat ≤ 2 ^ 62 := Nat.pow_le_pow_right (by decide) (by omega)
  refine ⟨l, g, f, b, e1, e2, e3, e4, g1, g2, g3, g4, ?_, hp⟩
  rw [e3, e4, band_nat (by omega) (by omega)] at h5
  omega
theorem fillF_eq {v : V} (h : v.ok = true) (hno : v.no = false) {n : Int} (h0 : 0 ≤ n) (h1 : n ≤ mostV v.w) : v.fillF n = v.matchF n := by
  obtain ⟨l, g, f, b, e1, e2, e3, e4, g1, g2, g3, g4, hbf, hp⟩ := ok_nat h hno
  have hw : isW v.w = true := by simp [V.ok] at h; exact h.1
  have hl := isW_le hw
  obtain ⟨k, rfl, hk⟩ := isN_nat (n := n) hl.1 (by simp [isN, h0, h1])
  unfold V.fillF V.matchF
  rw [fillGo_eq e3 e4 (by omega) (by omega) (by omega) hbf _ _ (by omega)]
theorem tryP_out {v : V} {n : Int} {p : Int × Int} (h : p.2 < n ∨ ¬ 0 ≤ v.matchF (mx n p.1) ∨ ¬ v.matchF (mx n p.1) ≤ p.2) : v.tryP n p = none := by
  unfold V.tryP
  rcases h with h | h | h
  · rw [if_pos (by unfold mx; split <;> omega)]
  · rw [if_neg (c := 0 ≤ _ ∧ _) (by omega)]; simp
  · rw [if_neg (c := 0 ≤ _ ∧ _) (by omega)]; simp
theorem tryP_hit {v : V} {n : Int} {p : Int × Int} (h : mx n p.1 ≤ p.2) (h1 : 0 ≤ v.matchF (mx n p.1)) (h2 : v.matchF (mx n p.1) ≤ p.2) : v.tryP n p = some (v.matchF (mx n p.1)) := by
  rw [V.tryP, if_neg (by omega), if_pos ⟨h1, h2⟩]
theorem tryP_void {v : V} {n : Int} : v.tryP n (0, -1) = none := by
  rw [V.tryP, if_pos]
  unfold mx; simp only; split <;> omega
theorem mx_in {n : Int} {p : Int × Int} (h : ¬ p.2 < n) (hp : p.1 ≤ p.2) : p.1 ≤ mx n p.1 ∧ mx n p.1 ≤ p.2 := by
  unfold mx; split <;> omega
theorem parts_in {v : V} (h : v.ok = true) (hno : v.no = false) : (v.p0.1 ≤ v.p0.2) ∧ (¬ v.low ≤ v.high → v.p1.1 ≤ v.p1.2) ∧ (0 ≤ v.p0.1 ∧ v.p0.2 ≤ mostV v.w) ∧ (0 ≤ v.p1.1 ∧ v.p1.2 ≤ mostV v.w) := by
  have hw : isW v.w = true := by simp [V.ok] at h; exact h.1
  have hm := mostV_pos (isW_le hw).2
  simp [V.ok, hw, hno, isN] at h
  unfold V.p0 V.p1
  split <;> simp <;> omega
end Go.Ax
namespace Go.Proofs.Tryz.K
open Go Go.Ax Go.Proofs.Tryz.S
set_option maxRecDepth 100000
set_option linter.unusedSimpArgs false
set_option linter.unusedVariables false
variable (F : Fz) (M : Hp)
def fillI (v : V) (n : Int) (F : Fz) (M : Hp) (r : Nat) (m : Nat) (σ : Env) (F' : Fz) (M' : Hp) : Prop :=
  F' = F ∧ M' = M.upd r ⟨v.cs, 65, 6⟩ ∧ ∃ j : Nat, j + m = v.w.toNat ∧ Ax.look σ 1 = some (.int .i64 n) ∧ Ax.look σ 2 = some (.pointer (some ⟨r, 0, none⟩)) ∧ Ax.look σ 17 = some (.int .i64 v.w) ∧ Ax.look σ 18 = some (.int .i64 j) ∧ v.fillGo n m j = v.fillF n
theorem k168 (v : V) (n : Int) (hw : v.w ≤ 62) : CallsA Tryz.prog 168 [v.val, .int .i64 n] F M (Same F M (.int .i64 (v.fillF n))) := by
  refine callsA_of hm Tryz.func168 e168 (Nat.le_of_ble_eq_true rfl) ?_
  simp only [c168, go_sem, Int.reduceNeg]
  intro r hF hM
  simp only [go_sem, reduceCtorEq, reduceIte, Nat.reduceEqDiff, Int.reduceNeg]
  by_cases hb : bclr .i64 n v.free = v.bits
  · simp only [go_sem, reduceCtorEq, Nat.reduceEqDiff, Int.reduceNeg, hb]
    exact endK_drop hM (endK_same ⟨by simp [V.fillF, hb], rfl, rfl⟩)
  simp only [go_sem, Nat.reduceEqDiff, Int.reduceNeg, hb]
  refine loop_of (fillI v n F M r) v.w.toNat ?_ ?_
  · exact ⟨rfl, rfl, 0, by omega, by simp only [go_sem, reduceCtorEq, Nat.reduceEqDiff], by simp only [go_sem, Nat.reduceEqDiff], by simp only [go_sem, Nat.reduceEqDiff], by simp only [go_sem], by simp [V.fillF, hb]⟩
  · rintro m σ F' M' ⟨rfl, rfl, j, hj, h1, h2, h6, h5, hg⟩
    by_cases hjw : (j : Int) < v.w
    · obtain ⟨f, rfl⟩ : ∃ f, m = f + 1 := ⟨m - 1, by omega⟩
      have e1 : IntKind.i64.wrap ((j : Int) + 1) = j + 1 := w64 (by omega) (by omega)
      have e2 : ¬ ((j : Int) + 1 < 0) := by omega
      have e3 : ¬ ((j : Int) < 0) := by omega
      have e4 : shlv .i64 1 (j : Int) = 2 ^ j := by rw [shl1 (by omega) (by omega)]; simp
      have e5 : IntKind.i64.wrap ((2 : Int) ^ j - 1) = 2 ^ j - 1 := by
        have := most_wrap (w := (j : Int)) (by omega) (by omega)
        simpa [mostV] using this
      simp only [go_sem, reduceIte, Nat.reduceEqDiff, Int.reduceNeg, e3, e4, h1, h5, h6, hjw]
      simp only [V.fillGo] at hg
      by_cases a1 : band .i64 n (2 ^ j) = 0
      · simp only [go_sem, reduceIte, Nat.reduceEqDiff, Int.reduceNeg, e5, h1, h2, a1]
        by_cases a2 : bclr .i64 (bclr .i64 (bor .i64 (bclr .i64 n (2 ^ j - 1)) (2 ^ j)) v.free) (2 ^ j - 1) = bclr .i64 v.bits (2 ^ j - 1)
        · simp only [go_sem, reduceIte, Nat.reduceEqDiff, Int.reduceNeg, e5, h2, a2]
          exact endK_drop hM (endK_same ⟨by rw [← hg, V.fillStep, if_pos ⟨a1, a2⟩], rfl, rfl⟩)
        · simp only [go_sem, reduceIte, Nat.reduceEqDiff, Int.reduceNeg, e1, h5, a2]
          exact ⟨f, by omega, rfl, rfl, j + 1, by omega, by simp only [go_sem, Nat.reduceEqDiff, h1], by simp only [go_sem, Nat.reduceEqDiff, h2], by simp only [go_sem, Nat.reduceEqDiff, h6], by simp only [go_sem]; rfl, by rw [← hg, V.fillStep, if_neg (by simp [a2])]⟩
      · simp only [go_sem, reduceIte, Nat.reduceEqDiff, Int.reduceNeg, e1, h5, a1]
        exact ⟨f, by omega, rfl, rfl, j + 1, by omega, by simp only [go_sem, Nat.reduceEqDiff, h1], by simp only [go_sem, Nat.reduceEqDiff, h2], by simp only [go_sem, Nat.reduceEqDiff, h6], by simp only [go_sem]; rfl, by rw [← hg, V.fillStep, if_neg (by simp [a1])]⟩
    · simp only [go_sem, reduceIte, Int.reduceNeg, h5, h6, hjw]
      obtain rfl : m = 0 := by omega
      exact endK_drop hM (endK_same ⟨by rw [← hg]; rfl, rfl, rfl⟩)
end Go.Proofs.Tryz.K
namespace Go.Proofs.Tryz.K
open Go Go.Ax Go.Proofs.Tryz.S
set_option maxRecDepth 100000
set_option linter.unusedSimpArgs false
set_option linter.unusedVariables false
variable (F : Fz) (M : Hp)
theorem k167 (v : V) (h0 : 0 ≤ v.w) (hw : v.w ≤ 62) : CallsA Tryz.prog 167 [v.val] F M fun u F' M' => F' = F ∧ ∃ r, F r = none ∧ M r = none ∧
    ((v.low ≤ v.high ∧ u = .slice (some ⟨r, 0, none⟩) 1 1 ∧ M' = M.upd r ⟨[.int .i64 v.low, .int .i64 v.high], 184, 2⟩) ∨
     (¬ v.low ≤ v.high ∧ u = .slice (some ⟨r, 0, none⟩) 2 2 ∧ M' = M.upd r ⟨[.int .i64 0, .int .i64 v.high, .int .i64 v.low, .int .i64 (mostV v.w)], 184, 4⟩)) := by
  refine callsA_of hm Tryz.func167 e167 (Nat.le_of_ble_eq_true rfl) ?_
  simp only [c167, go_sem]
  intro r hF hM
  simp only [go_sem, reduceIte, Nat.reduceEqDiff]
  by_cases hlh : v.low ≤ v.high
  · simp only [go_sem, reduceIte, Nat.reduceEqDiff, Nat.reduceAdd, Nat.reduceLeDiff, hlh]
    intro r1 hF1 hM1
    have g := fresh_of hM1
    simp only [go_sem]
    refine endK_comm g.2.1 (endK_drop (by rw [upd_none]; exact ⟨g.2.1, hM⟩) (endK_same ⟨rfl, r1, hF1, g.2.2, .inl ⟨rfl, rfl⟩⟩))
  · simp only [go_sem, reduceIte, Nat.reduceEqDiff, Nat.reduceAdd, Nat.reduceLeDiff, hlh]
    refine callK_same (k148 F _ v.w h0 hw) ?_
    simp only [go_sem, reduceIte, Nat.reduceEqDiff, Nat.reduceAdd, Nat.reduceLeDiff]
    intro r1 hF1 hM1
    have g := fresh_of hM1
    simp only [go_sem]
    refine endK_comm g.2.1 (endK_drop (by rw [upd_none]; exact ⟨g.2.1, hM⟩) (endK_same ⟨rfl, r1, hF1, g.2.2, rfl, rfl⟩))
def fromI (v : V) (n : Int) (F : Fz) (M : Hp) (r r1 len : Nat) (cells : List Value) (m : Nat) (σ : Env) (F' : Fz) (M' : Hp) : Prop :=
  F' = F ∧ M' r = some ⟨v.cs, 65, 6⟩ ∧ M' r1 = some ⟨cells, 184, cells.length⟩ ∧ Wk F M' F M ∧ Ax.look σ 1 = some (.int .i64 n) ∧ Ax.look σ 2 = some (.pointer (some ⟨r, 0, none⟩)) ∧
    Ax.look σ 18 = some (.slice (some ⟨r1, 0, none⟩) len len) ∧ Ax.look σ 19 = some (.int .i64 len) ∧
    (m = len ∧ Ax.look σ 20 = some (.int .i64 0) ∨ m + 1 = len ∧ Ax.look σ 20 = some (.int .i64 1) ∧ v.tryP n v.p0 = none ∨ len = 2 ∧ m = 0 ∧ Ax.look σ 20 = some (.int .i64 2) ∧ v.tryP n v.p0 = none ∧ v.tryP n v.p1 = none)
theorem k166 (v : V) (n : Int) (hv : v.ok = true) : CallsA Tryz.prog 166 [v.val, .int .i64 n] F M (Same F M (.int .i64 (v.nextR n))) := by
  refine callsA_of hm Tryz.func166 e166 (Nat.le_of_ble_eq_true rfl) ?_
  have hl := isW_le (ok_isW hv)
  simp only [c166, go_sem, Int.reduceNeg]
  intro r hF hM
  simp only [go_sem, Nat.reduceEqDiff, Int.reduceNeg]
  cases hno : v.no
  rotate_left
  · simp only [go_sem, reduceIte, Nat.reduceEqDiff, Int.reduceNeg]
    exact endK_drop hM (endK_same ⟨by simp [V.nextR, hno], rfl, rfl⟩)
  simp only [go_sem, reduceCtorEq, Nat.reduceEqDiff, Int.reduceNeg]
  refine callK_same (k148 F _ v.w hl.1 hl.2) ?_
  by_cases hbig : mostV v.w < n
  · simp only [go_sem, reduceCtorEq, reduceIte, Nat.reduceEqDiff, Int.reduceNeg, hbig]
    exact endK_drop hM (endK_same ⟨by rw [V.nextR, if_pos (.inr (by unfold mostV at hbig; omega))], rfl, rfl⟩)
  have hc : ¬ (v.no = true ∨ 2 ^ v.w.toNat ≤ n) := by unfold mostV at hbig; simp [hno]; omega
  obtain ⟨hp0, hp1, hq0, hq1⟩ := parts_in hv hno
  simp only [go_sem, reduceCtorEq, reduceIte, Nat.reduceEqDiff, Int.reduceNeg, hbig]
  refine callK_of (k167 F _ v hl.1 hl.2) ?_
  rintro u G' M' ⟨hG, r1, hF1, hM1, ⟨hlh, rfl, rfl⟩ | ⟨hlh, rfl, rfl⟩⟩ <;> rw [hG]
  · have g1 := fresh_of hM1
    refine ⟨(fun h => by cases h), ?_⟩
    simp only [go_sem, Int.reduceNeg]
    refine loop_of (fromI v n F M r r1 1 [.int .i64 v.p0.1, .int .i64 v.p0.2]) 1 ?_ ?_
    · exact ⟨rfl, by rw [Hp.upd_ne' g1.2.1]; exact Hp.upd_same _ _ _, (Hp.upd_same _ _ _).trans (by simp [V.p0, hlh]), (Wk.drop hM1).trans (Wk.drop hM), by simp only [go_sem, reduceCtorEq, Nat.reduceEqDiff], by simp only [go_sem, Nat.reduceEqDiff], by simp only [go_sem, Nat.reduceEqDiff], by simp only [go_sem, Nat.reduceEqDiff], .inl ⟨rfl, by simp only [go_sem]⟩⟩
    rintro m σ F' M' ⟨rfl, f1, f2, hk, h1, h2, h18, h19, h20⟩
    have b1 := blk_M (F := F') f1
    have b2 := blk_M (F := F') f2
    rcases h20 with ⟨rfl, h20⟩ | ⟨hm1, h20, t0⟩ | ⟨hcf, _⟩
    · simp only [go_sem, reduceIte, Nat.reduceEqDiff, Nat.reduceAdd, Nat.reduceMul, Int.reduceLT, Int.reduceLE, Int.reduceNeg, Int.reduceToNat, h18, h19, b2, h20]
      intro rp hFp hMp
      have g2 := ne_of_none hMp f1
      have g3 := ne_of_none hMp f2
      simp only [go_sem, reduceIte, Nat.reduceEqDiff, Nat.reduceAdd, Nat.reduceMul, Int.reduceLT, Int.reduceLE, Int.reduceNeg, Int.reduceToNat, h1]
      by_cases a1 : v.p0.2 < n
      · simp only [go_sem, reduceIte, Nat.reduceEqDiff, Int.reduceLE, Int.reduceAdd, Int.reduceNeg, h20, a1]
        have t0 : v.tryP n v.p0 = none := tryP_out (.inl a1)
        exact ⟨0, by omega, rfl, by rw [Hp.upd_ne' g2.1]; exact f1, by rw [Hp.upd_ne' g3.1]; exact f2, (Wk.drop hMp).trans hk, by simp only [go_sem, Nat.reduceEqDiff, h1], by simp only [go_sem, Nat.reduceEqDiff, h2], by simp only [go_sem, Nat.reduceEqDiff, h18], by simp only [go_sem, Nat.reduceEqDiff, h19], .inr (.inl ⟨rfl, by simp only [go_sem], t0⟩)⟩
      · have hle : v.p0.1 ≤ v.p0.2 := hp0
        have hmx := mx_in (n := n) (p := v.p0) a1 hle
        have hfm := fillF_eq hv hno (n := mx n v.p0.1) (by have := hq0; omega) (by have := hq0; omega)
        simp only [go_sem, reduceIte, Nat.reduceEqDiff, Nat.reduceMul, Int.reduceLT, Int.reduceLE, Int.reduceNeg, Int.reduceToNat, h1, h2, b1, g2, a1]
        refine callK_same (k168 _ _ v (mx n v.p0.1) hl.2) ?_
        rw [hfm]
        by_cases a2 : 0 ≤ v.matchF (mx n v.p0.1)
        · simp only [go_sem, reduceIte, Nat.reduceEqDiff, Nat.reduceMul, Int.reduceLT, Int.reduceLE, Int.reduceNeg, Int.reduceToNat, a2]
          by_cases a3 : v.matchF (mx n v.p0.1) ≤ v.p0.2
          · simp only [go_sem, Nat.reduceEqDiff, Int.reduceNeg, a3]
            have q : v.tryP n v.p0 = some (v.matchF (mx n v.p0.1)) := tryP_hit hmx.2 a2 a3
            exact ⟨_, _, (Wk.drop hMp).trans hk, by simp [V.nextR, hc, q], rfl, rfl⟩
          · simp only [go_sem, reduceIte, Nat.reduceEqDiff, Int.reduceLE, Int.reduceAdd, Int.reduceNeg, h20, a3]
            have t0 : v.tryP n v.p0 = none := tryP_out (.inr (.inr a3))
            exact ⟨0, by omega, rfl, by rw [Hp.upd_ne' g2.1]; exact f1, by rw [Hp.upd_ne' g3.1]; exact f2, (Wk.drop hMp).trans hk, by simp only [go_sem, Nat.reduceEqDiff, h1], by simp only [go_sem, Nat.reduceEqDiff, h2], by simp only [go_sem, Nat.reduceEqDiff, h18], by simp only [go_sem, Nat.reduceEqDiff, h19], .inr (.inl ⟨rfl, by simp only [go_sem], t0⟩)⟩
        · simp only [go_sem, reduceCtorEq, reduceIte, Nat.reduceEqDiff, Int.reduceLE, Int.reduceAdd, Int.reduceNeg, h20, a2]
          have t0 : v.tryP n v.p0 = none := tryP_out (.inr (.inl a2))
          exact ⟨0, by omega, rfl, by rw [Hp.upd_ne' g2.1]; exact f1, by rw [Hp.upd_ne' g3.1]; exact f2, (Wk.drop hMp).trans hk, by simp only [go_sem, Nat.reduceEqDiff, h1], by simp only [go_sem, Nat.reduceEqDiff, h2], by simp only [go_sem, Nat.reduceEqDiff, h18], by simp only [go_sem, Nat.reduceEqDiff, h19], .inr (.inl ⟨rfl, by simp only [go_sem], t0⟩)⟩
    · obtain rfl : m = 0 := by omega
      simp only [go_sem, reduceIte, Int.reduceLT, Int.reduceNeg, h19, h20]
      have t1 : v.tryP n v.p1 = none := by rw [show v.p1 = (0, -1) by simp [V.p1, hlh]]; exact tryP_void
      exact ⟨_, _, hk, by simp [V.nextR, hc, t0, t1], rfl, rfl⟩
    · simp at hcf
  · have g1 := fresh_of hM1
    refine ⟨(fun h => by cases h), ?_⟩
    simp only [go_sem, Int.reduceNeg]
    refine loop_of (fromI v n F M r r1 2 [.int .i64 v.p0.1, .int .i64 v.p0.2, .int .i64 v.p1.1, .int .i64 v.p1.2]) 2 ?_ ?_
    · exact ⟨rfl, by rw [Hp.upd_ne' g1.2.1]; exact Hp.upd_same _ _ _, (Hp.upd_same _ _ _).trans (by simp [V.p0, V.p1, hlh]), (Wk.drop hM1).trans (Wk.drop hM), by simp only [go_sem, reduceCtorEq, Nat.reduceEqDiff], by simp only [go_sem, Nat.reduceEqDiff], by simp only [go_sem, Nat.reduceEqDiff], by simp only [go_sem, Nat.reduceEqDiff], .inl ⟨rfl, by simp only [go_sem]⟩⟩
    rintro m σ F' M' ⟨rfl, f1, f2, hk, h1, h2, h18, h19, h20⟩
    have b1 := blk_M (F := F') f1
    have b2 := blk_M (F := F') f2
    rcases h20 with ⟨rfl, h20⟩ | ⟨hm1, h20, t0⟩ | ⟨_, rfl, h20, t0, t1⟩
    · simp only [go_sem, reduceIte, Nat.reduceEqDiff, Nat.reduceAdd, Nat.reduceLeDiff, Nat.reduceMul, Int.reduceLT, Int.reduceLE, Int.reduceNeg, Int.reduceToNat, h18, h19, b2, h20]
      intro rp hFp hMp
      have g2 := ne_of_none hMp f1
      have g3 := ne_of_none hMp f2
      simp only [go_sem, reduceIte, Nat.reduceEqDiff, Nat.reduceAdd, Nat.reduceMul, Int.reduceLT, Int.reduceLE, Int.reduceNeg, Int.reduceToNat, h1]
      by_cases a1 : v.p0.2 < n
      · simp only [go_sem, reduceIte, Nat.reduceEqDiff, Int.reduceLE, Int.reduceAdd, Int.reduceNeg, h20, a1]
        have t0 : v.tryP n v.p0 = none := tryP_out (.inl a1)
        exact ⟨1, by omega, rfl, by rw [Hp.upd_ne' g2.1]; exact f1, by rw [Hp.upd_ne' g3.1]; exact f2, (Wk.drop hMp).trans hk, by simp only [go_sem, Nat.reduceEqDiff, h1], by simp only [go_sem, Nat.reduceEqDiff, h2], by simp only [go_sem, Nat.reduceEqDiff, h18], by simp only [go_sem, Nat.reduceEqDiff, h19], .inr (.inl ⟨rfl, by simp only [go_sem], t0⟩)⟩
      · have hle : v.p0.1 ≤ v.p0.2 := hp0
        have hmx := mx_in (n := n) (p := v.p0) a1 hle
        have hfm := fillF_eq hv hno (n := mx n v.p0.1) (by have := hq0; omega) (by have := hq0; omega)
        simp only [go_sem, reduceIte, Nat.reduceEqDiff, Nat.reduceMul, Int.reduceLT, Int.reduceLE, Int.reduceNeg, Int.reduceToNat, h1, h2, b1, g2, a1]
        refine callK_same (k168 _ _ v (mx n v.p0.1) hl.2) ?_
        rw [hfm]
        by_cases a2 : 0 ≤ v.matchF (mx n v.p0.1)
        · simp only [go_sem, reduceIte, Nat.reduceEqDiff, Nat.reduceMul, Int.reduceLT, Int.reduceLE, Int.reduceNeg, Int.reduceToNat, a2]
          by_cases a3 : v.matchF (mx n v.p0.1) ≤ v.p0.2
          · simp only [go_sem, Nat.reduceEqDiff, Int.reduceNeg, a3]
            have q : v.tryP n v.p0 = some (v.matchF (mx n v.p0.1)) := tryP_hit hmx.2 a2 a3
            exact ⟨_, _, (Wk.drop hMp).trans hk, by simp [V.nextR, hc, q], rfl, rfl⟩
          · simp only [go_sem, reduceIte, Nat.reduceEqDiff, Int.reduceLE, Int.reduceAdd, Int.reduceNeg, h20, a3]
            have t0 : v.tryP n v.p0 = none := tryP_out (.inr (.inr a3))
            exact ⟨1, by omega, rfl, by rw [Hp.upd_ne' g2.1]; exact f1, by rw [Hp.upd_ne' g3.1]; exact f2, (Wk.drop hMp).trans hk, by simp only [go_sem, Nat.reduceEqDiff, h1], by simp only [go_sem, Nat.reduceEqDiff, h2], by simp only [go_sem, Nat.reduceEqDiff, h18], by simp only [go_sem, Nat.reduceEqDiff, h19], .inr (.inl ⟨rfl, by simp only [go_sem], t0⟩)⟩
        · simp only [go_sem, reduceCtorEq, reduceIte, Nat.reduceEqDiff, Int.reduceLE, Int.reduceAdd, Int.reduceNeg, h20, a2]
          have t0 : v.tryP n v.p0 = none := tryP_out (.inr (.inl a2))
          exact ⟨1, by omega, rfl, by rw [Hp.upd_ne' g2.1]; exact f1, by rw [Hp.upd_ne' g3.1]; exact f2, (Wk.drop hMp).trans hk, by simp only [go_sem, Nat.reduceEqDiff, h1], by simp only [go_sem, Nat.reduceEqDiff, h2], by simp only [go_sem, Nat.reduceEqDiff, h18], by simp only [go_sem, Nat.reduceEqDiff, h19], .inr (.inl ⟨rfl, by simp only [go_sem], t0⟩)⟩
    · obtain rfl : m = 1 := by omega
      simp only [go_sem, reduceIte, Nat.reduceEqDiff, Nat.reduceAdd, Nat.reduceMul, Int.reduceLT, Int.reduceLE, Int.reduceNeg, Int.reduceToNat, h18, h19, b2, h20]
      intro rp hFp hMp
      have g2 := ne_of_none hMp f1
      have g3 := ne_of_none hMp f2
      simp only [go_sem, reduceIte, Nat.reduceEqDiff, Nat.reduceAdd, Nat.reduceMul, Int.reduceLT, Int.reduceLE, Int.reduceNeg, Int.reduceToNat, h1]
      by_cases a1 : v.p1.2 < n
      · simp only [go_sem, reduceIte, Nat.reduceEqDiff, Int.reduceLE, Int.reduceAdd, Int.reduceNeg, h20, a1]
        have t1 : v.tryP n v.p1 = none := tryP_out (.inl a1)
        exact ⟨0, by omega, rfl, by rw [Hp.upd_ne' g2.1]; exact f1, by rw [Hp.upd_ne' g3.1]; exact f2, (Wk.drop hMp).trans hk, by simp only [go_sem, Nat.reduceEqDiff, h1], by simp only [go_sem, Nat.reduceEqDiff, h2], by simp only [go_sem, Nat.reduceEqDiff, h18], by simp only [go_sem, Nat.reduceEqDiff, h19], .inr (.inr ⟨rfl, rfl, by simp only [go_sem], t0, t1⟩)⟩
      · have hle : v.p1.1 ≤ v.p1.2 := hp1 hlh
        have hmx := mx_in (n := n) (p := v.p1) a1 hle
        have hfm := fillF_eq hv hno (n := mx n v.p1.1) (by have := hq1; omega) (by have := hq1; omega)
        simp only [go_sem, reduceIte, Nat.reduceEqDiff, Nat.reduceMul, Int.reduceLT, Int.reduceLE, Int.reduceNeg, Int.reduceToNat, h1, h2, b1, g2, a1]
        refine callK_same (k168 _ _ v (mx n v.p1.1) hl.2) ?_
        rw [hfm]
        by_cases a2 : 0 ≤ v.matchF (mx n v.p1.1)
        · simp only [go_sem, reduceIte, Nat.reduceEqDiff, Nat.reduceMul, Int.reduceLT, Int.reduceLE, Int.reduceNeg, Int.reduceToNat, a2]
          by_cases a3 : v.matchF (mx n v.p1.1) ≤ v.p1.2
          · simp only [go_sem, Nat.reduceEqDiff, Int.reduceNeg, a3]
            have q : v.tryP n v.p1 = some (v.matchF (mx n v.p1.1)) := tryP_hit hmx.2 a2 a3
            exact ⟨_, _, (Wk.drop hMp).trans hk, by simp [V.nextR, hc, q, t0], rfl, rfl⟩
          · simp only [go_sem, reduceIte, Nat.reduceEqDiff, Int.reduceLE, Int.reduceAdd, Int.reduceNeg, h20, a3]
            have t1 : v.tryP n v.p1 = none := tryP_out (.inr (.inr a3))
            exact ⟨0, by omega, rfl, by rw [Hp.upd_ne' g2.1]; exact f1, by rw [Hp.upd_ne' g3.1]; exact f2, (Wk.drop hMp).trans hk, by simp only [go_sem, Nat.reduceEqDiff, h1], by simp only [go_sem, Nat.reduceEqDiff, h2], by simp only [go_sem, Nat.reduceEqDiff, h18], by simp only [go_sem, Nat.reduceEqDiff, h19], .inr (.inr ⟨rfl, rfl, by simp only [go_sem], t0, t1⟩)⟩
        · simp only [go_sem, reduceCtorEq, reduceIte, Nat.reduceEqDiff, Int.reduceLE, Int.reduceAdd, Int.reduceNeg, h20, a2]
          have t1 : v.tryP n v.p1 = none := tryP_out (.inr (.inl a2))
          exact ⟨0, by omega, rfl, by rw [Hp.upd_ne' g2.1]; exact f1, by rw [Hp.upd_ne' g3.1]; exact f2, (Wk.drop hMp).trans hk, by simp only [go_sem, Nat.reduceEqDiff, h1], by simp only [go_sem, Nat.reduceEqDiff, h2], by simp only [go_sem, Nat.reduceEqDiff, h18], by simp only [go_sem, Nat.reduceEqDiff, h19], .inr (.inr ⟨rfl, rfl, by simp only [go_sem], t0, t1⟩)⟩
    · simp only [go_sem, reduceIte, Int.reduceLT, Int.reduceNeg, h19, h20]
      exact ⟨_, _, hk, by simp [V.nextR, hc, t0, t1], rfl, rfl⟩
end Go.Proofs.Tryz.K
namespace Go.Proofs.Tryz.K
open Go Go.Ax Go.Proofs.Tryz.S
set_option maxRecDepth 100000
set_option linter.unusedSimpArgs false
set_option linter.unusedVariables false
variable (F : Fz) (M : Hp)
def matchI (v : V) (n : Int) (F : Fz) (M : Hp) (r : Nat) (m : Nat) (σ : Env) (F' : Fz) (M' : Hp) : Prop :=
  F' = F ∧ M' = M.upd r ⟨v.cs, 65, 6⟩ ∧ ∃ j : Nat, j + m = v.w.toNat ∧ Ax.look σ 1 = some (.int .i64 n) ∧ Ax.look σ 2 = some (.pointer (some ⟨r, 0, none⟩)) ∧ Ax.look σ 5 = some (.int .i64 j) ∧ v.matchGo n m j = v.matchF n
theorem k139 (v : V) (n : Int) (hw : v.w ≤ 62) : CallsA Tryz.prog 139 [v.val, .int .i64 n] F M (Same F M (.int .i64 (v.matchF n))) := by
  refine callsA_of hm Tryz.func139 e139 (Nat.le_of_ble_eq_true rfl) ?_
  simp only [c139, go_sem, Int.reduceNeg]
  intro r hF hM
  simp only [go_sem, reduceCtorEq, reduceIte, Nat.reduceEqDiff, Int.reduceNeg]
  by_cases hb : bclr .i64 n v.free = v.bits
  · simp only [go_sem, reduceCtorEq, Nat.reduceEqDiff, Int.reduceNeg, hb]
    exact endK_drop hM (endK_same ⟨by simp [V.matchF, hb], rfl, rfl⟩)
  simp only [go_sem, Int.reduceNeg, hb]
  refine loop_of (matchI v n F M r) v.w.toNat ?_ ?_
  · exact ⟨rfl, rfl, 0, by omega, by simp only [go_sem, reduceCtorEq, Nat.reduceEqDiff], by simp only [go_sem, Nat.reduceEqDiff], by simp only [go_sem], by simp [V.matchF, hb]⟩
  · rintro m σ F' M' ⟨rfl, rfl, j, hj, h1, h2, h5, hg⟩
    by_cases hjw : (j : Int) < v.w
    · obtain ⟨f, rfl⟩ : ∃ f, m = f + 1 := ⟨m - 1, by omega⟩
      have e1 : IntKind.i64.wrap ((j : Int) + 1) = j + 1 := w64 (by omega) (by omega)
      have e2 : ¬ ((j : Int) + 1 < 0) := by omega
      have e3 : ¬ ((j : Int) < 0) := by omega
      have e4 : shlv .i64 1 (j : Int) = 2 ^ j := by rw [shl1 (by omega) (by omega)]; simp
      have e5 : IntKind.i64.wrap ((2 : Int) ^ j - 1) = 2 ^ j - 1 := by
        have := most_wrap (w := (j : Int)) (by omega) (by omega)
        simpa [mostV] using this
      simp only [go_sem, reduceIte, Nat.reduceEqDiff, Int.reduceNeg, h1, h2, h5, hjw, e1, e2]
      simp only [V.matchGo] at hg
      by_cases a1 : shrv .i64 (bxor .i64 (bclr .i64 n v.free) v.bits) (j + 1) = 0
      · simp only [go_sem, reduceIte, Nat.reduceEqDiff, Int.reduceNeg, e3, h1, h5, a1]
        by_cases a2 : band .i64 (shrv .i64 n j) 1 = 0
        · simp only [go_sem, reduceIte, Nat.reduceEqDiff, Int.reduceNeg, e3, h2, h5, a2]
          by_cases a3 : band .i64 (shrv .i64 v.free j) 1 = 1
          · simp only [go_sem, reduceIte, Nat.reduceEqDiff, Int.reduceNeg, e1, e2, e3, e4, e5, h1, h2, h5, a3]
            exact endK_drop hM (endK_same ⟨by rw [← hg, V.matchStep, if_pos ⟨a1, a2, .inl a3⟩], rfl, rfl⟩)
          · simp only [go_sem, reduceCtorEq, reduceIte, Nat.reduceEqDiff, Int.reduceNeg, e3, h2, h5, a3]
            by_cases a4 : band .i64 (shrv .i64 v.bits j) 1 = 1
            · simp only [go_sem, reduceIte, Nat.reduceEqDiff, Int.reduceNeg, e1, e2, e3, e4, e5, h1, h2, h5, a4]
              exact endK_drop hM (endK_same ⟨by rw [← hg, V.matchStep, if_pos ⟨a1, a2, .inr a4⟩], rfl, rfl⟩)
            · simp only [go_sem, reduceIte, Nat.reduceEqDiff, Int.reduceNeg, e1, h5, a4]
              exact ⟨f, by omega, rfl, rfl, j + 1, by omega, by simp only [go_sem, Nat.reduceEqDiff, h1], by simp only [go_sem, Nat.reduceEqDiff, h2], by simp only [go_sem]; rfl, by rw [← hg, V.matchStep, if_neg (by simp [a3, a4])]⟩
        · simp only [go_sem, reduceCtorEq, reduceIte, Nat.reduceEqDiff, Int.reduceNeg, e1, h5, a2]
          exact ⟨f, by omega, rfl, rfl, j + 1, by omega, by simp only [go_sem, Nat.reduceEqDiff, h1], by simp only [go_sem, Nat.reduceEqDiff, h2], by simp only [go_sem]; rfl, by rw [← hg, V.matchStep, if_neg (by simp [a2])]⟩
      · simp only [go_sem, reduceCtorEq, reduceIte, Nat.reduceEqDiff, Int.reduceNeg, e1, h5, a1]
        exact ⟨f, by omega, rfl, rfl, j + 1, by omega, by simp only [go_sem, Nat.reduceEqDiff, h1], by simp only [go_sem, Nat.reduceEqDiff, h2], by simp only [go_sem]; rfl, by rw [← hg, V.matchStep, if_neg (by simp [a1])]⟩
    · simp only [go_sem, reduceIte, Nat.reduceEqDiff, Int.reduceNeg, h2, h5, hjw]
      obtain rfl : m = 0 := by omega
      exact endK_drop hM (endK_same ⟨by rw [← hg]; rfl, rfl, rfl⟩)
end Go.Proofs.Tryz.K
namespace Go.Proofs.Tryz.K
open Go Go.Ax Go.Proofs.Tryz.S
set_option maxRecDepth 100000
set_option linter.unusedSimpArgs false
set_option linter.unusedVariables false
variable (F : Fz) (M : Hp)
def nextI (v : V) (n : Int) (F : Fz) (M : Hp) (r ra rb : Nat) (m : Nat) (σ : Env) (F' : Fz) (M' : Hp) : Prop :=
  F' = F ∧ M' = M ∧ Ax.look σ 1 = some (.int .i64 n) ∧ Ax.look σ 2 = some (.pointer (some ⟨r, 0, none⟩)) ∧
    Ax.look σ 5 = some (.slice (some ⟨ra, 0, none⟩) 2 2) ∧ Ax.look σ 6 = some (.slice (some ⟨rb, 0, none⟩) 2 2) ∧
    (m = 2 ∧ Ax.look σ 7 = some (.int .i64 0) ∨ m = 1 ∧ Ax.look σ 7 = some (.int .i64 1) ∧ v.tryP n v.p0 = none ∨ m = 0 ∧ Ax.look σ 7 = some (.int .i64 2) ∧ v.tryP n v.p0 = none ∧ v.tryP n v.p1 = none)
theorem k116 (v : V) (n : Int) (h0 : 0 ≤ v.w) (hw : v.w ≤ 62) : CallsA Tryz.prog 116 [v.val, .int .i64 n] F M (Same F M (.int .i64 (v.nextR n))) := by
  refine callsA_of hm Tryz.func116 e116 (Nat.le_of_ble_eq_true rfl) ?_
  simp only [c116, go_sem, Int.reduceNeg]
  intro r hF hM
  simp only [go_sem, Nat.reduceEqDiff, Int.reduceNeg]
  have w0 : ¬ v.w < 0 := by omega
  cases hno : v.no
  rotate_left
  · simp only [go_sem, reduceIte, Nat.reduceEqDiff, Int.reduceNeg]
    exact endK_drop hM (endK_same ⟨by simp [V.nextR, hno], rfl, rfl⟩)
  by_cases hbig : 2 ^ v.w.toNat ≤ n
  · simp only [go_sem, reduceCtorEq, reduceIte, Nat.reduceEqDiff, Int.reduceNeg, w0, shl1 h0 hw, hbig]
    exact endK_drop hM (endK_same ⟨by simp [V.nextR, hbig], rfl, rfl⟩)
  have hc : ¬ (v.no = true ∨ 2 ^ v.w.toNat ≤ n) := by simp [hno]; omega
  simp only [go_sem, reduceCtorEq, reduceIte, Nat.reduceEqDiff, Nat.reduceAdd, Nat.reduceLeDiff, Int.reduceNeg, w0, shl1 h0 hw, hbig]
  by_cases hlh : v.high < v.low
  · have hlh' : ¬ v.low ≤ v.high := by omega
    intro rx hFx hMx
    have gx := fresh_of hMx
    simp only [go_sem, reduceIte, Nat.reduceEqDiff, Nat.reduceAdd, Nat.reduceLeDiff, Int.reduceNeg, gx]
    intro ry hFy hMy
    have gy := fresh_of hMy
    have gy' := fresh_of gy.2.2
    simp only [go_sem, reduceIte, Nat.reduceEqDiff, Nat.reduceAdd, Nat.reduceLeDiff, Int.reduceNeg, gx, gy', hlh, w0, shl1 h0 hw, most_wrap h0 hw]
    intro ra hFa hMa
    simp only [go_sem, reduceIte, Nat.reduceEqDiff, Nat.reduceAdd, Nat.reduceLeDiff, Int.reduceNeg]
    intro rb hFb hMb
    have ga := fresh_of hMa
    have ga' := fresh_of ga.2.2
    have ga'' := fresh_of ga'.2.2
    have gb := fresh_of hMb
    have gb' := fresh_of gb.2.2
    have gb'' := fresh_of gb'.2.2
    have gb3 := fresh_of gb''.2.2
    simp only [go_sem, Int.reduceNeg]
    have hk : Wk F (((((M.upd r ⟨v.cs, 65, 6⟩).upd rx ⟨[.int .i64 v.low, .int .i64 0], 3, 2⟩).upd ry ⟨[.int .i64 v.high, .int .i64 (-1)], 3, 2⟩).upd ra ⟨[.int .i64 0, .int .i64 v.low], 3, 2⟩).upd rb ⟨[.int .i64 v.high, .int .i64 (mostV v.w)], 3, 2⟩) F M := (Wk.drop hMb).trans ((Wk.drop hMa).trans ((Wk.drop hMy).trans ((Wk.drop hMx).trans (Wk.drop hM))))
    generalize hM' : ((((M.upd r ⟨v.cs, 65, 6⟩).upd rx ⟨[.int .i64 v.low, .int .i64 0], 3, 2⟩).upd ry ⟨[.int .i64 v.high, .int .i64 (-1)], 3, 2⟩).upd ra ⟨[.int .i64 0, .int .i64 v.low], 3, 2⟩).upd rb ⟨[.int .i64 v.high, .int .i64 (mostV v.w)], 3, 2⟩ = M' at *
    have f1 : M' r = some ⟨v.cs, 65, 6⟩ := by subst hM'; simp only [go_sem, Int.reduceNeg, gx, gy', ga'', gb3]
    have f2 : M' ra = some ⟨[.int .i64 v.p0.1, .int .i64 v.p1.1], 3, 2⟩ := by subst hM'; simp only [go_sem, reduceIte, Int.reduceNeg, gb, V.p0, V.p1, hlh']
    have f3 : M' rb = some ⟨[.int .i64 v.p0.2, .int .i64 v.p1.2], 3, 2⟩ := by subst hM'; simp only [go_sem, reduceIte, Int.reduceNeg, V.p0, V.p1, hlh']
    clear hM'
    have b1 := blk_M (F := F) f1
    have b2 := blk_M (F := F) f2
    have b3 := blk_M (F := F) f3
    refine loop_of (nextI v n F M' r ra rb) 2 ?_ ?_
    · exact ⟨rfl, rfl, by simp only [go_sem, reduceCtorEq, Nat.reduceEqDiff], by simp only [go_sem, Nat.reduceEqDiff], by simp only [go_sem, Nat.reduceEqDiff], by simp only [go_sem, Nat.reduceEqDiff], .inl ⟨rfl, by simp only [go_sem]⟩⟩
    · rintro m σ F'' M'' ⟨rfl, rfl, h1, h2, h5, h6, h7⟩
      rcases h7 with ⟨rfl, h7⟩ | ⟨rfl, h7, t0⟩ | ⟨rfl, h7, t0, t1⟩
      · simp only [go_sem, reduceIte, Nat.reduceEqDiff, Nat.reduceMul, Int.reduceLT, Int.reduceLE, Int.reduceNeg, Int.reduceToNat, b2, b3, h1, h5, h6, h7]
        by_cases a1 : v.p0.2 < mx n v.p0.1
        · simp only [go_sem, reduceIte, Nat.reduceEqDiff, Int.reduceLE, Int.reduceAdd, Int.reduceNeg, h7, a1]
          have t0 : v.tryP n v.p0 = none := by simp [V.tryP, a1]
          exact ⟨1, by omega, rfl, rfl, by simp only [go_sem, Nat.reduceEqDiff, h1], by simp only [go_sem, Nat.reduceEqDiff, h2], by simp only [go_sem, Nat.reduceEqDiff, h5], by simp only [go_sem, Nat.reduceEqDiff, h6], by simp only [go_sem, reduceCtorEq, Nat.reduceEqDiff, t0]⟩
        · simp only [go_sem, reduceIte, Nat.reduceEqDiff, Nat.reduceMul, Int.reduceLT, Int.reduceLE, Int.reduceNeg, Int.reduceToNat, b1, b2, h1, h2, h5, h7, a1]
          refine callK_same (k139 _ _ v (mx n v.p0.1) hw) ?_
          by_cases a2 : 0 ≤ v.matchF (mx n v.p0.1)
          · simp only [go_sem, reduceIte, Nat.reduceEqDiff, Nat.reduceMul, Int.reduceLT, Int.reduceLE, Int.reduceNeg, Int.reduceToNat, b3, h6, h7, a2]
            by_cases a3 : v.matchF (mx n v.p0.1) ≤ v.p0.2
            · simp only [go_sem, Nat.reduceEqDiff, Int.reduceNeg, a3]
              have q : v.tryP n v.p0 = some (v.matchF (mx n v.p0.1)) := by simp [V.tryP, a1, a2, a3]
              exact ⟨_, _, hk, by simp [V.nextR, hc, q], rfl, rfl⟩
            · simp only [go_sem, reduceIte, Nat.reduceEqDiff, Int.reduceLE, Int.reduceAdd, Int.reduceNeg, h7, a3]
              have t0 : v.tryP n v.p0 = none := by simp [V.tryP, a1, a2, a3]
              exact ⟨1, by omega, rfl, rfl, by simp only [go_sem, Nat.reduceEqDiff, h1], by simp only [go_sem, Nat.reduceEqDiff, h2], by simp only [go_sem, Nat.reduceEqDiff, h5], by simp only [go_sem, Nat.reduceEqDiff, h6], by simp only [go_sem, reduceCtorEq, Nat.reduceEqDiff, t0]⟩
          · simp only [go_sem, reduceCtorEq, reduceIte, Nat.reduceEqDiff, Int.reduceLE, Int.reduceAdd, Int.reduceNeg, h7, a2]
            have t0 : v.tryP n v.p0 = none := by simp [V.tryP, a1, a2]
            exact ⟨1, by omega, rfl, rfl, by simp only [go_sem, Nat.reduceEqDiff, h1], by simp only [go_sem, Nat.reduceEqDiff, h2], by simp only [go_sem, Nat.reduceEqDiff, h5], by simp only [go_sem, Nat.reduceEqDiff, h6], by simp only [go_sem, reduceCtorEq, Nat.reduceEqDiff, t0]⟩
      · simp only [go_sem, reduceIte, Nat.reduceEqDiff, Nat.reduceMul, Int.reduceLT, Int.reduceLE, Int.reduceNeg, Int.reduceToNat, b2, b3, h1, h5, h6, h7]
        by_cases a1 : v.p1.2 < mx n v.p1.1
        · simp only [go_sem, reduceIte, Nat.reduceEqDiff, Int.reduceLE, Int.reduceAdd, Int.reduceNeg, h7, a1]
          have t1 : v.tryP n v.p1 = none := by simp [V.tryP, a1]
          exact ⟨0, by omega, rfl, rfl, by simp only [go_sem, Nat.reduceEqDiff, h1], by simp only [go_sem, Nat.reduceEqDiff, h2], by simp only [go_sem, Nat.reduceEqDiff, h5], by simp only [go_sem, Nat.reduceEqDiff, h6], by simp only [go_sem, reduceCtorEq, t1, t0]⟩
        · simp only [go_sem, reduceIte, Nat.reduceEqDiff, Nat.reduceMul, Int.reduceLT, Int.reduceLE, Int.reduceNeg, Int.reduceToNat, b1, b2, h1, h2, h5, h7, a1]
          refine callK_same (k139 _ _ v (mx n v.p1.1) hw) ?_
          by_cases a2 : 0 ≤ v.matchF (mx n v.p1.1)
          · simp only [go_sem, reduceIte, Nat.reduceEqDiff, Nat.reduceMul, Int.reduceLT, Int.reduceLE, Int.reduceNeg, Int.reduceToNat, b3, h6, h7, a2]
            by_cases a3 : v.matchF (mx n v.p1.1) ≤ v.p1.2
            · simp only [go_sem, Nat.reduceEqDiff, Int.reduceNeg, a3]
              have q : v.tryP n v.p1 = some (v.matchF (mx n v.p1.1)) := by simp [V.tryP, a1, a2, a3]
              exact ⟨_, _, hk, by simp [V.nextR, hc, q, t0], rfl, rfl⟩
            · simp only [go_sem, reduceIte, Nat.reduceEqDiff, Int.reduceLE, Int.reduceAdd, Int.reduceNeg, h7, a3]
              have t1 : v.tryP n v.p1 = none := by simp [V.tryP, a1, a2, a3]
              exact ⟨0, by omega, rfl, rfl, by simp only [go_sem, Nat.reduceEqDiff, h1], by simp only [go_sem, Nat.reduceEqDiff, h2], by simp only [go_sem, Nat.reduceEqDiff, h5], by simp only [go_sem, Nat.reduceEqDiff, h6], by simp only [go_sem, reduceCtorEq, t1, t0]⟩
          · simp only [go_sem, reduceCtorEq, reduceIte, Nat.reduceEqDiff, Int.reduceLE, Int.reduceAdd, Int.reduceNeg, h7, a2]
            have t1 : v.tryP n v.p1 = none := by simp [V.tryP, a1, a2]
            exact ⟨0, by omega, rfl, rfl, by simp only [go_sem, Nat.reduceEqDiff, h1], by simp only [go_sem, Nat.reduceEqDiff, h2], by simp only [go_sem, Nat.reduceEqDiff, h5], by simp only [go_sem, Nat.reduceEqDiff, h6], by simp only [go_sem, reduceCtorEq, t1, t0]⟩
      · simp only [go_sem, reduceIte, Int.reduceLT, Int.reduceNeg, h7]
        exact ⟨_, _, hk, by simp [V.nextR, hc, t0, t1], rfl, rfl⟩
  · have hlh' : v.low ≤ v.high := by omega
    intro ra hFa hMa
    have ga := fresh_of hMa
    simp only [go_sem, reduceIte, Nat.reduceEqDiff, Nat.reduceAdd, Nat.reduceLeDiff, Int.reduceNeg, ga]
    intro rb hFb hMb
    have gb := fresh_of hMb
    have gb' := fresh_of gb.2.2
    simp only [go_sem, reduceIte, Nat.reduceEqDiff, Int.reduceNeg, ga, gb', hlh]
    have hk : Wk F (((M.upd r ⟨v.cs, 65, 6⟩).upd ra ⟨[.int .i64 v.low, .int .i64 0], 3, 2⟩).upd rb ⟨[.int .i64 v.high, .int .i64 (-1)], 3, 2⟩) F M := (Wk.drop hMb).trans ((Wk.drop hMa).trans (Wk.drop hM))
    generalize hM' : ((M.upd r ⟨v.cs, 65, 6⟩).upd ra ⟨[.int .i64 v.low, .int .i64 0], 3, 2⟩).upd rb ⟨[.int .i64 v.high, .int .i64 (-1)], 3, 2⟩ = M' at *
    have f1 : M' r = some ⟨v.cs, 65, 6⟩ := by subst hM'; simp only [go_sem, Int.reduceNeg, ga, gb']
    have f2 : M' ra = some ⟨[.int .i64 v.p0.1, .int .i64 v.p1.1], 3, 2⟩ := by subst hM'; simp only [go_sem, reduceIte, Int.reduceNeg, gb, V.p0, V.p1, hlh']
    have f3 : M' rb = some ⟨[.int .i64 v.p0.2, .int .i64 v.p1.2], 3, 2⟩ := by subst hM'; simp only [go_sem, reduceIte, Int.reduceNeg, V.p0, V.p1, hlh']
    clear hM'
    have b1 := blk_M (F := F) f1
    have b2 := blk_M (F := F) f2
    have b3 := blk_M (F := F) f3
    refine loop_of (nextI v n F M' r ra rb) 2 ?_ ?_
    · exact ⟨rfl, rfl, by simp only [go_sem, reduceCtorEq, Nat.reduceEqDiff], by simp only [go_sem, Nat.reduceEqDiff], by simp only [go_sem, Nat.reduceEqDiff], by simp only [go_sem, Nat.reduceEqDiff], .inl ⟨rfl, by simp only [go_sem]⟩⟩
    · rintro m σ F'' M'' ⟨rfl, rfl, h1, h2, h5, h6, h7⟩
      rcases h7 with ⟨rfl, h7⟩ | ⟨rfl, h7, t0⟩ | ⟨rfl, h7, t0, t1⟩
      · simp only [go_sem, reduceIte, Nat.reduceEqDiff, Nat.reduceMul, Int.reduceLT, Int.reduceLE, Int.reduceNeg, Int.reduceToNat, b2, b3, h1, h5, h6, h7]
        by_cases a1 : v.p0.2 < mx n v.p0.1
        · simp only [go_sem, reduceIte, Nat.reduceEqDiff, Int.reduceLE, Int.reduceAdd, Int.reduceNeg, h7, a1]
          have t0 : v.tryP n v.p0 = none := by simp [V.tryP, a1]
          exact ⟨1, by omega, rfl, rfl, by simp only [go_sem, Nat.reduceEqDiff, h1], by simp only [go_sem, Nat.reduceEqDiff, h2], by simp only [go_sem, Nat.reduceEqDiff, h5], by simp only [go_sem, Nat.reduceEqDiff, h6], by simp only [go_sem, reduceCtorEq, Nat.reduceEqDiff, t0]⟩
        · simp only [go_sem, reduceIte, Nat.reduceEqDiff, Nat.reduceMul, Int.reduceLT, Int.reduceLE, Int.reduceNeg, Int.reduceToNat, b1, b2, h1, h2, h5, h7, a1]
          refine callK_same (k139 _ _ v (mx n v.p0.1) hw) ?_
          by_cases a2 : 0 ≤ v.matchF (mx n v.p0.1)
          · simp only [go_sem, reduceIte, Nat.reduceEqDiff, Nat.reduceMul, Int.reduceLT, Int.reduceLE, Int.reduceNeg, Int.reduceToNat, b3, h6, h7, a2]
            by_cases a3 : v.matchF (mx n v.p0.1) ≤ v.p0.2
            · simp only [go_sem, Nat.reduceEqDiff, Int.reduceNeg, a3]
              have q : v.tryP n v.p0 = some (v.matchF (mx n v.p0.1)) := by simp [V.tryP, a1, a2, a3]
              exact ⟨_, _, hk, by simp [V.nextR, hc, q], rfl, rfl⟩
            · simp only [go_sem, reduceIte, Nat.reduceEqDiff, Int.reduceLE, Int.reduceAdd, Int.reduceNeg, h7, a3]
              have t0 : v.tryP n v.p0 = none := by simp [V.tryP, a1, a2, a3]
              exact ⟨1, by omega, rfl, rfl, by simp only [go_sem, Nat.reduceEqDiff, h1], by simp only [go_sem, Nat.reduceEqDiff, h2], by simp only [go_sem, Nat.reduceEqDiff, h5], by simp only [go_sem, Nat.reduceEqDiff, h6], by simp only [go_sem, reduceCtorEq, Nat.reduceEqDiff, t0]⟩
          · simp only [go_sem, reduceCtorEq, reduceIte, Nat.reduceEqDiff, Int.reduceLE, Int.reduceAdd, Int.reduceNeg, h7, a2]
            have t0 : v.tryP n v.p0 = none := by simp [V.tryP, a1, a2]
            exact ⟨1, by omega, rfl, rfl, by simp only [go_sem, Nat.reduceEqDiff, h1], by simp only [go_sem, Nat.reduceEqDiff, h2], by simp only [go_sem, Nat.reduceEqDiff, h5], by simp only [go_sem, Nat.reduceEqDiff, h6], by simp only [go_sem, reduceCtorEq, Nat.reduceEqDiff, t0]⟩
      · simp only [go_sem, reduceIte, Nat.reduceEqDiff, Nat.reduceMul, Int.reduceLT, Int.reduceLE, Int.reduceNeg, Int.reduceToNat, b2, b3, h1, h5, h6, h7]
        by_cases a1 : v.p1.2 < mx n v.p1.1
        · simp only [go_sem, reduceIte, Nat.reduceEqDiff, Int.reduceLE, Int.reduceAdd, Int.reduceNeg, h7, a1]
          have t1 : v.tryP n v.p1 = none := by simp [V.tryP, a1]
          exact ⟨0, by omega, rfl, rfl, by simp only [go_sem, Nat.reduceEqDiff, h1], by simp only [go_sem, Nat.reduceEqDiff, h2], by simp only [go_sem, Nat.reduceEqDiff, h5], by simp only [go_sem, Nat.reduceEqDiff, h6], by simp only [go_sem, reduceCtorEq, t1, t0]⟩
        · simp only [go_sem, reduceIte, Nat.reduceEqDiff, Nat.reduceMul, Int.reduceLT, Int.reduceLE, Int.reduceNeg, Int.reduceToNat, b1, b2, h1, h2, h5, h7, a1]
          refine callK_same (k139 _ _ v (mx n v.p1.1) hw) ?_
          by_cases a2 : 0 ≤ v.matchF (mx n v.p1.1)
          · simp only [go_sem, reduceIte, Nat.reduceEqDiff, Nat.reduceMul, Int.reduceLT, Int.reduceLE, Int.reduceNeg, Int.reduceToNat, b3, h6, h7, a2]
            by_cases a3 : v.matchF (mx n v.p1.1) ≤ v.p1.2
            · simp only [go_sem, Nat.reduceEqDiff, Int.reduceNeg, a3]
              have q : v.tryP n v.p1 = some (v.matchF (mx n v.p1.1)) := by simp [V.tryP, a1, a2, a3]
              exact ⟨_, _, hk, by simp [V.nextR, hc, q, t0], rfl, rfl⟩
            · simp only [go_sem, reduceIte, Nat.reduceEqDiff, Int.reduceLE, Int.reduceAdd, Int.reduceNeg, h7, a3]
              have t1 : v.tryP n v.p1 = none := by simp [V.tryP, a1, a2, a3]
              exact ⟨0, by omega, rfl, rfl, by simp only [go_sem, Nat.reduceEqDiff, h1], by simp only [go_sem, Nat.reduceEqDiff, h2], by simp only [go_sem, Nat.reduceEqDiff, h5], by simp only [go_sem, Nat.reduceEqDiff, h6], by simp only [go_sem, reduceCtorEq, t1, t0]⟩
          · simp only [go_sem, reduceCtorEq, reduceIte, Nat.reduceEqDiff, Int.reduceLE, Int.reduceAdd, Int.reduceNeg, h7, a2]
            have t1 : v.tryP n v.p1 = none := by simp [V.tryP, a1, a2]
            exact ⟨0, by omega, rfl, rfl, by simp only [go_sem, Nat.reduceEqDiff, h1], by simp only [go_sem, Nat.reduceEqDiff, h2], by simp only [go_sem, Nat.reduceEqDiff, h5], by simp only [go_sem, Nat.reduceEqDiff, h6], by simp only [go_sem, reduceCtorEq, t1, t0]⟩
      · simp only [go_sem, reduceIte, Int.reduceLT, Int.reduceNeg, h7]
        exact ⟨_, _, hk, by simp [V.nextR, hc, t0, t1], rfl, rfl⟩
end Go.Proofs.Tryz.K
namespace Go.Proofs.Tryz.K
open Go Go.Ax Go.Proofs.Tryz.S
set_option maxRecDepth 100000
set_option linter.unusedSimpArgs false
set_option linter.unusedVariables false
variable (F : Fz) (M : Hp)
def onlyA (v : V) : Value := .tuple #[.int .i64 (v.nextR 0), .bool (decide (0 ≤ v.nextR 0) && decide (v.nextR (v.nextR 0 + 1) < 0))]
theorem k78 (v : V) (hv : v.ok = true) : CallsA Tryz.prog 78 [v.val] F M (Same F M (onlyA v)) := by
  refine callsA_of hm Tryz.func78 e78 (Nat.le_of_ble_eq_true rfl) ?_
  have hl := isW_le (ok_isW hv)
  have hn := nextR_le hv 0
  have hm := mostV_pos hl.2
  have e1 : IntKind.i64.wrap (v.nextR 0 + 1) = v.nextR 0 + 1 := w64 (by omega) (by omega)
  simp only [c78, go_sem]
  intro r hF hM
  simp only [go_sem, reduceIte, Nat.reduceEqDiff]
  refine callK_same (k116 F _ v 0 hl.1 hl.2) ?_
  simp only [go_sem, reduceIte, Nat.reduceEqDiff]
  by_cases h0 : 0 ≤ v.nextR 0
  · simp only [go_sem, reduceIte, Nat.reduceEqDiff, h0, e1]
    refine callK_same (k116 F _ v (v.nextR 0 + 1) hl.1 hl.2) ?_
    simp only [go_sem, reduceIte, Nat.reduceEqDiff]
    exact endK_drop hM (endK_same ⟨by simp [onlyA, h0], rfl, rfl⟩)
  · simp only [go_sem, reduceCtorEq, reduceIte, Nat.reduceEqDiff, h0]
    exact endK_drop hM (endK_same ⟨by simp [onlyA, h0], rfl, rfl⟩)
end Go.Proofs.Tryz.K
namespace Go.Proofs.Tryz.K
open Go Go.Ax Go.Proofs.Tryz.S
set_option maxRecDepth 100000
set_option linter.unusedSimpArgs false
set_option linter.unusedVariables false
variable (F : Fz) (M : Hp)
def nextA (v : V) (n : Int) : Value := if v.ok && isN n v.w then (if v.nextR n < 0 then .tuple #[.int .i64 0, .int .i64 3] else .tuple #[.int .i64 (v.nextR n), .int .i64 0]) else .tuple #[.int .i64 0, .int .i64 1]
def memI (v : V) (most : Nat) (F : Fz) (M : Hp) (r : Nat) (m : Nat) (σ : Env) (F' : Fz) (M' : Hp) : Prop :=
  F' = F ∧ Keep M M' ∧ M' r = some ⟨v.cs, 65, 6⟩ ∧ Ax.look σ 1 = some (.int .i64 most) ∧ Ax.look σ 2 = some (.pointer (some ⟨r, 0, none⟩)) ∧
  ∃ (l : List Int) (p : Int), l.length + m = most + 1 ∧ 0 < m ∧ l ++ v.mem m p = v.members most ∧ Ax.look σ 6 = some (.int .i64 (v.nextR p)) ∧
    (l = [] ∧ Ax.look σ 4 = some (.slice none 0 0) ∨ ∃ g cap, F g = none ∧ M g = none ∧ Ax.look σ 4 = some (.slice (some ⟨g, 0, none⟩) l.length cap) ∧ M' g = some ⟨l.map intV, 3, cap * 1⟩ ∧ l.length ≤ cap ∧ cap ≤ maxLen)
def memR (v : V) (most : Nat) (F : Fz) (M : Hp) (u : Value) (F' : Fz) (M' : Hp) : Prop :=
  F' = F ∧ ((v.members most).length ≤ most ∧ ((v.members most = [] ∧ u = .tuple #[.slice none 0 0, .bool true] ∧ M' = M) ∨
      ∃ g cap, F g = none ∧ M g = none ∧ u = .tuple #[.slice (some ⟨g, 0, none⟩) (v.members most).length cap, .bool true] ∧ M' = M.upd g ⟨(v.members most).map intV, 3, cap * 1⟩) ∨
    (most < (v.members most).length ∧ u = .tuple #[.slice none 0 0, .bool false] ∧ M' = M))
theorem k165 (v : V) (most : Nat) (hv : v.ok = true) (hmost : most ≤ 1000) : CallsA Tryz.prog 165 [v.val, .int .i64 most] F M (memR v most F M) := by
  refine callsA_of hm Tryz.func165 e165 (Nat.le_of_ble_eq_true rfl) ?_
  have hl := isW_le (ok_isW hv)
  have hmo := mostV_pos hl.2
  simp only [c165, go_sem]
  intro r hF hM
  simp only [go_sem, reduceIte, Nat.reduceEqDiff]
  refine callK_same (k166 F _ v 0 hv) ?_
  simp only [go_sem]
  refine loop_of (memI v most F M r) (most + 1) ?_ ?_
  · exact ⟨rfl, (Keep.refl M).new hM, Hp.upd_same _ _ _, by simp only [go_sem, reduceCtorEq, Nat.reduceEqDiff], by simp only [go_sem, Nat.reduceEqDiff], [], 0, by simp, by omega, rfl, by simp only [go_sem], .inl ⟨rfl, by simp only [go_sem, Nat.reduceEqDiff]⟩⟩
  · rintro m σ F' M' ⟨rfl, hk, f1, h1, h2, l, p, hlm, hm0, hlp, h6, h4⟩
    have b1 := blk_M (F := F') f1
    have hp := nextR_le hv p
    obtain ⟨m, rfl⟩ : ∃ k, m = k + 1 := ⟨m - 1, by omega⟩
    by_cases hn : 0 ≤ v.nextR p
    · have hn' : ¬ v.nextR p < 0 := by omega
      have hmem : v.mem (m + 1) p = v.nextR p :: v.mem m (v.nextR p + 1) := by rw [V.mem, if_neg hn']
      have e1 : IntKind.i64.wrap (v.nextR p + 1) = v.nextR p + 1 := w64 (by omega) (by omega)
      rcases h4 with ⟨hl0, h4⟩ | ⟨g, cap, hFg, hMg, h4, f4, hc1, hc2⟩
      · have hll : l.length = 0 := by rw [hl0]; rfl
        by_cases hfull : most = 0
        · subst hfull
          simp only [go_sem, reduceIte, Nat.reduceEqDiff, h1, h4, h6, hn, Int.cast_ofNat_Int]
          exact endK_keep hk ⟨rfl, .inr ⟨by rw [← hlp, hl0, hmem]; simp, rfl, rfl⟩⟩
        · have hfull : ¬ (0 : Int) = most := by omega
          simp only [go_sem, reduceIte, Nat.reduceEqDiff, h1, h4, h6, hn, hfull]
          intro r1 hF1 hM1
          have g1 := ne_of_none hM1 f1
          simp only [go_sem, Nat.reduceEqDiff]
          refine apK_of (n := l.length) (xs := l.map intV) (m := 1) (ys := [v.nextR p].map intV) (by rw [hll, hl0]; exact ⟨rfl, .inl ⟨rfl, rfl⟩⟩) ⟨rfl, .inr ⟨⟨r1, 0, none⟩, 1, rfl, .inr ⟨r1, 0, _, rfl, blk_upd_same, rfl⟩⟩⟩ (plain_ints _) (by simp only [maxLen]; omega) (by omega) ?_
          rintro v' M3 (⟨_, h0, _⟩ | ⟨g', cap', hg', rfl, hc3, hc4, rfl⟩)
          · cases h0
          rw [← List.map_append]
          have hl3 : (l ++ [v.nextR p]).length = l.length + 1 := by simp
          have key : F' g' = none ∧ M g' = none ∧ Keep M ((M'.upd r1 ⟨[.int .i64 (v.nextR p)], 3, 1⟩).upd g' ⟨(l ++ [v.nextR p]).map intV, 3, cap' * 1⟩) ∧ ¬ r = g' := by
            rcases hg' with ⟨c, hx⟩ | ⟨hx, hy⟩
            · cases hx
            · have hz := (fresh_of hy)
              exact ⟨hx, hk.free hz.2.2, (hk.new (hk.free hM1)).new (hk.free hz.2.2), (ne_of_none hz.2.2 f1).1⟩
          have hne := key.2.2.2
          have f3 : ((M'.upd r1 ⟨[.int .i64 (v.nextR p)], 3, 1⟩).upd g' ⟨(l ++ [v.nextR p]).map intV, 3, cap' * 1⟩) r = some ⟨v.cs, 65, 6⟩ := by
            rw [Hp.upd_ne' hne, Hp.upd_ne' g1.1]; exact f1
          have b3 := blk_M (F := F') f3
          simp only [go_sem, reduceIte, Nat.reduceEqDiff, h2, h6, b3, e1]
          refine callK_same (k166 F' _ v (v.nextR p + 1) hv) ?_
          simp only [go_sem]
          have hm1 : 0 < m := by omega
          exact ⟨m, by omega, rfl, key.2.2.1, f3, by simp only [go_sem, Nat.reduceEqDiff, h1], by simp only [go_sem, Nat.reduceEqDiff, h2], l ++ [v.nextR p], v.nextR p + 1, by omega, hm1, by rw [List.append_assoc, List.singleton_append, ← hmem]; exact hlp, by simp only [go_sem],
            .inr ⟨g', cap', key.1, key.2.1, by simp only [go_sem, Nat.reduceEqDiff, hl3], Hp.upd_same _ _ _, by omega, hc4⟩⟩
      · by_cases hfull : l.length = most
        · simp only [go_sem, reduceIte, Nat.reduceEqDiff, h1, h4, h6, hn, hfull]
          exact endK_keep hk ⟨rfl, .inr ⟨by rw [← hlp, hmem]; simp; omega, rfl, rfl⟩⟩
        · have hfull : ¬ (l.length : Int) = most := by omega
          have hrg : ¬ (some ⟨v.cs, 65, 6⟩ : Option Ent) = some ⟨l.map intV, 3, cap * 1⟩ := by
            intro e
            have := congrArg (fun x => x.map (·.elem)) e
            simp at this
          simp only [go_sem, reduceIte, Nat.reduceEqDiff, h1, h4, h6, hn, hfull]
          intro r1 hF1 hM1
          have g1 := ne_of_none hM1 f1
          simp only [go_sem, Nat.reduceEqDiff]
          refine apK_of (n := l.length) (xs := l.map intV) (m := 1) (ys := [v.nextR p].map intV) ⟨by simp, .inr ⟨g, cap, rfl, (Hp.upd_ne (ne_of_none hM1 f4).1).trans f4, hc1, hc2⟩⟩ ⟨rfl, .inr ⟨⟨r1, 0, none⟩, 1, rfl, .inr ⟨r1, 0, _, rfl, blk_upd_same, rfl⟩⟩⟩ (plain_ints _) (by simp only [maxLen]; omega) (by omega) ?_
          rintro v' M3 (⟨_, h0, _⟩ | ⟨g', cap', hg', rfl, hc3, hc4, rfl⟩)
          · cases h0
          rw [← List.map_append]
          have hl3 : (l ++ [v.nextR p]).length = l.length + 1 := by simp
          have key : F' g' = none ∧ M g' = none ∧ Keep M ((M'.upd r1 ⟨[.int .i64 (v.nextR p)], 3, 1⟩).upd g' ⟨(l ++ [v.nextR p]).map intV, 3, cap' * 1⟩) ∧ ¬ r = g' := by
            rcases hg' with ⟨c, hx⟩ | ⟨hx, hy⟩
            · cases hx
              refine ⟨hFg, hMg, (hk.new (hk.free hM1)).new hMg, ?_⟩
              rintro rfl
              rw [f1] at f4
              exact hrg f4
            · have hz := (fresh_of hy)
              exact ⟨hx, hk.free hz.2.2, (hk.new (hk.free hM1)).new (hk.free hz.2.2), (ne_of_none hz.2.2 f1).1⟩
          have hne := key.2.2.2
          have f3 : ((M'.upd r1 ⟨[.int .i64 (v.nextR p)], 3, 1⟩).upd g' ⟨(l ++ [v.nextR p]).map intV, 3, cap' * 1⟩) r = some ⟨v.cs, 65, 6⟩ := by
            rw [Hp.upd_ne' hne, Hp.upd_ne' g1.1]; exact f1
          have b3 := blk_M (F := F') f3
          simp only [go_sem, reduceIte, Nat.reduceEqDiff, h2, h6, b3, e1]
          refine callK_same (k166 F' _ v (v.nextR p + 1) hv) ?_
          simp only [go_sem]
          have hm1 : 0 < m := by omega
          exact ⟨m, by omega, rfl, key.2.2.1, f3, by simp only [go_sem, Nat.reduceEqDiff, h1], by simp only [go_sem, Nat.reduceEqDiff, h2], l ++ [v.nextR p], v.nextR p + 1, by omega, hm1, by rw [List.append_assoc, List.singleton_append, ← hmem]; exact hlp, by simp only [go_sem],
            .inr ⟨g', cap', key.1, key.2.1, by simp only [go_sem, Nat.reduceEqDiff, hl3], Hp.upd_same _ _ _, by omega, hc4⟩⟩
    · have hn' : v.nextR p < 0 := by omega
      have hmem : v.mem (m + 1) p = [] := by rw [V.mem, if_pos hn']
      rw [hmem, List.append_nil] at hlp
      subst hlp
      rcases h4 with ⟨h0, h4⟩ | ⟨g, cap, hFg, hMg, h4, f4, hc1, hc2⟩
      · simp only [go_sem, reduceIte, Nat.reduceEqDiff, h4, h6, hn]
        exact endK_keep hk ⟨rfl, .inl ⟨by omega, .inl ⟨h0, rfl, rfl⟩⟩⟩
      · simp only [go_sem, reduceIte, Nat.reduceEqDiff, h4, h6, hn]
        exact endK_keep (hk.one f4) ⟨rfl, .inl ⟨by omega, .inr ⟨g, cap, hFg, hMg, rfl, rfl⟩⟩⟩
end Go.Proofs.Tryz.K
namespace Go.Proofs.Tryz.K
open Go Go.Ax Go.Proofs.Tryz.S
set_option maxRecDepth 100000
set_option linter.unusedSimpArgs false
set_option linter.unusedVariables false
variable (F : Fz) (M : Hp)
def loneA (v : V) : Value := .tuple #[.int .i64 (if v.is1 then v.nextR 0 else 0), .bool v.is1]
theorem k164 (v : V) (hv : v.ok = true) : CallsA Tryz.prog 164 [v.val] F M (Same F M (loneA v)) := by
  refine callsA_of hm Tryz.func164 e164 (Nat.le_of_ble_eq_true rfl) ?_
  simp only [c164, go_sem]
  intro r hF hM
  simp only [go_sem, reduceIte, Nat.reduceEqDiff]
  refine callK_of (k165 F _ v 1 hv (by omega)) ?_
  rintro u G M' ⟨hG, ⟨hlen, ⟨hnil, rfl, rfl⟩ | ⟨g, cap, hFg, hMg, rfl, rfl⟩⟩ | ⟨hlen, rfl, rfl⟩⟩ <;> rw [hG] <;> refine ⟨(fun h => by cases h), ?_⟩
  · have e : v.is1 = false := by
      rw [V.members1] at hnil
      split at hnil
      · simp [V.is1]; omega
      · cases hnil
    simp only [go_sem, reduceCtorEq, reduceIte, Nat.reduceEqDiff]
    exact endK_drop hM (endK_same ⟨by simp [loneA, e], rfl, rfl⟩)
  · by_cases hx : v.nextR 0 < 0
    · have e : v.is1 = false := by simp [V.is1]; omega
      have hm : v.members 1 = [] := by rw [V.members1, if_pos hx]
      simp only [hm, go_sem, reduceCtorEq, reduceIte, Nat.reduceEqDiff]
      exact endK_drop hMg (endK_drop hM (endK_same ⟨by simp [loneA, e], rfl, rfl⟩))
    · by_cases hy : v.nextR (v.nextR 0 + 1) < 0
      · have e : v.is1 = true := by simp [V.is1, hy]; omega
        have hm : v.members 1 = [v.nextR 0] := by rw [V.members1, if_neg hx, if_pos hy]
        simp only [hm, go_sem, reduceCtorEq, reduceIte, Nat.reduceEqDiff, Nat.reduceMul, Int.reduceLT, Int.reduceLE, Int.reduceToNat, Int.reduceEq, List.map_cons, List.map_nil, intV]
        exact endK_drop hMg (endK_drop hM (endK_same ⟨by simp [loneA, e], rfl, rfl⟩))
      · rw [V.members1, if_neg hx, if_neg hy] at hlen
        simp at hlen
  · have e : v.is1 = false := by
      rw [V.members1] at hlen
      split at hlen
      · simp at hlen
      · split at hlen
        · simp at hlen
        · rename_i hy
          simp [V.is1, hy]
    simp only [go_sem, reduceIte, Nat.reduceEqDiff]
    exact endK_drop hM (endK_same ⟨by simp [loneA, e], rfl, rfl⟩)
theorem onlyA_eq (v : V) : onlyA v = .tuple #[.int .i64 (v.nextR 0), .bool v.is1] := rfl
end Go.Proofs.Tryz.K
namespace Go.Ax
open Go
set_option linter.unusedVariables false
set_option linter.unusedSimpArgs false
def fits (f b x : Nat) : Prop := clr x f = b
section
variable {f b : Nat} (hbf : b &&& f = 0)
include hbf
omit hbf in
end
end Go.Ax
namespace Go.Ax
open Go
set_option linter.unusedVariables false
set_option linter.unusedSimpArgs false
@[go_sem] theorem V.set4 {v : V} {x : Int} : v.cs.take 4 ++ [.int .i64 x] ++ v.cs.drop 5 = (V.mk v.w v.no v.low v.high x v.bits).cs := rfl
@[go_sem] theorem V.set5 {v : V} {x : Int} : v.cs.take 5 ++ [.int .i64 x] ++ v.cs.drop 6 = (V.mk v.w v.no v.low v.high v.free x).cs := rfl
@[go_sem] theorem V.set5' {v : V} {x : Int} : v.cs.take 5 ++ [.int .i64 x] = (V.mk v.w v.no v.low v.high v.free x).cs := rfl
end Go.Ax
namespace Go.Ax
open Go
set_option linter.unusedVariables false
set_option linter.unusedSimpArgs false
@[go_sem] theorem V.take6a {v : V} {l : List Value} : (v.cs ++ l).take 6 = v.cs := rfl
@[go_sem] theorem V.drop6a {v : V} {l : List Value} : (v.cs ++ l).drop 6 = l := rfl
@[go_sem] theorem V.drop12 {v : V} {a b c d e f : Value} : (v.cs ++ [a, b, c, d, e, f]).drop 12 = [] := rfl
@[go_sem] theorem V.get6a {v : V} {u : Value} : (v.cs ++ [u])[6]? = some u := rfl
@[go_sem] theorem V.drop7 {v : V} {u : Value} : (v.cs ++ [u]).drop 7 = [] := rfl
@[go_sem] theorem V.take7 {v : V} {u : Value} : (v.cs ++ [u]).take 7 = v.cs ++ [u] := rfl
@[go_sem] theorem drop_seven {a b c d e f g : Value} : [a, b, c, d, e, f, g].drop 7 = [] := rfl
@[go_sem] theorem V.plain_app {v : V} {l : List Value} : plainCells (v.cs ++ l) = plainCells l := by
  apply propext
  constructor
  · intro h u hu; exact h u (List.mem_append_right _ hu)
  · intro h u hu
    rcases List.mem_append.1 hu with hu | hu
    · exact (of_eq_true V.cs_plain) u hu
    · exact h u hu
attribute [go_sem] List.length_append
end Go.Ax
namespace Go.Ax
open Go
set_option linter.unusedVariables false
set_option linter.unusedSimpArgs false
theorem just_has {w x n : Int} (hn : 0 ≤ n) (hn2 : n < 9223372036854775807) : (V.just w x).has n = decide (n = x) := by
  have hb : bclr .i64 n 0 = n := by
    obtain ⟨k, rfl⟩ : ∃ k : Nat, n = k := ⟨n.toNat, by omega⟩
    have := bclr_nat (a := k) (b := 0) (by omega) (by decide)
    rw [clr_zero] at this
    exact this
  unfold V.has V.within V.just
  simp only [hb, Bool.not_false, Bool.true_and, Int.le_refl, if_true]
  by_cases e : n = x
  · subst e; simp
  · simp [e]
end Go.Ax
namespace Go.Ax
open Go
set_option linter.unusedVariables false
set_option linter.unusedSimpArgs false
@[go_sem] theorem fl_cons {p : Nat → Prop} {a : Nat} {l : List Nat} : (∀ t ∈ a :: l, p t) = (p a ∧ ∀ t ∈ l, p t) := by
  apply propext; simp
@[go_sem] theorem fl_ptr {x y b : Nat} : (∃ u, some (Value.pointer (some ⟨x, y, none⟩)) = some u ∧ ∀ b' o', u = Value.pointer (some ⟨b', o', none⟩) → b' ≠ b) = ¬ x = b := by
  apply propext
  constructor
  · rintro ⟨u, h, hn⟩; cases h; exact hn x y rfl
  · intro h; exact ⟨_, rfl, fun b' o' e => by cases e; exact h⟩
@[go_sem] theorem fl_undef {b : Nat} : (∃ u, some undef = some u ∧ ∀ b' o', u = Value.pointer (some ⟨b', o', none⟩) → b' ≠ b) = True := by
  apply eq_true
  exact ⟨_, rfl, fun b' o' e => by cases e⟩
end Go.Ax
