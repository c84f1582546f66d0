/- Slices that are read: rows of whole numbers, rows of sets. -/
import Derived.Test.YtplcaoidiohlmaaAx14
namespace Go.Ax
open Go
set_option linter.unusedVariables false

/-- The shapes of the laws' input of sets and numbers. -/
abbrev shInts : Sh := .slice 1 8 (.int .i64)
abbrev shV : Sh := .cons 1 (.int .i64) (.cons 1 .bool (.cons 1 (.int .i64) (.cons 1 (.int .i64) (.cons 1 (.int .i64) (.cons 1 (.int .i64) .nil)))))
abbrev shVs : Sh := .slice 6 48 shV

def intV (n : Int) : Value := .int .i64 n
def in64 (n : Int) : Prop := -9223372036854775808 ≤ n ∧ n ≤ 9223372036854775807

theorem rd_ints {B : Bk} {v : Value} (h : Rd B shInts [v]) :
    ∃ (a : Option Addr) (cap : Nat) (l : List Int), v = .slice a l.length cap ∧ l.length ≤ cap ∧ cap ≤ maxLen ∧ l.length * 8 ≤ 140737488351232 ∧ (∀ x ∈ l, in64 x) ∧ (a = none → cap = 0) ∧
      (l = [] ∨ ∃ b o cs, a = some ⟨b, o, none⟩ ∧ B b = some cs ∧ ∀ i (hi : i < l.length), cs[o + i]? = some (intV l[i])) := by
  obtain ⟨v', rows, h1, ⟨a, cap, rfl, hl, hm, h0, h1', hc⟩, hs, hr⟩ := h
  cases h1
  have key : ∀ x ∈ rows, ∃ n, x = [intV n] ∧ in64 n := by
    intro x hx
    obtain ⟨n, h2, h3⟩ := hr x hx
    refine ⟨n, h2, ?_⟩
    simp [Lit.wf, IntKind.min, IntKind.max, IntKind.signed, IntKind.bits] at h3
    exact h3
  have hlist : ∃ l : List Int, rows = l.map (fun n => [intV n]) ∧ ∀ x ∈ l, in64 x := by
    clear hc hs hr h1' hl
    induction rows with
    | nil => exact ⟨[], rfl, by simp⟩
    | cons x rows ih =>
      obtain ⟨l, e, hl⟩ := ih (fun y hy => key y (List.mem_cons_of_mem _ hy))
      obtain ⟨n, e', hn⟩ := key x (by simp)
      exact ⟨n :: l, by simp [e, e'], by simp [hn]; exact hl⟩
  obtain ⟨l, rfl, hin⟩ := hlist
  rw [List.length_map] at hl hs ⊢
  refine ⟨a, cap, l, rfl, hl, hm, hs, hin, h0, ?_⟩
  rcases hc with hc | ⟨b, o, cs, rfl, hb, hc⟩
  · exact .inl (by simpa using hc)
  · refine .inr ⟨b, o, cs, rfl, hb, fun i hi => ?_⟩
    have := hc i [intV l[i]] (by simp [hi])
    have h2 := congrArg (·[0]?) this
    simpa using h2
theorem rd_len {B : Bk} {v : Value} {sz by' : Nat} {e : Sh} (h : Rd B (.slice sz by' e) [v]) : ∃ a cap n, v = .slice a n cap ∧ Rd B (.slice sz by' e) [.slice a n cap] := by
  have h' := h
  obtain ⟨v', rows, h1, ⟨a, cap, rfl, hl, hm, h0, h1', hc⟩, hs, hr⟩ := h
  cases h1
  exact ⟨a, cap, _, rfl, h'⟩
theorem rd_ask {B : Bk} {cs : List Value} {s1 s2 : Sh} (h : Rd B (.cons 1 s1 (.cons 1 s2 .nil)) cs) : ∃ v u, cs = [v, u] ∧ Rd B s1 [v] ∧ Rd B s2 [u] := by
  obtain ⟨hl, h1, hl2, h2, h3⟩ := h
  match cs, hl, h1, hl2, h2, h3 with
  | [], hl, _, _, _, _ => simp at hl
  | [v], _, _, hl2, _, _ => simp at hl2
  | [v, u], _, h1, _, h2, _ => exact ⟨v, u, rfl, by simpa using h1, by simpa using h2⟩
  | v :: u :: x :: l, _, _, _, _, h3 => simp [Rd] at h3
theorem src_ints {F : Fz} {M : Hp} {a : Option Addr} {cap : Nat} {l : List Int} (hl : l.length ≤ cap) (h0 : a = none → cap = 0)
    (h : l = [] ∨ ∃ b o cs, a = some ⟨b, o, none⟩ ∧ blk F M b = some cs ∧ ∀ i (hi : i < l.length), cs[o + i]? = some (intV l[i])) :
    Src F M 1 (.slice a l.length cap) l.length (l.map intV) := by
  refine ⟨by simp, ?_⟩
  cases a with
  | none =>
    have := h0 rfl
    subst this
    have : l.length = 0 := by omega
    exact .inl ⟨by rw [this], this⟩
  | some ad =>
    refine .inr ⟨ad, cap, rfl, ?_⟩
    rcases h with rfl | ⟨b, o, cs, hb, hc, hx⟩
    · exact .inl rfl
    · cases hb
      refine .inr ⟨b, o, cs, rfl, hc, ?_⟩
      apply List.ext_getElem?
      intro i
      by_cases hi : i < l.length
      · rw [List.getElem?_take_of_lt (by omega), List.getElem?_drop, hx i hi]
        simp [hi]
      · rw [List.getElem?_eq_none (by simp; omega), List.getElem?_eq_none (by simp; omega)]
theorem plain_ints (l : List Int) : plainCells (l.map intV) := by
  intro u hu
  obtain ⟨n, _, rfl⟩ := List.mem_map.1 hu
  rfl
theorem ne_of_none {M : Hp} {r b : Nat} {e : Ent} (h : M r = none) (hb : M b = some e) : ¬ b = r ∧ ¬ r = b := by
  constructor
  · rintro rfl; rw [h] at hb; cases hb
  · rintro rfl; rw [h] at hb; cases hb
theorem get_ints {l : List Int} {i : Nat} (h : i < l.length) : (l.map intV)[i]? = some (.int .i64 l[i]) := by
  simp [h, intV]
@[go_sem] theorem zero_fold : V.mk 0 false 0 0 0 0 = V.zero := rfl
@[go_sem] theorem V.whole_w {w : Int} : (V.whole w).w = w := rfl
@[go_sem] theorem V.whole_no {w : Int} : (V.whole w).no = false := rfl
@[go_sem] theorem V.whole_free {w : Int} : (V.whole w).free = mostV w := rfl
@[go_sem] theorem V.nothing_w {w : Int} : (V.nothing w).w = w := rfl
@[go_sem] theorem V.just_w {w n : Int} : (V.just w n).w = w := rfl
theorem nothing_next {w n : Int} : (V.nothing w).nextR n = -1 := by simp [V.nextR, V.nothing]
attribute [go_sem] nothing_next
/-- What was the caller's is so still. -/
def Keep (M M' : Hp) : Prop := ∀ b e, M b = some e → M' b = some e
theorem Keep.refl (M : Hp) : Keep M M := fun _ _ h => h
theorem Keep.trans {A B C : Hp} (h : Keep A B) (k : Keep B C) : Keep A C := fun b e hb => k b e (h b e hb)
theorem Keep.free {M M' : Hp} (h : Keep M M') {r : Nat} (hr : M' r = none) : M r = none := by
  cases hm : M r with
  | none => rfl
  | some e => rw [h r e hm] at hr; cases hr
theorem Keep.new {M M' : Hp} (h : Keep M M') {r : Nat} {e : Ent} (hr : M r = none) : Keep M (M'.upd r e) := fun b x hb => by
  rw [Hp.upd_ne]
  · exact h b x hb
  · rintro rfl; rw [hr] at hb; cases hb
theorem Keep.both {M M' : Hp} (h : Keep M M') {r : Nat} {e : Ent} : Keep (M.upd r e) (M'.upd r e) := fun b x hb => by
  by_cases hbr : b = r
  · subst hbr; rw [Hp.upd_same] at hb ⊢; exact hb
  · rw [Hp.upd_ne hbr] at hb ⊢; exact h b x hb
theorem Keep.one {M M' : Hp} (h : Keep M M') {r : Nat} {e : Ent} (he : M' r = some e) : Keep (M.upd r e) M' := fun b x hb => by
  by_cases hbr : b = r
  · subst hbr; rw [Hp.upd_same] at hb; rw [he]; exact hb
  · rw [Hp.upd_ne hbr] at hb; exact h b x hb
theorem Keep.wk {M M' : Hp} (h : Keep M M') (F : Fz) : Wk F M' F M :=
  ⟨fun w hw => ⟨hw.fz, fun b e hb => hw.mu b e (h b e hb), fun b hb => hw.ap b (fun e => hb (h.free e))⟩, fun _ hf _ => hf, fun b hb => h.free hb⟩
theorem endK_keep {F : Fz} {M M' : Hp} {R : Value → Fz → Hp → Prop} {v : Value} (h : Keep M M') (hr : R v F M) : endK F M' R v := ⟨F, M, h.wk F, hr⟩

/-- Members of a set, so many at most, from a number on. -/
def V.mem (v : V) : Nat → Int → List Int
  | 0, _ => []
  | k + 1, n => if v.nextR n < 0 then [] else v.nextR n :: V.mem v k (v.nextR n + 1)
def V.members (v : V) (most : Nat) : List Int := v.mem (most + 1) 0
theorem V.mem_len (v : V) : ∀ k n, (v.mem k n).length ≤ k
  | 0, _ => Nat.le_refl _
  | k + 1, n => by
    unfold V.mem
    split
    · simp
    · simp; exact V.mem_len v k _
/-- Has it just one member? -/
def V.is1 (v : V) : Bool := decide (0 ≤ v.nextR 0) && decide (v.nextR (v.nextR 0 + 1) < 0)
theorem V.members1 (v : V) : v.members 1 = if v.nextR 0 < 0 then [] else v.nextR 0 :: (if v.nextR (v.nextR 0 + 1) < 0 then [] else [v.nextR (v.nextR 0 + 1)]) := by
  simp [V.members, V.mem]
attribute [go_sem] beq_self_eq_true

/-- What was there is no block of the call's own. -/
def Old (F : Fz) (M : Hp) : Prop := ∀ b, F b ≠ none → M b = none
theorem Old.start (F : Fz) : Old F noHp := fun _ _ => rfl
theorem Old.upd {F : Fz} {M : Hp} (h : Old F M) {r : Nat} {e : Ent} (hr : F r = none) : Old F (M.upd r e) := fun b hb => by
  rw [Hp.upd_ne]
  · exact h b hb
  · rintro rfl; exact hb hr
theorem Old.blk {F : Fz} {M : Hp} (h : Old F M) {b : Nat} {c : List Value} (hb : F b = some c) : blk F M b = some c := blk_F hb (h b (by rw [hb]; simp))

theorem rd_Vs {B : Bk} {v : Value} (h : Rd B shVs [v]) :
    ∃ (a : Option Addr) (cap : Nat) (l : List V), v = .slice a l.length cap ∧ l.length ≤ cap ∧ cap ≤ maxLen ∧ l.length * 48 ≤ 140737488351232 ∧ (a = none → cap = 0) ∧
      (l = [] ∨ ∃ b o cs, a = some ⟨b, o, none⟩ ∧ B b = some cs ∧ ∀ i (hi : i < l.length), o + i * 6 + 6 ≤ cs.length ∧ (cs.drop (o + i * 6)).take 6 = (l[i]).cs) := by
  obtain ⟨v', rows, h1, ⟨a, cap, rfl, hl, hm, h0, h1', hc⟩, hs, hr⟩ := h
  cases h1
  have key : ∀ x ∈ rows, ∃ n : V, x = n.cs := by
    intro x hx
    have hlen := h1' x hx
    obtain ⟨_, ⟨n0, e0, _⟩, _, ⟨n1, e1⟩, _, ⟨n2, e2, _⟩, _, ⟨n3, e3, _⟩, _, ⟨n4, e4, _⟩, _, ⟨n5, e5, _⟩, _⟩ := hr x hx
    match x, hlen with
    | [x0, x1, x2, x3, x4, x5], _ =>
      simp at e0 e1 e2 e3 e4 e5
      subst e0; subst e1; subst e2; subst e3; subst e4; subst e5
      exact ⟨⟨n0, n1, n2, n3, n4, n5⟩, rfl⟩
  have hlist : ∃ l : List V, rows = l.map V.cs := by
    clear hc hs hr h1' hl
    induction rows with
    | nil => exact ⟨[], rfl⟩
    | cons x rows ih =>
      obtain ⟨l, e⟩ := ih (fun y hy => key y (List.mem_cons_of_mem _ hy))
      obtain ⟨n, e'⟩ := key x (by simp)
      exact ⟨n :: l, by simp [e, e']⟩
  obtain ⟨l, rfl⟩ := hlist
  rw [List.length_map] at hl hs ⊢
  refine ⟨a, cap, l, rfl, hl, hm, hs, h0, ?_⟩
  rcases hc with hc | ⟨b, o, cs, rfl, hb, hc⟩
  · exact .inl (by simpa using hc)
  · refine .inr ⟨b, o, cs, rfl, hb, fun i hi => ?_⟩
    have := hc i (l[i]).cs (by simp [hi])
    refine ⟨?_, this⟩
    have hlen := congrArg List.length this
    simp [V.cs] at hlen
    omega
end Go.Ax
