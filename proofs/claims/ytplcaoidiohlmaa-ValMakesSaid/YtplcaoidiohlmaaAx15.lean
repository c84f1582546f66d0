/- Slices that are read: rows of whole numbers, rows of sets. -/
import Derived.Test.YtplcaoidiohlmaaAx14
namespace Go.Ax
open Go
set_option linter.unusedVariables false

/-- The shapes of the laws' input of sets and numbers. -/
abbrev shInts : Sh := .slice 1 8 (.int .i64)
abbrev shV : Sh := .cons 1 (.int .i64) (.cons 1 .bool (.cons 1 (.int .i64) (.cons 1 (.int .i64) (.cons 1 (.int .i64) (.cons 1 (.int .i64) .nil)))))
abbrev shVs : Sh := .slice 6 48 shV

def intV (n : Int) : Value := .int .i64 n
def in64 (n : Int) : Prop := -9223372036854775808 ≤ n ∧ n ≤ 9223372036854775807

theorem rd_ints {B : Bk} {v : Value} (h : Rd B shInts [v]) :
    ∃ (a : Option Addr) (cap : Nat) (l : List Int), v = .slice a l.length cap ∧ l.length ≤ cap ∧ cap ≤ maxLen ∧ l.length * 8 ≤ 140737488351232 ∧ (∀ x ∈ l, in64 x) ∧ (a = none → cap = 0) ∧
      (l = [] ∨ ∃ b o cs, a = some ⟨b, o, none⟩ ∧ B b = some cs ∧ ∀ i (hi : i < l.length), cs[o + i]? = some (intV l[i])) := by
  obtain ⟨v', rows, h1, ⟨a, cap, rfl, hl, hm, h0, h1', hc⟩, hs, hr⟩ := h
  cases h1
  have key : ∀ x ∈ rows, ∃ n, x = [intV n] ∧ in64 n := by
    intro x hx
    obtain ⟨n, h2, h3⟩ := hr x hx
    refine ⟨n, h2, ?_⟩
    simp [Lit.wf, IntKind.min, IntKind.max, IntKind.signed, IntKind.bits] at h3
    exact h3
  have hlist : ∃ l : List Int, rows = l.map (fun n => [intV n]) ∧ ∀ x ∈ l, in64 x := by
    clear hc hs hr h1' hl
    induction rows with
    | nil => exact ⟨[], rfl, by simp⟩
    | cons x rows ih =>
      obtain ⟨l, e, hl⟩ := ih (fun y hy => key y (List.mem_cons_of_mem _ hy))
      obtain ⟨n, e', hn⟩ := key x (by simp)
      exact ⟨n :: l, by simp [e, e'], by simp [hn]; exact hl⟩
  obtain ⟨l, rfl, hin⟩ := hlist
  rw [List.length_map] at hl hs ⊢
  refine ⟨a, cap, l, rfl, hl, hm, hs, hin, h0, ?_⟩
  rcases hc with hc | ⟨b, o, cs, rfl, hb, hc⟩
  · exact .inl (by simpa using hc)
  · refine .inr ⟨b, o, cs, rfl, hb, fun i hi => ?_⟩
    have := hc i [intV l[i]] (by simp [hi])
    have h2 := congrArg (·[0]?) this
    simpa using h2
theorem rd_len {B : Bk} {v : Value} {sz by' : Nat} {e : Sh} (h : Rd B (.slice sz by' e) [v]) : ∃ a cap n, v = .slice a n cap ∧ Rd B (.slice sz by' e) [.slice a n cap] := by
  have h' := h
  obtain ⟨v', rows, h1, ⟨a, cap, rfl, hl, hm, h0, h1', hc⟩, hs, hr⟩ := h
  cases h1
  exact ⟨a, cap, _, rfl, h'⟩
theorem rd_ask {B : Bk} {cs : List Value} {s1 s2 : Sh} (h : Rd B (.cons 1 s1 (.cons 1 s2 .nil)) cs) : ∃ v u, cs = [v, u] ∧ Rd B s1 [v] ∧ Rd B s2 [u] := by
  obtain ⟨hl, h1, hl2, h2, h3⟩ := h
  match cs, hl, h1, hl2, h2, h3 with
  | [], hl, _, _, _, _ => simp at hl
  | [v], _, _, hl2, _, _ => simp at hl2
  | [v, u], _, h1, _, h2, _ => exact ⟨v, u, rfl, by simpa using h1, by simpa using h2⟩
  | v :: u :: x :: l, _, _, _, _, h3 => simp [Rd] at h3
theorem src_ints {F : Fz} {M : Hp} {a : Option Addr} {cap : Nat} {l : List Int} (hl : l.length ≤ cap) (h0 : a = none → cap = 0)
    (h : l = [] ∨ ∃ b o cs, a = some ⟨b, o, none⟩ ∧ blk F M b = some cs ∧ ∀ i (hi : i < l.length), cs[o + i]? = some (intV l[i])) :
    Src F M 1 (.slice a l.length cap) l.length (l.map intV) := by
  refine ⟨by simp, ?_⟩
  cases a with
  | none =>
    have := h0 rfl
    subst this
    have : l.length = 0 := by omega
    exact .inl ⟨by rw [this], this⟩
  | some ad =>
    refine .inr ⟨ad, cap, rfl, ?_⟩
    rcases h with rfl | ⟨b, o, cs, hb, hc, hx⟩
    · exact .inl rfl
    · cases hb
      refine .inr ⟨b, o, cs, rfl, hc, ?_⟩
      apply List.ext_getElem?
      intro i
      by_cases hi : i < l.length
      · rw [List.getElem?_take_of_lt (by omega), List.getElem?_drop, hx i hi]
        simp [hi]
      · rw [List.getElem?_eq_none (by simp; omega), List.getElem?_eq_none (by simp; omega)]
theorem plain_ints (l : List Int) : plainCells (l.map intV) := by
  intro u hu
  obtain ⟨n, _, rfl⟩ := List.mem_map.1 hu
  rfl
theorem ne_of_none {M : Hp} {r b : Nat} {e : Ent} (h : M r = none) (hb : M b = some e) : ¬ b = r ∧ ¬ r = b := by
  constructor
  · rintro rfl; rw [h] at hb; cases hb
  · rintro rfl; rw [h] at hb; cases hb
theorem get_ints {l : List Int} {i : Nat} (h : i < l.length) : (l.map intV)[i]? = some (.int .i64 l[i]) := by
  simp [h, intV]
@[go_sem] theorem zero_fold : V.mk 0 false 0 0 0 0 = V.zero := rfl
@[go_sem] theorem V.whole_w {w : Int} : (V.whole w).w = w := rfl
@[go_sem] theorem V.whole_no {w : Int} : (V.whole w).no = false := rfl
@[go_sem] theorem V.whole_free {w : Int} : (V.whole w).free = mostV w := rfl
@[go_sem] theorem V.nothing_w {w : Int} : (V.nothing w).w = w := rfl
@[go_sem] theorem V.just_w {w n : Int} : (V.just w n).w = w := rfl
theorem nothing_next {w n : Int} : (V.nothing w).nextR n = -1 := by simp [V.nextR, V.nothing]
attribute [go_sem] nothing_next
end Go.Ax
