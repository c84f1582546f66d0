/- Parts K30to34: the machine's runs of small codes, contracts of functions, plain facts. -/
import Derived.Test.YtlcjihpdkdngkabGreatK25to29
/- Contract: the sets of a width that are played. -/
namespace Go.Proofs.Tryz.K
open Go Go.Ax Go.Proofs.Tryz.S
set_option maxRecDepth 100000
set_option linter.unusedSimpArgs false
set_option linter.unusedVariables false
set_option maxHeartbeats 2000000
variable (F : Fz) (M : Hp)

theorem own_ne {e : TypeId} {F : Fz} {M : Hp} {l : List V} {g n c r : Nat} {x : Ent} (h : OwnV e F M (.slice (some ⟨g, 0, none⟩) n c) l) (hr : M r = some x) (hx : ¬ x.elem = e) : ¬ r = g := by
  rcases h with ⟨h, _⟩ | ⟨g', cap, h, _, h3, _⟩
  · cases h
  · cases h
    rintro rfl
    rw [hr] at h3; cases h3; exact hx rfl
/-- A row of the call's own, on the way. -/
structure Mine (e : TypeId) (F : Fz) (M0 M : Hp) (u : Value) (l : List V) : Prop where
  own : OwnV e F M u l
  new : ∀ g n c, u = .slice (some ⟨g, 0, none⟩) n c → M0 g = none
theorem Mine.nil (e : TypeId) (F : Fz) (M0 M : Hp) : Mine e F M0 M (.slice none 0 0) [] := ⟨.inl ⟨rfl, rfl⟩, fun g n c h => by cases h⟩
/-- More sets behind such a row; what else there is, is kept. -/
theorem apM_of {P : Program} {s : Bool} {d : Option Nat} {l : List SO} {K : Env → Fz → Hp → Prop} {σ : Env} {F : Fz} {M0 M : Hp} {e : TypeId} {v u : Value} {xs ys : List V}
    (h : Mine e F M0 M v xs) (kp : Keep M0 M) (hold : Old F M) {r : Nat} {x : Ent} (hr : M r = some x) (hx : ¬ x.elem = e) {rb : Nat} {eb : Ent} (hFb : F rb = none) (hMb : M rb = none) (hs : Src F (M.upd rb eb) 6 u ys.length (ys.flatMap V.cs)) (hy : 0 < ys.length) (hb : xs.length + ys.length ≤ 1000000)
    (hk : ∀ v' M', Keep M0 M' → Old F M' → M' r = some x → Mine e F M0 M' v' (xs ++ ys) → opsW P s l K (put σ d v') F M') :
    apK P s d l K σ F (M.upd rb eb) e 6 48 (some v) (some u) := by
  refine apV_of (h.own.new hMb) hs hy hb ?_
  rintro g cap M2 hgo rfl own2
  have gn : ¬ r = g := by
    rcases hgo with h1 | ⟨c, rfl⟩
    · exact (ne_of_none (fresh_of h1).2.2 hr).1
    · exact own_ne h.own hr hx
  have gF : F g = none := by
    rcases own2 with ⟨h, _⟩ | ⟨g', cap', h, hF', _⟩
    · cases h
    · cases h; exact hF'
  have g0 : M0 g = none := by
    rcases hgo with h1 | ⟨c, rfl⟩
    · exact kp.free (fresh_of h1).2.2
    · exact h.new _ _ _ rfl
  refine hk _ _ ((kp.new (kp.free hMb)).new g0) ((hold.upd hFb).upd gF) ?_ ⟨own2, fun g' n c h => by cases h; exact g0⟩
  rw [Hp.upd_ne' gn, Hp.upd_ne' (ne_of_none hMb hr).1]; exact hr
def setsR (F : Fz) (M : Hp) (u : Value) (F' : Fz) (M' : Hp) : Prop :=
  F' = F ∧ ∃ (L : List V) (g cap : Nat), L.length ≤ 100 ∧ L.length ≤ cap ∧ u = .slice (some ⟨g, 0, none⟩) L.length cap ∧ F g = none ∧ M g = none ∧ M' = M.upd g ⟨L.flatMap V.cs, 30, cap * 6⟩
theorem Mine.done {F : Fz} {M0 M : Hp} {u : Value} {l : List V} (h : Mine 30 F M0 M u l) (kp : Keep M0 M) (hne : l ≠ []) (hl : l.length ≤ 100) : endK F M (setsR F M0) u := by
  rcases h.own with ⟨h1, h2⟩ | ⟨g, cap, rfl, h2, h3, h4, h5⟩
  · exact absurd h2 hne
  · exact endK_keep (kp.one h3) ⟨rfl, l, g, cap, hl, h4, rfl, h2, h.new _ _ _ rfl, rfl⟩
structure S0 (F0 : Fz) (M0 : Hp) (r2 : Nat) (ask : List Value) (w : Int) (σ : Env) (F : Fz) (M : Hp) : Prop where
  f : F = F0
  kp : Keep M0 M
  old : Old F0 M
  fr : M r2 = some ⟨ask, 25, 2⟩
  h1 : Ax.look σ 1 = some (.int .i64 w)
  h2 : Ax.look σ 2 = some (.pointer (some ⟨r2, 0, none⟩))
theorem S0.ext {F0 : Fz} {M0 : Hp} {r2 : Nat} {ask : List Value} {w : Int} {σ σ' : Env} {F : Fz} {M : Hp} (s : S0 F0 M0 r2 ask w σ F M) (e1 : Ax.look σ' 1 = Ax.look σ 1) (e2 : Ax.look σ' 2 = Ax.look σ 2) : S0 F0 M0 r2 ask w σ' F M :=
  ⟨s.f, s.kp, s.old, s.fr, e1.trans s.h1, e2.trans s.h2⟩
def cI (F0 : Fz) (M0 : Hp) (r2 : Nat) (ask : List Value) (w : Int) (n : Nat) (σ : Env) (F : Fz) (M : Hp) : Prop :=
  S0 F0 M0 r2 ask w σ F M ∧ ∃ (sl : Value) (l : List V), Ax.look σ 5 = some sl ∧ Mine 30 F0 M0 M sl l ∧ l.length ≤ n
def cI2 (F0 : Fz) (M0 : Hp) (r2 : Nat) (ask : List Value) (w : Int) (n : Nat) (σ : Env) (F : Fz) (M : Hp) : Prop :=
  S0 F0 M0 r2 ask w σ F M ∧ ∃ (sl : Value) (l : List V), Ax.look σ 5 = some sl ∧ Mine 30 F0 M0 M sl l ∧ l.length ≤ n ∧ l ≠ []
def vI (F0 : Fz) (M0 : Hp) (r2 : Nat) (ask : List Value) (w : Int) (slot n c k : Nat) (m : Nat) (σ : Env) (F : Fz) (M : Hp) : Prop :=
  S0 F0 M0 r2 ask w σ F M ∧ ∃ (i : Nat) (sl : Value) (l : List V), i + m = n ∧ Ax.look σ slot = some (.int .i64 i) ∧ Ax.look σ 5 = some sl ∧ Mine 30 F0 M0 M sl l ∧ l.length ≤ c + k * i ∧ l.length ≤ c + 4 ∧ (c = 8 → l ≠ [])
end Go.Proofs.Tryz.K

/- Contract: a question of two, played. -/
namespace Go.Proofs.Tryz.K
open Go Go.Ax Go.Proofs.Tryz.S
set_option maxRecDepth 100000
set_option linter.unusedSimpArgs false
set_option linter.unusedVariables false
set_option maxHeartbeats 4000000
variable (F : Fz) (M : Hp)

structure T0 (F0 : Fz) (M0 : Hp) (r2 : Nat) (ask : List Value) (op : Int) (σ : Env) (F : Fz) (M : Hp) : Prop where
  f : F = F0
  kp : Keep M0 M
  old : Old F0 M
  fr : M r2 = some ⟨ask, 25, 2⟩
  h1 : Ax.look σ 1 = some (.int .i64 op)
  h2 : Ax.look σ 2 = some (.pointer (some ⟨r2, 0, none⟩))
theorem T0.ext {F0 : Fz} {M0 : Hp} {r2 : Nat} {ask : List Value} {op : Int} {σ σ' : Env} {F : Fz} {M : Hp} (s : T0 F0 M0 r2 ask op σ F M) (e1 : Ax.look σ' 1 = Ax.look σ 1) (e2 : Ax.look σ' 2 = Ax.look σ 2) : T0 F0 M0 r2 ask op σ' F M :=
  ⟨s.f, s.kp, s.old, s.fr, e1.trans s.h1, e2.trans s.h2⟩
def tkI (F0 : Fz) (M0 : Hp) (r2 : Nat) (ask : List Value) (op : Int) (m : Nat) (σ : Env) (F : Fz) (M : Hp) : Prop :=
  T0 F0 M0 r2 ask op σ F M ∧ ∃ k : Nat, k + m = 8 ∧ Ax.look σ 5 = some (.int .i64 k)
/-- In a kind's rounds: its row of sets. -/
structure T1 (F0 : Fz) (M0 : Hp) (r2 : Nat) (ask : List Value) (op : Int) (k : Nat) (sl : Value) (L : List V) (σ : Env) (F : Fz) (M : Hp) : Prop extends T0 F0 M0 r2 ask op σ F M where
  h5 : Ax.look σ 5 = some (.int .i64 k)
  h6 : Ax.look σ 6 = some sl
  rd : RdV F0 M sl L
def tiI (F0 : Fz) (M0 : Hp) (r2 : Nat) (ask : List Value) (op : Int) (k : Nat) (sl : Value) (L : List V) (m : Nat) (σ : Env) (F : Fz) (M : Hp) : Prop :=
  T1 F0 M0 r2 ask op k sl L σ F M ∧ ∃ i : Nat, i + m = L.length ∧ Ax.look σ 7 = some (.int .i64 i)
def tjI (F0 : Fz) (M0 : Hp) (r2 : Nat) (ask : List Value) (op : Int) (k : Nat) (sl : Value) (L : List V) (i : Nat) (m : Nat) (σ : Env) (F : Fz) (M : Hp) : Prop :=
  T1 F0 M0 r2 ask op k sl L σ F M ∧ Ax.look σ 7 = some (.int .i64 i) ∧ ∃ j : Nat, j + m = 2 * L.length ∧ Ax.look σ 8 = some (.int .i64 j)
def tjB (F0 : Fz) (M0 : Hp) (r2 : Nat) (ask : List Value) (op : Int) (k : Nat) (sl : Value) (L : List V) (i j : Nat) (σ : Env) (F : Fz) (M : Hp) : Prop :=
  T1 F0 M0 r2 ask op k sl L σ F M ∧ Ax.look σ 7 = some (.int .i64 i) ∧ Ax.look σ 8 = some (.int .i64 j)
def J0 (F0 : Fz) (M0 : Hp) (r2 : Nat) (ask : List Value) (op : Int) (k : Nat) (sl : Value) (L : List V) (i j : Nat) (σ : Env) (F : Fz) (M : Hp) : Prop :=
  tjB F0 M0 r2 ask op k sl L i j σ F M ∧ ∃ (r9 r10 : Nat) (a b : V) (yes : Bool), Ax.look σ 9 = some (.pointer (some ⟨r9, 0, none⟩)) ∧ Ax.look σ 10 = some (.pointer (some ⟨r10, 0, none⟩)) ∧ Ax.look σ 11 = some (.bool yes) ∧
  M r9 = some ⟨a.cs, 30, 6⟩ ∧ M r10 = some ⟨b.cs, 30, 6⟩
/-- In a round. -/
structure T2 (F0 : Fz) (M0 : Hp) (r2 : Nat) (ask : List Value) (op : Int) (k : Nat) (sl : Value) (L : List V) (i j r9 r10 r12 r13 : Nat) (a b' x y : V) (yes : Bool) (σ : Env) (F : Fz) (M : Hp) : Prop extends T1 F0 M0 r2 ask op k sl L σ F M where
  h7 : Ax.look σ 7 = some (.int .i64 i)
  h8 : Ax.look σ 8 = some (.int .i64 j)
  h9 : Ax.look σ 9 = some (.pointer (some ⟨r9, 0, none⟩))
  h10 : Ax.look σ 10 = some (.pointer (some ⟨r10, 0, none⟩))
  h11 : Ax.look σ 11 = some (.bool yes)
  h12 : Ax.look σ 12 = some (.pointer (some ⟨r12, 0, none⟩))
  h13 : Ax.look σ 13 = some (.pointer (some ⟨r13, 0, none⟩))
  f9 : M r9 = some ⟨a.cs, 30, 6⟩
  f10 : M r10 = some ⟨b'.cs, 30, 6⟩
  f12 : M r12 = some ⟨x.cs, 30, 6⟩
  f13 : M r13 = some ⟨y.cs, 30, 6⟩
section
variable {F0 : Fz} {M0 : Hp} {r2 : Nat} {ask : List Value} {op : Int} {k : Nat} {sl : Value} {L : List V} {i j r9 r10 r12 r13 : Nat} {a b' x y : V} {yes : Bool} {σ σ' : Env} {F : Fz} {M M' : Hp}
theorem T2.ext (s : T2 F0 M0 r2 ask op k sl L i j r9 r10 r12 r13 a b' x y yes σ F M) (e1 : Ax.look σ' 1 = Ax.look σ 1) (e2 : Ax.look σ' 2 = Ax.look σ 2) (e5 : Ax.look σ' 5 = Ax.look σ 5) (e6 : Ax.look σ' 6 = Ax.look σ 6)
    (e7 : Ax.look σ' 7 = Ax.look σ 7) (e8 : Ax.look σ' 8 = Ax.look σ 8) (e9 : Ax.look σ' 9 = Ax.look σ 9) (e10 : Ax.look σ' 10 = Ax.look σ 10) (e11 : Ax.look σ' 11 = Ax.look σ 11) (e12 : Ax.look σ' 12 = Ax.look σ 12) (e13 : Ax.look σ' 13 = Ax.look σ 13) :
    T2 F0 M0 r2 ask op k sl L i j r9 r10 r12 r13 a b' x y yes σ' F M :=
  ⟨⟨s.toT0.ext e1 e2, e5.trans s.h5, e6.trans s.h6, s.rd⟩, e7.trans s.h7, e8.trans s.h8, e9.trans s.h9, e10.trans s.h10, e11.trans s.h11, e12.trans s.h12, e13.trans s.h13, s.f9, s.f10, s.f12, s.f13⟩
theorem T2.grow (s : T2 F0 M0 r2 ask op k sl L i j r9 r10 r12 r13 a b' x y yes σ F M) (k' : Keep M M') (o : Old F0 M') : T2 F0 M0 r2 ask op k sl L i j r9 r10 r12 r13 a b' x y yes σ F M' :=
  ⟨⟨⟨s.f, s.kp.trans k', o, k' _ _ s.fr, s.h1, s.h2⟩, s.h5, s.h6, s.rd.keep k' o⟩, s.h7, s.h8, s.h9, s.h10, s.h11, s.h12, s.h13, k' _ _ s.f9, k' _ _ s.f10, k' _ _ s.f12, k' _ _ s.f13⟩
end
/-- With some members of both. -/
structure T3 (F0 : Fz) (M0 : Hp) (r2 : Nat) (ask : List Value) (op : Int) (k : Nat) (sl : Value) (L : List V) (i j r9 r10 r12 r13 : Nat) (a b' x y : V) (yes : Bool) (su sv : Value) (lu lw : List Int) (σ : Env) (F : Fz) (M : Hp) : Prop extends T2 F0 M0 r2 ask op k sl L i j r9 r10 r12 r13 a b' x y yes σ F M where
  h17 : Ax.look σ 17 = some su
  h18 : Ax.look σ 18 = some sv
  ru : RdI F0 M su lu
  rv : RdI F0 M sv lw
section
variable {F0 : Fz} {M0 : Hp} {r2 : Nat} {ask : List Value} {op : Int} {k : Nat} {sl : Value} {L : List V} {i j r9 r10 r12 r13 : Nat} {a b' x y : V} {yes : Bool} {su sv : Value} {lu lw : List Int} {σ σ' : Env} {F : Fz} {M M' : Hp}
theorem T3.ext (s : T3 F0 M0 r2 ask op k sl L i j r9 r10 r12 r13 a b' x y yes su sv lu lw σ F M) (e1 : Ax.look σ' 1 = Ax.look σ 1) (e2 : Ax.look σ' 2 = Ax.look σ 2) (e5 : Ax.look σ' 5 = Ax.look σ 5) (e6 : Ax.look σ' 6 = Ax.look σ 6)
    (e7 : Ax.look σ' 7 = Ax.look σ 7) (e8 : Ax.look σ' 8 = Ax.look σ 8) (e9 : Ax.look σ' 9 = Ax.look σ 9) (e10 : Ax.look σ' 10 = Ax.look σ 10) (e11 : Ax.look σ' 11 = Ax.look σ 11) (e12 : Ax.look σ' 12 = Ax.look σ 12) (e13 : Ax.look σ' 13 = Ax.look σ 13) (e17 : Ax.look σ' 17 = Ax.look σ 17) (e18 : Ax.look σ' 18 = Ax.look σ 18) :
    T3 F0 M0 r2 ask op k sl L i j r9 r10 r12 r13 a b' x y yes su sv lu lw σ' F M :=
  ⟨s.toT2.ext e1 e2 e5 e6 e7 e8 e9 e10 e11 e12 e13, e17.trans s.h17, e18.trans s.h18, s.ru, s.rv⟩
end
def uI (F0 : Fz) (M0 : Hp) (r2 : Nat) (ask : List Value) (op : Int) (k : Nat) (sl : Value) (L : List V) (i j r9 r10 r12 r13 : Nat) (a b' x y : V) (yes : Bool) (su sv : Value) (lu lw : List Int) (m : Nat) (σ : Env) (F : Fz) (M : Hp) : Prop :=
  T3 F0 M0 r2 ask op k sl L i j r9 r10 r12 r13 a b' x y yes su sv lu lw σ F M ∧ ∃ s : Nat, s + m = lu.length ∧ Ax.look σ 19 = some (.int .i64 s)
def wI (F0 : Fz) (M0 : Hp) (r2 : Nat) (ask : List Value) (op : Int) (k : Nat) (sl : Value) (L : List V) (i j r9 r10 r12 r13 : Nat) (a b' x y : V) (yes : Bool) (su sv : Value) (lu lw : List Int) (s : Nat) (m : Nat) (σ : Env) (F : Fz) (M : Hp) : Prop :=
  T3 F0 M0 r2 ask op k sl L i j r9 r10 r12 r13 a b' x y yes su sv lu lw σ F M ∧ Ax.look σ 19 = some (.int .i64 s) ∧ ∃ t : Nat, t + m = lw.length ∧ Ax.look σ 20 = some (.int .i64 t)
theorem some_row {v : V} {F : Fz} {M : Hp} {u : Value} {F' : Fz} {M' : Hp} (h : someR v F M u F' M') (hold : Old F M) : F' = F ∧ Le F M F M' ∧ Keep M M' ∧ Old F M' ∧ ∃ l : List Int, l.length ≤ 1000 ∧ (∀ y ∈ l, 0 ≤ y ∧ y ≤ mostV v.w ∧ v.has y = true) ∧ RdI F M' u l := by
  obtain ⟨hF, l, hl, hm, hu⟩ := h
  refine ⟨hF, ?_⟩
  rcases hu with ⟨rfl, rfl, rfl⟩ | ⟨g, cap, hFg, hMg, rfl, rfl⟩
  · exact ⟨Le.refl _ _, Keep.refl _, hold, [], by simp, by simp, by simp, none, 0, rfl, .inl rfl⟩
  · exact ⟨Le.upd hFg hMg, (Keep.refl _).new hMg, hold.upd hFg, l, hl, hm, by omega, _, cap, rfl, .inr ⟨g, 0, _, rfl, blk_upd_same, fun i hi => by simp [hi]⟩⟩
/-- The answer and what it should be. -/
def t14 (op : Int) (k : Nat) (a b x y : V) (yes : Bool) (σ : Env) : Prop :=
  (askB op k a b = true ∧ Ax.look σ 14 = some (.int .i64 0) ∧ TwoR op k a b yes x y) ∨ (askB op k a b = false ∧ Ax.look σ 14 = some (.int .i64 1))
def J1 (F0 : Fz) (M0 : Hp) (r2 : Nat) (ask : List Value) (op : Int) (k : Nat) (sl : Value) (L : List V) (i j : Nat) (σ : Env) (F : Fz) (M : Hp) : Prop :=
  ∃ (r9 r10 r12 r13 : Nat) (a b x y : V) (yes : Bool), T2 F0 M0 r2 ask op k sl L i j r9 r10 r12 r13 a b x y yes σ F M ∧ t14 op k a b x y yes σ
def J2a (F0 : Fz) (M0 : Hp) (r2 : Nat) (ask : List Value) (op : Int) (k : Nat) (sl : Value) (L : List V) (i j r9 r10 r12 r13 : Nat) (a b x y : V) (yes : Bool) (σ : Env) (F : Fz) (M : Hp) : Prop :=
  T2 F0 M0 r2 ask op k sl L i j r9 r10 r12 r13 a b x y yes σ F M ∧ t14 op k a b x y yes σ ∧ Ax.look σ 15 = some (.int .i64 1)
def J2 (F0 : Fz) (M0 : Hp) (r2 : Nat) (ask : List Value) (op : Int) (k : Nat) (sl : Value) (L : List V) (i j r9 r10 r12 r13 : Nat) (a b x y : V) (yes : Bool) (σ : Env) (F : Fz) (M : Hp) : Prop :=
  T2 F0 M0 r2 ask op k sl L i j r9 r10 r12 r13 a b x y yes σ F M ∧ t14 op k a b x y yes σ ∧ Ax.look σ 15 = some (.int .i64 1) ∧ Ax.look σ 16 = some (.int .i64 (wK k))
def J3 (F0 : Fz) (M0 : Hp) (r2 : Nat) (ask : List Value) (op : Int) (k : Nat) (sl : Value) (L : List V) (i j r9 r10 r12 r13 : Nat) (a b x y : V) (yes : Bool) (σ : Env) (F : Fz) (M : Hp) : Prop :=
  T2 F0 M0 r2 ask op k sl L i j r9 r10 r12 r13 a b x y yes σ F M ∧ t14 op k a b x y yes σ ∧ Ax.look σ 15 = some (.int .i64 (if askB op k a b then 0 else 1)) ∧ Ax.look σ 16 = some (.int .i64 (wK k))
theorem t14.ext {op : Int} {k : Nat} {a b x y : V} {yes : Bool} {σ σ' : Env} (h : t14 op k a b x y yes σ) (e : Ax.look σ' 14 = Ax.look σ 14) : t14 op k a b x y yes σ' := by
  rcases h with ⟨h1, h2, h3⟩ | ⟨h1, h2⟩
  · exact .inl ⟨h1, e.trans h2, h3⟩
  · exact .inr ⟨h1, e.trans h2⟩
theorem askB_iff {op k : Int} {a b : V} : askB op k a b = true ↔ (op = 18 ∨ op = 19) ∧ isK k = true ∧ a.ok = true ∧ b.ok = true ∧ a.w = ofW k ∧ b.w = ofW k := by
  simp only [askB, fitB, Bool.and_eq_true, Bool.or_eq_true, decide_eq_true_eq]
  constructor
  · rintro ⟨⟨h1, ⟨h2, h3⟩, h4⟩, ⟨_, h5⟩, h6⟩; exact ⟨h1, h2, h3, h5, h4, h6⟩
  · rintro ⟨h1, h2, h3, h4, h5, h6⟩; exact ⟨⟨h1, ⟨h2, h3⟩, h5⟩, ⟨h2, h4⟩, h6⟩
end Go.Proofs.Tryz.K
