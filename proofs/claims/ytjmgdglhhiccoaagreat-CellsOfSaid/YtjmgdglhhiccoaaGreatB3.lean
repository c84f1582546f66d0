/- Parts B3: the machine's runs of small codes, contracts of functions, plain facts. -/
import Derived.Test.YtjmgdglhhiccoaaGreatB2
namespace Go.Ax
open Go
set_option linter.unusedVariables false
structure Xp where
  op : Int
  kind : Int
  n : Int
  a : Int
  b : Int
structure Sm where
  op : Int
  to : Int
  kind : Int
  e : Int
  n : Int
  ba : Option Addr
  bc : Nat
  body : List Int
  ea : Option Addr
  ec : Nat
  els : List Int
def bodyAt (st : List Sm) (m : Nat) : List Int := (st[m]?.map (·.body)).getD []
def elsAt (st : List Sm) (m : Nat) : List Int := (st[m]?.map (·.els)).getD []
def opAt (st : List Sm) (m : Nat) : Int := (st[m]?.map (·.op)).getD 0
def nAt (st : List Sm) (m : Nat) : Int := (st[m]?.map (·.n)).getD 0
def seatC (st : List Sm) : Nat → List Int → Nat → Option Nat
  | 0, l, m => if l = [] then some m else none
  | k + 1, l, m => l.foldlM (fun m s => if s = (m : Int) ∧ m < st.length then (seatC st k (bodyAt st m) (m + 1)).bind (seatC st k (elsAt st m)) else none) m
structure Sq where
  last : Int
  seen : Nat
  made : List Int
def seatStep (st : List Sm) (rec : List Int → Bool → Sq → Option Sq) (lp : Bool) (q : Sq) (s : Int) : Option Sq :=
  if q.last < s ∧ s < st.length then
    if opAt st s.toNat = 3 ∧ (lp = true ∨ nAt st s.toNat ∈ q.made) then none
    else (rec (bodyAt st s.toNat) (lp || decide (opAt st s.toNat = 6)) ⟨s, q.seen + 1, if opAt st s.toNat = 3 then nAt st s.toNat :: q.made else q.made⟩).bind (rec (elsAt st s.toNat) lp)
  else none
def seatR (st : List Sm) : Nat → List Int → Bool → Sq → Option Sq
  | 0, l, _, q => if l = [] then some q else none
  | k + 1, l, lp, q => l.foldlM (seatStep st (seatR st k) lp) q
def loopAt (lo : List Bool) (i : Nat) : Bool := (lo[i]?).getD false
def setLo (st : List Sm) (i : Nat) (lo : List Bool) : List Bool := (bodyAt st i ++ elsAt st i).foldl (fun lo k => lo.set k.toNat (loopAt lo i || decide (opAt st i = 6))) lo
def freshStep (st : List Sm) (q : List Bool × List Int) (i : Nat) : Option (List Bool × List Int) :=
  if opAt st i = 3 then
    if loopAt (setLo st i q.1) i = true ∨ nAt st i ∈ q.2 then none else some (setLo st i q.1, nAt st i :: q.2)
  else some (setLo st i q.1, q.2)
def freshF (st : List Sm) : Nat → Nat → List Bool × List Int → Option (List Bool × List Int)
  | 0, _, q => some q
  | c + 1, a, q => (freshStep st q a).bind (freshF st c (a + 1))
theorem freshF_add (st : List Sm) : ∀ (c d a : Nat) (q : List Bool × List Int), freshF st (c + d) a q = (freshF st c a q).bind (freshF st d (a + c))
  | 0, d, a, q => by simp [freshF]
  | c + 1, d, a, q => by
    rw [Nat.succ_add]
    simp only [freshF]
    cases h : freshStep st q a with
    | none => rfl
    | some q' =>
      simp only [Option.bind_some]
      rw [freshF_add st c d (a + 1) q', Nat.add_right_comm, Nat.add_assoc]
theorem set_all (i : Nat) (f : Bool) : ∀ (l : List Int) (lo : List Bool), (∀ k ∈ l, ¬ k.toNat = i) → l.foldl (fun lo k => lo.set k.toNat (loopAt lo i || f)) lo = l.foldl (fun lo' k => lo'.set k.toNat (loopAt lo i || f)) lo
  | [], lo, _ => rfl
  | k :: l, lo, h => by
    simp only [List.foldl_cons]
    have hk := h k (by simp)
    have e : ∀ v, loopAt (lo.set k.toNat v) i = loopAt lo i := fun v => by
      unfold loopAt
      rw [List.getElem?_set_ne hk]
    rw [set_all i f l _ (fun x hx => h x (by simp [hx])), e]
theorem set_len (v : Bool) : ∀ (l : List Int) (lo : List Bool), (l.foldl (fun lo' k => lo'.set k.toNat v) lo).length = lo.length
  | [], lo => rfl
  | k :: l, lo => by rw [List.foldl_cons, set_len v l, List.length_set]
theorem set_other (v : Bool) {j : Nat} : ∀ (l : List Int) (lo : List Bool), (∀ k ∈ l, ¬ k.toNat = j) → (l.foldl (fun lo' k => lo'.set k.toNat v) lo)[j]? = lo[j]?
  | [], lo, _ => rfl
  | k :: l, lo, h => by
    rw [List.foldl_cons, set_other v l _ (fun x hx => h x (by simp [hx])), List.getElem?_set_ne (h k (by simp))]
theorem set_in (v : Bool) {j : Nat} : ∀ (l : List Int) (lo : List Bool), j < lo.length → (∃ k ∈ l, k.toNat = j) → (l.foldl (fun lo' k => lo'.set k.toNat v) lo)[j]? = some v
  | [], lo, _, h => by obtain ⟨k, h, _⟩ := h; cases h
  | k :: l, lo, hj, h => by
    rw [List.foldl_cons]
    by_cases hl : ∃ k ∈ l, k.toNat = j
    · exact set_in v l _ (by rw [List.length_set]; exact hj) hl
    · have hk : k.toNat = j := by
        obtain ⟨x, hx, he⟩ := h
        rcases List.mem_cons.1 hx with rfl | hx
        · exact he
        · exact absurd ⟨x, hx, he⟩ hl
      rw [set_other v l _ (fun x hx he => hl ⟨x, hx, he⟩), hk, List.getElem?_set_self hj]
theorem seatC_ge (st : List Sm) : ∀ (k : Nat) (l : List Int) (m m' : Nat), seatC st k l m = some m' → m ≤ m' ∧ (∀ s ∈ l, (m : Int) ≤ s ∧ s < m') ∧ (m ≤ st.length → m' ≤ st.length)
  | 0, l, m, m', h => by
    simp only [seatC] at h
    split at h
    · rename_i hl; cases h; subst hl; exact ⟨Nat.le_refl _, by simp, id⟩
    · cases h
  | k + 1, l, m, m', h => by
    simp only [seatC] at h
    induction l generalizing m with
    | nil => simp at h; subst h; exact ⟨Nat.le_refl _, by simp, id⟩
    | cons s l ih =>
      rw [List.foldlM_cons] at h
      by_cases hs : s = (m : Int) ∧ m < st.length
      · rw [if_pos hs] at h
        cases h1 : seatC st k (bodyAt st m) (m + 1) with
        | none => rw [h1] at h; simp at h
        | some m1 =>
          cases h2 : seatC st k (elsAt st m) m1 with
          | none => rw [h1] at h; simp [h2] at h
          | some m2 =>
            rw [h1] at h
            simp only [Option.bind_some, h2, Option.bind_eq_bind] at h
            obtain ⟨a1, a2, a3⟩ := seatC_ge st k _ _ _ h1
            obtain ⟨b1, b2, b3⟩ := seatC_ge st k _ _ _ h2
            obtain ⟨c1, c2, c3⟩ := ih m2 h
            refine ⟨by omega, fun x hx => ?_, fun hm => c3 (b3 (a3 hs.2))⟩
            rcases List.mem_cons.1 hx with rfl | hx
            · omega
            · have := c2 x hx; omega
      · rw [if_neg hs] at h; simp at h
theorem seat_fresh (st : List Sm) (hels : ∀ m, elsAt st m ≠ [] → ¬ opAt st m = 6) : ∀ (k : Nat) (l : List Int) (m m' : Nat) (lo : List Bool) (made : List Int) (lp : Bool),
    seatC st k l m = some m' → m ≤ st.length → lo.length = st.length → (∀ s ∈ l, lo[s.toNat]? = some lp) →
    match freshF st (m' - m) m (lo, made) with
    | none => seatR st k l lp ⟨(m : Int) - 1, m, made⟩ = none
    | some q => seatR st k l lp ⟨(m : Int) - 1, m, made⟩ = some ⟨(m' : Int) - 1, m', q.2⟩ ∧ q.1.length = st.length ∧ ∀ j, m' ≤ j → q.1[j]? = lo[j]?
  | 0, l, m, m', lo, made, lp, h, hm, hlo, hl => by
    simp only [seatC] at h
    split at h
    · rename_i hl0
      cases h
      rw [Nat.sub_self]
      simp only [freshF, seatR, hl0, if_true]
      exact ⟨by trivial, hlo, fun j _ => by trivial⟩
    · cases h
  | k + 1, l, m, m', lo, made, lp, h, hm, hlo, hl => by
    simp only [seatC] at h
    induction l generalizing m lo made with
    | nil =>
      simp at h; subst h
      rw [Nat.sub_self]
      simp only [freshF, seatR, List.foldlM_nil]
      exact ⟨by trivial, hlo, fun j _ => by trivial⟩
    | cons s l ih =>
      rw [List.foldlM_cons] at h
      by_cases hs : s = (m : Int) ∧ m < st.length
      · rw [if_pos hs] at h
        obtain ⟨rfl, hmn⟩ := hs
        cases h1 : seatC st k (bodyAt st m) (m + 1) with
        | none => rw [h1] at h; simp at h
        | some m1 =>
          cases h2 : seatC st k (elsAt st m) m1 with
          | none => rw [h1] at h; simp [h2] at h
          | some m2 =>
            rw [h1] at h
            simp only [Option.bind_some, h2, Option.bind_eq_bind] at h
            obtain ⟨a1, a2, a3⟩ := seatC_ge st k _ _ _ h1
            obtain ⟨b1, b2, b3⟩ := seatC_ge st k _ _ _ h2
            have hc := seatC_ge st (k + 1) l m2 m' (by simpa only [seatC] using h)
            have hchild : ∀ x ∈ bodyAt st m ++ elsAt st m, (m : Int) + 1 ≤ x ∧ x < m2 := fun x hx => by
              rcases List.mem_append.1 hx with hx | hx
              · have := a2 x hx; omega
              · have := b2 x hx; omega
            have hlm : lo[m]? = some lp := by simpa using hl (m : Int) (by simp)
            have hset : setLo st m lo = (bodyAt st m ++ elsAt st m).foldl (fun lo' x => lo'.set x.toNat (lp || decide (opAt st m = 6))) lo := by
              unfold setLo
              rw [set_all m _ _ _ (fun x hx => by have := hchild x hx; omega)]
              simp only [loopAt, hlm, Option.getD_some]
            have hlen1 : (setLo st m lo).length = st.length := by rw [hset, set_len]; exact hlo
            have hkeep : ∀ j, (j ≤ m ∨ m2 ≤ j) → (setLo st m lo)[j]? = lo[j]? := fun j hj => by
              rw [hset]
              exact set_other _ _ _ (fun x hx he => by have := hchild x hx; omega)
            have hm1 := a3 (by omega)
            have hm2 := b3 hm1
            have hget : ∀ x ∈ bodyAt st m ++ elsAt st m, (setLo st m lo)[x.toNat]? = some (lp || decide (opAt st m = 6)) := fun x hx => by
              rw [hset]
              have := hchild x hx
              exact set_in _ _ _ (by omega) ⟨x, hx, rfl⟩
            have hlpm : loopAt (setLo st m lo) m = lp := by unfold loopAt; rw [hkeep m (.inl (Nat.le_refl _)), hlm]; rfl
            have e1 : m' - m = 1 + ((m1 - (m + 1)) + ((m2 - m1) + (m' - m2))) := by omega
            have estep : freshF st 1 m (lo, made) = freshStep st (lo, made) m := by
              simp only [freshF]
              cases freshStep st (lo, made) m <;> rfl
            rw [e1, freshF_add, estep]
            simp only [seatR, List.foldlM_cons, seatStep]
            have htn : ((m : Int)).toNat = m := by omega
            rw [if_pos (by omega : (m : Int) - 1 < m ∧ (m : Int) < st.length), htn]
            unfold freshStep
            rw [hlpm]
            by_cases hno : opAt st m = 3 ∧ (lp = true ∨ nAt st m ∈ made)
            · rw [if_pos hno, if_pos hno.1, if_pos hno.2]
              rfl
            · rw [if_neg hno]
              have efs : (if opAt st m = 3 then if lp = true ∨ nAt st m ∈ (lo, made).2 then none else some (setLo st m (lo, made).1, nAt st m :: (lo, made).2) else some (setLo st m (lo, made).1, (lo, made).2)) =
                  some (setLo st m lo, if opAt st m = 3 then nAt st m :: made else made) := by
                by_cases h3 : opAt st m = 3
                · rw [if_pos h3, if_pos h3, if_neg (fun h => hno ⟨h3, h⟩)]
                · rw [if_neg h3, if_neg h3]
              rw [efs]
              simp only [Option.bind_some]
              generalize (if opAt st m = 3 then nAt st m :: made else made) = made1
              rw [freshF_add]
              have i1 := seat_fresh st hels k (bodyAt st m) (m + 1) m1 (setLo st m lo) made1 (lp || decide (opAt st m = 6)) h1 (by omega) hlen1 (fun x hx => hget x (List.mem_append.2 (.inl hx)))
              have ec : (((m + 1 : Nat) : Int)) - 1 = m := by omega
              rw [ec] at i1
              cases q1 : freshF st (m1 - (m + 1)) (m + 1) (setLo st m lo, made1) with
              | none =>
                rw [q1] at i1
                simp only [] at i1
                rw [i1]
                rfl
              | some q =>
                rw [q1] at i1
                simp only [] at i1
                obtain ⟨j1, j2, j3⟩ := i1
                rw [j1]
                simp only [Option.bind_some]
                have ea1 : m + 1 + (m1 - (m + 1)) = m1 := by omega
                rw [ea1, freshF_add]
                have i2 := seat_fresh st hels k (elsAt st m) m1 m2 q.1 q.2 lp h2 hm1 j2 (fun x hx => by
                  have hb := b2 x hx
                  rw [j3 x.toNat (by omega), hget x (List.mem_append.2 (.inr hx))]
                  have : ¬ opAt st m = 6 := hels m (by intro h; rw [h] at hx; cases hx)
                  simp [this])
                cases q2 : freshF st (m2 - m1) m1 q with
                | none =>
                  have q2' : freshF st (m2 - m1) m1 (q.1, q.2) = none := q2
                  rw [q2'] at i2
                  simp only [] at i2
                  rw [i2]
                  rfl
                | some p =>
                  have q2' : freshF st (m2 - m1) m1 (q.1, q.2) = some p := q2
                  rw [q2'] at i2
                  simp only [] at i2
                  obtain ⟨k1, k2, k3⟩ := i2
                  rw [k1]
                  simp only [Option.bind_some, Option.bind_eq_bind]
                  have ea2 : m1 + (m2 - m1) = m2 := by omega
                  rw [ea2]
                  have hl2 : ∀ x ∈ l, p.1[x.toNat]? = some lp := fun x hx => by
                    have hb := hc.2.1 x hx
                    rw [k3 x.toNat (by omega), j3 x.toNat (by omega), hkeep x.toNat (by omega)]
                    exact hl x (by simp [hx])
                  have i3 := ih m2 p.1 p.2 h hm2 k2 hl2
                  simp only [seatR] at i3
                  have ep : (p.1, p.2) = p := rfl
                  rw [ep] at i3
                  cases q3 : freshF st (m' - m2) m2 p with
                  | none => rw [q3] at i3; exact i3
                  | some r =>
                    rw [q3] at i3
                    obtain ⟨l1, l2, l3⟩ := i3
                    refine ⟨l1, l2, fun j hj => ?_⟩
                    rw [l3 j hj, k3 j (by omega), j3 j (by omega), hkeep j (by omega)]
      · rw [if_neg hs] at h; simp at h
theorem seatR_seatC (st : List Sm) : ∀ (k : Nat) (l : List Int) (lp : Bool) (q q' : Sq), seatR st k l lp q = some q' →
    q.last ≤ q'.last ∧ ((q'.seen : Int) - q.seen ≤ q'.last - q.last) ∧ q.seen ≤ q'.seen ∧ (q.last < st.length → q'.last < st.length) ∧
    ∀ m : Nat, q.last = (m : Int) - 1 → (q'.seen : Int) - q.seen = q'.last - q.last → ∃ m' : Nat, q'.last = (m' : Int) - 1 ∧ seatC st k l m = some m'
  | 0, l, lp, q, q', h => by
    simp only [seatR] at h
    split at h
    · rename_i hl
      cases h
      refine ⟨Int.le_refl _, by omega, Nat.le_refl _, id, fun m hm _ => ⟨m, hm, ?_⟩⟩
      simp only [seatC, hl, if_true]
    · cases h
  | k + 1, l, lp, q, q', h => by
    simp only [seatR] at h
    induction l generalizing q with
    | nil =>
      simp at h; subst h
      exact ⟨Int.le_refl _, by omega, Nat.le_refl _, id, fun m hm _ => ⟨m, hm, by simp [seatC]⟩⟩
    | cons s l ih =>
      rw [List.foldlM_cons] at h
      simp only [seatStep] at h
      by_cases hs : q.last < s ∧ s < st.length
      · rw [if_pos hs] at h
        by_cases hno : opAt st s.toNat = 3 ∧ (lp = true ∨ nAt st s.toNat ∈ q.made)
        · rw [if_pos hno] at h; simp at h
        · rw [if_neg hno] at h
          cases h1 : seatR st k (bodyAt st s.toNat) (lp || decide (opAt st s.toNat = 6)) ⟨s, q.seen + 1, if opAt st s.toNat = 3 then nAt st s.toNat :: q.made else q.made⟩ with
          | none => rw [h1] at h; simp at h
          | some q1 =>
            cases h2 : seatR st k (elsAt st s.toNat) lp q1 with
            | none => rw [h1] at h; simp [h2] at h
            | some q2 =>
              rw [h1] at h
              simp only [Option.bind_some, h2, Option.bind_eq_bind] at h
              obtain ⟨a1, a2, a3, a4, a5⟩ := seatR_seatC st k _ _ _ _ h1
              obtain ⟨b1, b2, b3, b4, b5⟩ := seatR_seatC st k _ _ _ _ h2
              obtain ⟨c1, c2, c3, c4, c5⟩ := ih q2 h
              simp only [] at a1 a2 a3 a4 a5
              have hlast1 := a4 hs.2
              have hlast2 := b4 hlast1
              refine ⟨by omega, by omega, by omega, fun _ => c4 hlast2, fun m hm heq => ?_⟩
              have es : s = (m : Int) := by omega
              subst es
              have htn : ((m : Int)).toNat = m := by omega
              rw [htn] at a5 b5
              obtain ⟨m1, e1, s1⟩ := a5 (m + 1) (by omega) (by omega)
              obtain ⟨m2, e2, s2⟩ := b5 m1 e1 (by omega)
              obtain ⟨m3, e3, s3⟩ := c5 m2 e2 (by omega)
              refine ⟨m3, e3, ?_⟩
              simp only [seatC] at s3 ⊢
              rw [List.foldlM_cons, if_pos ⟨rfl, by omega⟩, s1]
              simp only [Option.bind_some, s2, Option.bind_eq_bind]
              exact s3
      · rw [if_neg hs] at h; simp at h
def standC (st : List Sm) (main : List Int) : Bool := decide (seatC st 6 main 0 = some st.length) && (freshF st st.length 0 (List.replicate st.length false, [])).isSome
def standR (st : List Sm) (main : List Int) : Bool := match seatR st 6 main false ⟨-1, 0, []⟩ with
  | some q => decide (q.seen = st.length)
  | none => false
theorem stand_eq (st : List Sm) (main : List Int) (hels : ∀ m, elsAt st m ≠ [] → ¬ opAt st m = 6) : standR st main = standC st main := by
  have key : seatC st 6 main 0 = some st.length → standR st main = (freshF st st.length 0 (List.replicate st.length false, [])).isSome := by
    intro h
    have hg := seatC_ge st 6 main 0 _ h
    have := seat_fresh st hels 6 main 0 st.length (List.replicate st.length false) [] false h (Nat.zero_le _) (by simp) (fun s hs => by
      have := hg.2.1 s hs
      rw [List.getElem?_replicate, if_pos (by omega)])
    have e0 : ((0 : Nat) : Int) - 1 = -1 := rfl
    rw [e0, Nat.sub_zero] at this
    unfold standR
    cases hf : freshF st st.length 0 (List.replicate st.length false, []) with
    | none => rw [hf] at this; simp only [] at this; rw [this]; rfl
    | some q => rw [hf] at this; simp only [] at this; rw [this.1]; simp
  unfold standC
  by_cases h : seatC st 6 main 0 = some st.length
  · rw [key h]; simp [h]
  · rw [decide_eq_false h, Bool.false_and]
    unfold standR
    cases hr : seatR st 6 main false ⟨-1, 0, []⟩ with
    | none => rfl
    | some q =>
      obtain ⟨a1, a2, a3, a4, a5⟩ := seatR_seatC st 6 main false _ _ hr
      simp only [] at a1 a2 a3 a4 a5
      simp only [decide_eq_false_iff_not]
      intro hq
      have hl : q.last < st.length := a4 (by omega)
      obtain ⟨m', e1, e2⟩ := a5 0 (by omega) (by omega)
      apply h
      rw [e2]
      congr 1
      omega
end Go.Ax
namespace Go.Ax
open Go
set_option linter.unusedVariables false
set_option linter.unusedSimpArgs false
def arityV (op : Int) : Int := if op = 1 ∨ op = 2 then 0 else if 3 ≤ op ∧ op ≤ 7 then 1 else if 8 ≤ op ∧ op ≤ 22 then 2 else -1
def manyV (op : Int) : Int := if op = 1 ∨ op = 2 then 0 else if 3 ≤ op ∧ op ≤ 7 then 1 else 2
def kindAt (es : List Xp) (i : Int) : Int := (es[i.toNat]?.map (·.kind)).getD 0
def aheadB (k i : Int) : Bool := decide (0 ≤ k) && decide (k < i)
def placesB (x : Xp) (i : Int) : Bool :=
  if arityV x.op = 0 then decide (x.a = 0) && decide (x.b = 0) else if arityV x.op = 1 then aheadB x.a i && decide (x.b = 0) else if arityV x.op = 2 then aheadB x.a i && aheadB x.b i else false
def leafB (nv : Nat) (x : Xp) : Bool :=
  if x.op = 2 then decide (x.kind = 7) && decide (1 ≤ x.n) && decide (x.n ≤ nv) else (decide (x.kind = 7) && decide (x.n = 0)) || (isK x.kind && isN x.n (ofW x.kind))
def oneB (es : List Xp) (x : Xp) : Bool :=
  if x.op = 3 then isS x.kind && decide (kindAt es x.a = 7) else if x.op = 4 then isK x.kind && isK (kindAt es x.a) else if x.op = 7 then decide (x.kind = 6) else isK x.kind && decide (kindAt es x.a = x.kind)
def twoB (es : List Xp) (x : Xp) : Bool :=
  if x.op = 18 ∨ x.op = 19 then decide (x.kind = 6) && isK (kindAt es x.a) && decide (kindAt es x.a = kindAt es x.b)
  else if x.op = 20 then decide (x.kind = 7) && decide (kindAt es x.a = 7) && decide (kindAt es x.b = 6)
  else if x.op = 21 ∨ x.op = 22 then decide (x.kind = 6) && decide (kindAt es x.a = 7) && decide (kindAt es x.b = 7)
  else isK x.kind && decide (kindAt es x.a = x.kind) && decide (kindAt es x.b = x.kind)
def exprB (nv : Nat) (es : List Xp) (i : Nat) (x : Xp) : Bool :=
  placesB x i && (if arityV x.op = 0 then leafB nv x else if arityV x.op = 1 then decide (x.n = 0) && oneB es x else decide (x.n = 0) && twoB es x)
def numB (n most : Int) : Bool := decide (0 ≤ n) && decide (n ≤ most)
def kA (es : List Xp) (x : Xp) : Int := if 0 < manyV x.op then kindAt es x.a else 0
def kB (es : List Xp) (x : Xp) : Int := if 1 < manyV x.op then kindAt es x.b else 0
def bodyX (nv : Nat) (es : List Xp) (x : Xp) : Bool :=
  if x.op = 1 then (decide (0 < wK x.kind) && isN x.n (wK x.kind)) || (decide (x.kind = 7) && decide (x.n = 0))
  else if x.op = 2 then decide (x.kind = 7) && (decide (1 ≤ x.n) && decide (x.n ≤ nv))
  else if x.n = 0 then
    if x.op = 3 then isS x.kind && decide (kA es x = 7) else if x.op = 4 then decide (0 < wK x.kind) && decide (0 < wK (kA es x))
    else if x.op = 5 ∨ x.op = 6 then decide (0 < wK x.kind) && decide (kA es x = x.kind)
    else if x.op = 7 then decide (x.kind = 6) && isS (kA es x)
    else if x.op = 18 ∨ x.op = 19 then decide (x.kind = 6) && decide (0 < wK (kA es x)) && decide (kA es x = kB es x)
    else if x.op = 20 then decide (x.kind = 7) && decide (kA es x = 7) && decide (kB es x = 6)
    else if x.op = 21 ∨ x.op = 22 then decide (x.kind = 6) && decide (kA es x = 7) && decide (kB es x = 7)
    else decide (0 < wK x.kind) && decide (kA es x = x.kind) && decide (kB es x = x.kind)
  else false
def exprR (nv : Nat) (es : List Xp) (i : Nat) (x : Xp) : Bool :=
  (decide (1 ≤ x.op) && decide (x.op ≤ 22)) && (if 0 < manyV x.op then numB x.a ((i : Int) - 1) else decide (x.a = 0)) && (if 1 < manyV x.op then numB x.b ((i : Int) - 1) else decide (x.b = 0)) && bodyX nv es x
theorem wK_pos (k : Int) : decide (0 < wK k) = isK k := by
  unfold wK
  cases h : isK k
  · simp
  · simp [ofW]
    split
    · omega
    · split <;> omega
theorem wK_of {k : Int} (h : isK k = true) : wK k = ofW k := by simp [wK, h]
theorem ahead_num (k : Int) (i : Nat) : aheadB k i = numB k ((i : Int) - 1) := by
  unfold aheadB numB
  congr 1
  exact decide_eq_decide.2 (by omega)
theorem ops22 {op : Int} (h1 : 1 ≤ op) (h2 : op ≤ 22) : op = 1 ∨ op = 2 ∨ op = 3 ∨ op = 4 ∨ op = 5 ∨ op = 6 ∨ op = 7 ∨ (8 ≤ op ∧ op ≤ 17) ∨ op = 18 ∨ op = 19 ∨ op = 20 ∨ op = 21 ∨ op = 22 := by omega
theorem expr_eq {nv : Nat} {es : List Xp} {i : Nat} {x : Xp} (h : ∀ j : Nat, j < i → isS (kindAt es j) = true) : exprR nv es i x = exprB nv es i x := by
  obtain ⟨op, kind, n, a, b⟩ := x
  have hk : isK kind = false ∨ wK kind = ofW kind := by
    cases h : isK kind
    · exact .inl rfl
    · exact .inr (wK_of h)
  have ha : aheadB a i = numB a ((i : Int) - 1) := ahead_num a i
  have hb : aheadB b i = numB b ((i : Int) - 1) := ahead_num b i
  by_cases hop : 1 ≤ op ∧ op ≤ 22
  rotate_left
  · have e1 : (decide (1 ≤ op) && decide (op ≤ 22)) = false := by simp; omega
    have e2 : arityV op = -1 := by unfold arityV; rw [if_neg (by omega), if_neg (by omega), if_neg (by omega)]
    simp only [exprR, e1, Bool.false_and, exprB, placesB, e2]
    rfl
  rcases ops22 hop.1 hop.2 with rfl | rfl | rfl | rfl | rfl | rfl | rfl | e | rfl | rfl | rfl | rfl | rfl
  · have ea : arityV 1 = 0 := rfl
    have em : manyV 1 = 0 := rfl
    simp only [exprR, exprB, placesB, ea, em, leafB, bodyX, wK_pos]
    rcases hk with hk | hk
    · simp [hk]
    · simp [hk, Bool.or_comm]
  · have ea : arityV 2 = 0 := rfl
    have em : manyV 2 = 0 := rfl
    simp [exprR, exprB, placesB, ea, em, leafB, bodyX, Bool.and_assoc]
  · have ea : arityV 3 = 1 := rfl
    have em : manyV 3 = 1 := rfl
    by_cases hn : n = 0 <;> simp [exprR, exprB, placesB, ea, em, oneB, bodyX, kA, ha, hn, Bool.and_assoc]
  · have ea : arityV 4 = 1 := rfl
    have em : manyV 4 = 1 := rfl
    by_cases hn : n = 0 <;> simp [exprR, exprB, placesB, ea, em, oneB, bodyX, kA, wK_pos, ha, hn, Bool.and_assoc]
  · have ea : arityV 5 = 1 := rfl
    have em : manyV 5 = 1 := rfl
    by_cases hn : n = 0 <;> simp [exprR, exprB, placesB, ea, em, oneB, bodyX, kA, wK_pos, ha, hn, Bool.and_assoc]
  · have ea : arityV 6 = 1 := rfl
    have em : manyV 6 = 1 := rfl
    by_cases hn : n = 0 <;> simp [exprR, exprB, placesB, ea, em, oneB, bodyX, kA, wK_pos, ha, hn, Bool.and_assoc]
  · have ea : arityV 7 = 1 := rfl
    have em : manyV 7 = 1 := rfl
    by_cases hn : n = 0
    · simp only [exprR, exprB, placesB, ea, em, oneB, bodyX, kA, kB, wK_pos, ha, hn]
      cases hq : numB a ((i : Int) - 1)
      · simp
      · have hs : isS (kindAt es a) = true := by
          simp only [numB, Bool.and_eq_true, decide_eq_true_eq] at hq
          have := h a.toNat (by omega)
          rwa [Int.toNat_of_nonneg hq.1] at this
        simp [hs]
    · simp [exprR, exprB, placesB, ea, em, oneB, bodyX, ha, hn]
  · have ea : arityV op = 2 := by unfold arityV; rw [if_neg (by omega), if_neg (by omega), if_pos (by omega)]
    have em : manyV op = 2 := by unfold manyV; rw [if_neg (by omega), if_neg (by omega)]
    have n1 : ¬ op = 1 := by omega
    have n2 : ¬ op = 2 := by omega
    have n3 : ¬ op = 3 := by omega
    have n4 : ¬ op = 4 := by omega
    have n5 : ¬ op = 5 := by omega
    have n6 : ¬ op = 6 := by omega
    have n7 : ¬ op = 7 := by omega
    have n18 : ¬ op = 18 := by omega
    have n19 : ¬ op = 19 := by omega
    have n20 : ¬ op = 20 := by omega
    have n21 : ¬ op = 21 := by omega
    have n22 : ¬ op = 22 := by omega
    by_cases hn : n = 0 <;> simp [exprR, exprB, placesB, ea, em, twoB, bodyX, kA, kB, wK_pos, ha, hb, hn, hop.1, hop.2, n1, n2, n3, n4, n5, n6, n7, n18, n19, n20, n21, n22, Bool.and_assoc]
  · have ea : arityV 18 = 2 := rfl
    have em : manyV 18 = 2 := rfl
    by_cases hn : n = 0 <;> simp [exprR, exprB, placesB, ea, em, twoB, bodyX, kA, kB, wK_pos, ha, hb, hn, Bool.and_assoc]
  · have ea : arityV 19 = 2 := rfl
    have em : manyV 19 = 2 := rfl
    by_cases hn : n = 0 <;> simp [exprR, exprB, placesB, ea, em, twoB, bodyX, kA, kB, wK_pos, ha, hb, hn, Bool.and_assoc]
  · have ea : arityV 20 = 2 := rfl
    have em : manyV 20 = 2 := rfl
    by_cases hn : n = 0 <;> simp [exprR, exprB, placesB, ea, em, twoB, bodyX, kA, kB, ha, hb, hn, Bool.and_assoc]
  · have ea : arityV 21 = 2 := rfl
    have em : manyV 21 = 2 := rfl
    by_cases hn : n = 0 <;> simp [exprR, exprB, placesB, ea, em, twoB, bodyX, kA, kB, ha, hb, hn, Bool.and_assoc]
  · have ea : arityV 22 = 2 := rfl
    have em : manyV 22 = 2 := rfl
    by_cases hn : n = 0 <;> simp [exprR, exprB, placesB, ea, em, twoB, bodyX, kA, kB, ha, hb, hn, Bool.and_assoc]
theorem isK_isS {k : Int} (h : isK k = true) : isS k = true := by
  simp [isK, isS] at h ⊢; omega
theorem expr_kind {nv : Nat} {es : List Xp} {i : Nat} {x : Xp} (h : exprB nv es i x = true) : isS x.kind = true := by
  simp only [exprB, Bool.and_eq_true] at h
  obtain ⟨_, h⟩ := h
  have h7 : ∀ {k : Int}, k = 7 → isS k = true := by rintro k rfl; rfl
  have h6 : ∀ {k : Int}, k = 6 → isS k = true := by rintro k rfl; rfl
  split at h
  · unfold leafB at h
    split at h
    · simp at h; exact h7 h.1.1
    · simp at h
      rcases h with h | h
      · exact h7 h.1
      · exact isK_isS h.1
  split at h
  · simp at h
    obtain ⟨_, h⟩ := h
    unfold oneB at h
    split at h
    · simp at h; exact h.1
    split at h
    · simp at h; exact isK_isS h.1
    split at h
    · simp at h; exact h6 h
    · simp at h; exact isK_isS h.1
  · simp at h
    obtain ⟨_, h⟩ := h
    unfold twoB at h
    split at h
    · simp at h; exact h6 h.1.1
    split at h
    · simp at h; exact h7 h.1.1
    split at h
    · simp at h; exact h6 h.1.1
    · simp at h; exact isK_isS h.1.1
def exprsB (nv : Nat) (es : List Xp) (n : Nat) : Bool := (List.range n).all fun i => match es[i]? with | some x => exprB nv es i x | none => true
def exprsR (nv : Nat) (es : List Xp) (n : Nat) : Bool := (List.range n).all fun i => match es[i]? with | some x => exprR nv es i x | none => true
theorem exprs_succ (nv : Nat) (es : List Xp) {n : Nat} (h : n < es.length) : exprsB nv es (n + 1) = (exprsB nv es n && exprB nv es n es[n]) := by
  unfold exprsB
  rw [List.range_succ, List.all_append]
  simp [List.getElem?_eq_getElem h]
theorem exprsR_succ (nv : Nat) (es : List Xp) {n : Nat} (h : n < es.length) : exprsR nv es (n + 1) = (exprsR nv es n && exprR nv es n es[n]) := by
  unfold exprsR
  rw [List.range_succ, List.all_append]
  simp [List.getElem?_eq_getElem h]
theorem exprs_kinds (nv : Nat) (es : List Xp) : ∀ (n : Nat), n ≤ es.length → exprsB nv es n = true → ∀ j : Nat, j < n → isS (kindAt es j) = true
  | 0, _, _, j, hj => by omega
  | n + 1, hn, h, j, hj => by
    rw [exprs_succ nv es (by omega), Bool.and_eq_true] at h
    by_cases e : j = n
    · subst e
      have := expr_kind h.2
      have hk : kindAt es (j : Int) = es[j].kind := by
        unfold kindAt
        rw [Int.toNat_natCast, List.getElem?_eq_getElem (by omega)]; rfl
      rw [hk]; exact this
    · exact exprs_kinds nv es n (by omega) h.1 j (by omega)
theorem exprs_eq (nv : Nat) (es : List Xp) : ∀ (n : Nat), n ≤ es.length → exprsR nv es n = exprsB nv es n
  | 0, _ => rfl
  | n + 1, hn => by
    rw [exprs_succ nv es (by omega), exprsR_succ nv es (by omega), exprs_eq nv es n (by omega)]
    cases h : exprsB nv es n
    · rfl
    · rw [Bool.true_and, Bool.true_and]
      exact expr_eq (exprs_kinds nv es n (by omega) h)
def isEB (es : List Xp) (e kind : Int) : Bool := decide (0 ≤ e) && decide (e < es.length) && decide (kindAt es e = kind)
def bareTo (s : Sm) : Int := if s.op = 1 ∨ s.op = 2 ∨ s.op = 3 then s.to else 0
def bareKind (s : Sm) : Int := if s.op = 1 ∨ s.op = 2 then s.kind else 0
def bareE (s : Sm) : Int := if s.op = 1 ∨ s.op = 4 ∨ s.op = 5 ∨ s.op = 6 then s.e else 0
def bareN (s : Sm) : Int := if s.op = 3 then s.n else 0
def plainB (s : Sm) : Bool :=
  !((decide (0 < s.els.length) && !decide (s.op = 5)) || (decide (0 < s.body.length) && !decide (s.op = 5) && !decide (s.op = 6))) &&
  (decide (s.to = bareTo s) && decide (s.kind = bareKind s) && decide (s.e = bareE s) && decide (s.n = bareN s))
def stmtB (nv nn : Nat) (es : List Xp) (s : Sm) : Bool :=
  plainB s && (if s.op = 1 then isEB es s.to 7 && isS s.kind && isEB es s.e s.kind else if s.op = 2 then isEB es s.to 7 && isK s.kind
    else if s.op = 3 then isEB es s.to 7 && decide ((nv : Int) < s.n) && decide (s.n ≤ nv + nn) else if s.op = 4 then isEB es s.e 7 else if s.op = 5 ∨ s.op = 6 then isEB es s.e 6 else decide (s.op = 7))
def ofEB (es : List Xp) (e kind : Int) : Bool := numB e ((es.length : Int) - 1) && decide (kindAt es e = kind)
def stmtR (nv nn : Nat) (es : List Xp) (s : Sm) : Bool :=
  if 1 ≤ s.op ∧ s.op ≤ 7 then
    (if s.op = 1 then ofEB es s.to 7 && isS s.kind && ofEB es s.e s.kind else if s.op = 2 then ofEB es s.to 7 && decide (0 < wK s.kind)
      else if s.op = 3 then ofEB es s.to 7 && (decide ((nv : Int) + 1 ≤ s.n) && decide (s.n ≤ nv + nn)) else if s.op = 4 then ofEB es s.e 7 else if s.op = 5 ∨ s.op = 6 then ofEB es s.e 6 else true) &&
    (decide (s.to = bareTo s) && decide (s.kind = bareKind s) && decide (s.e = bareE s) && decide (s.n = bareN s) &&
      decide (s.body = if s.op = 5 ∨ s.op = 6 then s.body else []) && decide (s.els = if s.op = 5 then s.els else []))
  else false
theorem ofE_eq (es : List Xp) (e kind : Int) : ofEB es e kind = isEB es e kind := by
  unfold ofEB isEB numB
  congr 2
  exact decide_eq_decide.2 (by omega)
theorem stmt_eq (nv nn : Nat) (es : List Xp) (s : Sm) : stmtR nv nn es s = stmtB nv nn es s := by
  obtain ⟨op, to, kind, e, n, ba, bc, body, ea, ec, els⟩ := s
  by_cases hop : 1 ≤ op ∧ op ≤ 7
  rotate_left
  · have h1 : ¬ op = 1 := by omega
    have h2 : ¬ op = 2 := by omega
    have h3 : ¬ op = 3 := by omega
    have h4 : ¬ op = 4 := by omega
    have h5 : ¬ op = 5 := by omega
    have h6 : ¬ op = 6 := by omega
    have h7 : ¬ op = 7 := by omega
    simp only [stmtR, hop, if_false, stmtB, h1, h2, h3, h4, h5, h6, h7]
    simp
  have hc : op = 1 ∨ op = 2 ∨ op = 3 ∨ op = 4 ∨ op = 5 ∨ op = 6 ∨ op = 7 := by omega
  have e3 : decide ((nv : Int) + 1 ≤ n) = decide ((nv : Int) < n) := decide_eq_decide.2 (by omega)
  cases els <;> cases body
  all_goals (rcases hc with rfl | rfl | rfl | rfl | rfl | rfl | rfl <;> simp [stmtR, stmtB, plainB, bareTo, bareKind, bareE, bareN, ofE_eq, wK_pos, e3])
  all_goals (simp only [Bool.and_comm, Bool.and_left_comm, Bool.and_assoc])
end Go.Ax
namespace Go.Ax
open Go
set_option linter.unusedVariables false
set_option linter.unusedSimpArgs false
def Xp.cs (s : Xp) : List Value := [.int .i64 s.op, .int .i64 s.kind, .int .i64 s.n, .int .i64 s.a, .int .i64 s.b]
def Xp.val (s : Xp) : Value := .agg s.cs.toArray
@[go_sem] theorem Xp.fold2 {s : Xp} : Value.agg s.cs.toArray = s.val := rfl
@[go_sem] theorem Xp.cells_m {s : Xp} : Value.cells.match_1 (fun _ => Array Value) s.val (fun cs => cs) (fun u => #[u]) = s.cs.toArray := rfl
@[go_sem] theorem Xp.cells_val {s : Xp} : s.val.cells = s.cs.toArray := rfl
@[go_sem] theorem Xp.cs_size {s : Xp} : s.cs.toArray.size = 5 := rfl
@[go_sem] theorem Xp.cs_len {s : Xp} : s.cs.length = 5 := rfl
@[go_sem] theorem Xp.cs_plain {s : Xp} : plainCells s.cs = True := by
  apply eq_true
  intro u hu
  simp only [Xp.cs, List.mem_cons, List.not_mem_nil, or_false] at hu
  rcases hu with rfl | rfl | rfl | rfl | rfl <;> rfl
@[go_sem] theorem Xp.take_all {s : Xp} : s.cs.take 5 = s.cs := rfl
@[go_sem] theorem Xp.take0 {s : Xp} : s.cs.take 0 = [] := rfl
@[go_sem] theorem Xp.drop_all {s : Xp} : s.cs.drop 5 = [] := rfl
@[go_sem] theorem Xp.ld {s : Xp} : rd true 5 s.cs 0 = some s.val := rfl
@[go_sem] theorem Xp.get0 {s : Xp} : s.cs[0]? = some (.int .i64 s.op) := rfl
@[go_sem] theorem Xp.ld0 {s : Xp} : rd false 1 s.cs 0 = some (.int .i64 s.op) := rfl
@[go_sem] theorem Xp.get1 {s : Xp} : s.cs[1]? = some (.int .i64 s.kind) := rfl
@[go_sem] theorem Xp.ld1 {s : Xp} : rd false 1 s.cs 1 = some (.int .i64 s.kind) := rfl
@[go_sem] theorem Xp.get2 {s : Xp} : s.cs[2]? = some (.int .i64 s.n) := rfl
@[go_sem] theorem Xp.ld2 {s : Xp} : rd false 1 s.cs 2 = some (.int .i64 s.n) := rfl
@[go_sem] theorem Xp.get3 {s : Xp} : s.cs[3]? = some (.int .i64 s.a) := rfl
@[go_sem] theorem Xp.ld3 {s : Xp} : rd false 1 s.cs 3 = some (.int .i64 s.a) := rfl
@[go_sem] theorem Xp.get4 {s : Xp} : s.cs[4]? = some (.int .i64 s.b) := rfl
@[go_sem] theorem Xp.ld4 {s : Xp} : rd false 1 s.cs 4 = some (.int .i64 s.b) := rfl
theorem Xp.row {cs : List Value} {p : Nat} {s : Xp} (h : (cs.drop p).take 5 = s.cs) : cs[p]? = some (.int .i64 s.op) ∧ cs[p + 1]? = some (.int .i64 s.kind) ∧ cs[p + 2]? = some (.int .i64 s.n) ∧ cs[p + 3]? = some (.int .i64 s.a) ∧ cs[p + 4]? = some (.int .i64 s.b) := by
  have key : ∀ j, j < 5 → cs[p + j]? = s.cs[j]? := fun j hj => by
    rw [← h, List.getElem?_take_of_lt hj, List.getElem?_drop]
  exact ⟨key 0 (by decide), key 1 (by decide), key 2 (by decide), key 3 (by decide), key 4 (by decide)⟩
@[go_sem] theorem drop_five {a b c d e : Value} : [a, b, c, d, e].drop 5 = [] := rfl
def Sm.cs (s : Sm) : List Value := [.int .i64 s.op, .int .i64 s.to, .int .i64 s.kind, .int .i64 s.e, .int .i64 s.n, .slice s.ba s.body.length s.bc, .slice s.ea s.els.length s.ec]
def Sm.val (s : Sm) : Value := .agg s.cs.toArray
@[go_sem] theorem Sm.fold2 {s : Sm} : Value.agg s.cs.toArray = s.val := rfl
@[go_sem] theorem Sm.cells_m {s : Sm} : Value.cells.match_1 (fun _ => Array Value) s.val (fun cs => cs) (fun u => #[u]) = s.cs.toArray := rfl
@[go_sem] theorem Sm.cells_val {s : Sm} : s.val.cells = s.cs.toArray := rfl
@[go_sem] theorem Sm.cs_size {s : Sm} : s.cs.toArray.size = 7 := rfl
@[go_sem] theorem Sm.cs_len {s : Sm} : s.cs.length = 7 := rfl
@[go_sem] theorem Sm.cs_plain {s : Sm} : plainCells s.cs = True := by
  apply eq_true
  intro u hu
  simp only [Sm.cs, List.mem_cons, List.not_mem_nil, or_false] at hu
  rcases hu with rfl | rfl | rfl | rfl | rfl | rfl | rfl <;> rfl
theorem Sm.len (s : Sm) : s.cs.length = 7 := rfl
@[go_sem] theorem Sm.take_all {s : Sm} : s.cs.take 7 = s.cs := rfl
@[go_sem] theorem Sm.take0 {s : Sm} : s.cs.take 0 = [] := rfl
@[go_sem] theorem Sm.drop_all {s : Sm} : s.cs.drop 7 = [] := rfl
@[go_sem] theorem Sm.ld {s : Sm} : rd true 7 s.cs 0 = some s.val := rfl
@[go_sem] theorem Sm.get0 {s : Sm} : s.cs[0]? = some (.int .i64 s.op) := rfl
@[go_sem] theorem Sm.ld0 {s : Sm} : rd false 1 s.cs 0 = some (.int .i64 s.op) := rfl
@[go_sem] theorem Sm.get1 {s : Sm} : s.cs[1]? = some (.int .i64 s.to) := rfl
@[go_sem] theorem Sm.ld1 {s : Sm} : rd false 1 s.cs 1 = some (.int .i64 s.to) := rfl
@[go_sem] theorem Sm.get2 {s : Sm} : s.cs[2]? = some (.int .i64 s.kind) := rfl
@[go_sem] theorem Sm.ld2 {s : Sm} : rd false 1 s.cs 2 = some (.int .i64 s.kind) := rfl
@[go_sem] theorem Sm.get3 {s : Sm} : s.cs[3]? = some (.int .i64 s.e) := rfl
@[go_sem] theorem Sm.ld3 {s : Sm} : rd false 1 s.cs 3 = some (.int .i64 s.e) := rfl
@[go_sem] theorem Sm.get4 {s : Sm} : s.cs[4]? = some (.int .i64 s.n) := rfl
@[go_sem] theorem Sm.ld4 {s : Sm} : rd false 1 s.cs 4 = some (.int .i64 s.n) := rfl
@[go_sem] theorem Sm.get5 {s : Sm} : s.cs[5]? = some (.slice s.ba s.body.length s.bc) := rfl
@[go_sem] theorem Sm.ld5 {s : Sm} : rd false 1 s.cs 5 = some (.slice s.ba s.body.length s.bc) := rfl
@[go_sem] theorem Sm.get6 {s : Sm} : s.cs[6]? = some (.slice s.ea s.els.length s.ec) := rfl
@[go_sem] theorem Sm.ld6 {s : Sm} : rd false 1 s.cs 6 = some (.slice s.ea s.els.length s.ec) := rfl
theorem Sm.row {cs : List Value} {p : Nat} {s : Sm} (h : (cs.drop p).take 7 = s.cs) : cs[p]? = some (.int .i64 s.op) ∧ cs[p + 1]? = some (.int .i64 s.to) ∧ cs[p + 2]? = some (.int .i64 s.kind) ∧ cs[p + 3]? = some (.int .i64 s.e) ∧ cs[p + 4]? = some (.int .i64 s.n) ∧ cs[p + 5]? = some (.slice s.ba s.body.length s.bc) ∧ cs[p + 6]? = some (.slice s.ea s.els.length s.ec) := by
  have key : ∀ j, j < 7 → cs[p + j]? = s.cs[j]? := fun j hj => by
    rw [← h, List.getElem?_take_of_lt hj, List.getElem?_drop]
  exact ⟨key 0 (by decide), key 1 (by decide), key 2 (by decide), key 3 (by decide), key 4 (by decide), key 5 (by decide), key 6 (by decide)⟩
structure Pg where
  big : Bool
  ptr : Int
  vA : Option Addr
  vC : Nat
  vars : List Int
  nA : Option Addr
  nC : Nat
  news : List Int
  eA : Option Addr
  eC : Nat
  exprs : List Xp
  sA : Option Addr
  sC : Nat
  stmts : List Sm
  mA : Option Addr
  mC : Nat
  main : List Int
def Pg.cs (s : Pg) : List Value := [.bool s.big, .int .i64 s.ptr, .slice s.vA s.vars.length s.vC, .slice s.nA s.news.length s.nC, .slice s.eA s.exprs.length s.eC, .slice s.sA s.stmts.length s.sC, .slice s.mA s.main.length s.mC]
def Pg.val (s : Pg) : Value := .agg s.cs.toArray
@[go_sem] theorem Pg.fold2 {s : Pg} : Value.agg s.cs.toArray = s.val := rfl
@[go_sem] theorem Pg.cells_m {s : Pg} : Value.cells.match_1 (fun _ => Array Value) s.val (fun cs => cs) (fun u => #[u]) = s.cs.toArray := rfl
@[go_sem] theorem Pg.cells_val {s : Pg} : s.val.cells = s.cs.toArray := rfl
@[go_sem] theorem Pg.cs_size {s : Pg} : s.cs.toArray.size = 7 := rfl
@[go_sem] theorem Pg.cs_len {s : Pg} : s.cs.length = 7 := rfl
@[go_sem] theorem Pg.cs_plain {s : Pg} : plainCells s.cs = True := by
  apply eq_true
  intro u hu
  simp only [Pg.cs, List.mem_cons, List.not_mem_nil, or_false] at hu
  rcases hu with rfl | rfl | rfl | rfl | rfl | rfl | rfl <;> rfl
@[go_sem] theorem Pg.take_all {s : Pg} : s.cs.take 7 = s.cs := rfl
@[go_sem] theorem Pg.take0 {s : Pg} : s.cs.take 0 = [] := rfl
@[go_sem] theorem Pg.drop_all {s : Pg} : s.cs.drop 7 = [] := rfl
@[go_sem] theorem Pg.ld {s : Pg} : rd true 7 s.cs 0 = some s.val := rfl
@[go_sem] theorem Pg.get0 {s : Pg} : s.cs[0]? = some (.bool s.big) := rfl
@[go_sem] theorem Pg.ld0 {s : Pg} : rd false 1 s.cs 0 = some (.bool s.big) := rfl
@[go_sem] theorem Pg.get1 {s : Pg} : s.cs[1]? = some (.int .i64 s.ptr) := rfl
@[go_sem] theorem Pg.ld1 {s : Pg} : rd false 1 s.cs 1 = some (.int .i64 s.ptr) := rfl
@[go_sem] theorem Pg.get2 {s : Pg} : s.cs[2]? = some (.slice s.vA s.vars.length s.vC) := rfl
@[go_sem] theorem Pg.ld2 {s : Pg} : rd false 1 s.cs 2 = some (.slice s.vA s.vars.length s.vC) := rfl
@[go_sem] theorem Pg.get3 {s : Pg} : s.cs[3]? = some (.slice s.nA s.news.length s.nC) := rfl
@[go_sem] theorem Pg.ld3 {s : Pg} : rd false 1 s.cs 3 = some (.slice s.nA s.news.length s.nC) := rfl
@[go_sem] theorem Pg.get4 {s : Pg} : s.cs[4]? = some (.slice s.eA s.exprs.length s.eC) := rfl
@[go_sem] theorem Pg.ld4 {s : Pg} : rd false 1 s.cs 4 = some (.slice s.eA s.exprs.length s.eC) := rfl
@[go_sem] theorem Pg.get5 {s : Pg} : s.cs[5]? = some (.slice s.sA s.stmts.length s.sC) := rfl
@[go_sem] theorem Pg.ld5 {s : Pg} : rd false 1 s.cs 5 = some (.slice s.sA s.stmts.length s.sC) := rfl
@[go_sem] theorem Pg.get6 {s : Pg} : s.cs[6]? = some (.slice s.mA s.main.length s.mC) := rfl
@[go_sem] theorem Pg.ld6 {s : Pg} : rd false 1 s.cs 6 = some (.slice s.mA s.main.length s.mC) := rfl
@[go_sem] theorem Pg.ldabi {s : Pg} : rd true 2 s.cs 0 = some (.agg #[.bool s.big, .int .i64 s.ptr]) := rfl
abbrev intR (F : Fz) (M : Hp) (a : Option Addr) (c : Nat) (l : List Int) : Prop := RdG 1 intC F M (.slice a l.length c) l
def Sm.rd (F : Fz) (s : Sm) : Prop := ∀ M, Old F M → intR F M s.ba s.bc s.body ∧ intR F M s.ea s.ec s.els
structure Pg.rd (F : Fz) (p : Pg) : Prop where
  vars : ∀ M, Old F M → intR F M p.vA p.vC p.vars
  news : ∀ M, Old F M → intR F M p.nA p.nC p.news
  exprs : ∀ M, Old F M → RdG 5 Xp.cs F M (.slice p.eA p.exprs.length p.eC) p.exprs
  stmts : ∀ M, Old F M → RdG 7 Sm.cs F M (.slice p.sA p.stmts.length p.sC) p.stmts
  main : ∀ M, Old F M → intR F M p.mA p.mC p.main
  bodies : ∀ s ∈ p.stmts, s.rd F
  zero : (p.vA = none → p.vC = 0) ∧ (p.nA = none → p.nC = 0) ∧ ∀ s ∈ p.stmts, (s.ba = none → s.bc = 0) ∧ (s.ea = none → s.ec = 0)
  few : p.vars.length ≤ 2500 ∧ p.news.length ≤ 2500 ∧ p.exprs.length ≤ 2500 ∧ p.stmts.length ≤ 2500 ∧ p.main.length ≤ 2500 ∧ ∀ s ∈ p.stmts, s.body.length ≤ 2500 ∧ s.els.length ≤ 2500
theorem RdG.at {α : Type} {sz : Nat} {f : α → List Value} {F : Fz} {M : Hp} {a : Option Addr} {c : Nat} {l : List α} (h : RdG sz f F M (.slice a l.length c) l) {i : Nat} (hi : i < l.length) :
    ∃ b o cs, a = some ⟨b, o, none⟩ ∧ blk F M b = some cs ∧ o + i * sz + sz ≤ cs.length ∧ (cs.drop (o + i * sz)).take sz = f l[i] := by
  obtain ⟨_, ad, cap, _, e, h⟩ := h
  cases e
  rcases h with h | ⟨b, o, cs, rfl, hb, hc⟩
  · rw [h] at hi; simp at hi
  · exact ⟨b, o, cs, rfl, hb, (hc i hi).1, (hc i hi).2⟩
abbrev Lz := Option Addr × Nat × List Int
abbrev slC (x : Lz) : List Value := [.slice x.1 x.2.2.length x.2.1]
theorem slC_len (x : Lz) : (slC x).length = 1 := rfl
theorem int_at {F : Fz} {M : Hp} {a : Option Addr} {c : Nat} {l : List Int} (h : intR F M a c l) {i : Nat} (hi : i < l.length) :
    ∃ b o cs, a = some ⟨b, o, none⟩ ∧ blk F M b = some cs ∧ cs[o + i * 1]? = some (.int .i64 l[i]) := by
  obtain ⟨b, o, cs, h1, h2, _, h4⟩ := RdG.at h hi
  exact ⟨b, o, cs, h1, h2, one_row h4⟩
end Go.Ax
namespace Go.Proofs.Tryz.K
open Go Go.Ax Go.Proofs.Tryz.S
set_option maxRecDepth 100000
set_option linter.unusedSimpArgs false
set_option linter.unusedVariables false
set_option maxHeartbeats 1000000
variable (F : Fz) (M : Hp)
theorem k94 (op : Int) : CallsA Tryz.prog 94 [.int .i64 op] F M (Same F M (.int .i64 (arityV op))) := by
  refine callsA_of hm Tryz.func94 e94 (Nat.le_of_ble_eq_true rfl) ?_
  unfold arityV
  by_cases h1 : op = 1
  · subst h1
    simp only [c94, go_sem, reduceCtorEq, reduceIte, Nat.reduceEqDiff, Int.reduceLE, Int.reduceNeg, Int.reduceEq]
    exact endK_same ⟨by simp, rfl, rfl⟩
  by_cases h2 : op = 2
  · subst h2
    simp only [c94, go_sem, reduceCtorEq, reduceIte, Nat.reduceEqDiff, Int.reduceLE, Int.reduceNeg, Int.reduceEq]
    exact endK_same ⟨by simp, rfl, rfl⟩
  by_cases h3 : 3 ≤ op
  · by_cases h7 : op ≤ 7
    · simp only [c94, go_sem, reduceCtorEq, reduceIte, Nat.reduceEqDiff, Int.reduceNeg, h1, h2, h3, h7]
      exact endK_same ⟨by simp, rfl, rfl⟩
    · by_cases h22 : op ≤ 22
      · have h8 : 8 ≤ op := by omega
        simp only [c94, go_sem, reduceCtorEq, reduceIte, Nat.reduceEqDiff, Int.reduceNeg, h1, h2, h3, h7, h8, h22]
        exact endK_same ⟨by simp, rfl, rfl⟩
      · have h8 : 8 ≤ op := by omega
        simp only [c94, go_sem, reduceCtorEq, reduceIte, Nat.reduceEqDiff, Int.reduceNeg, h1, h2, h3, h7, h8, h22]
        exact endK_same ⟨by simp, rfl, rfl⟩
  · have h8 : ¬ 8 ≤ op := by omega
    simp only [c94, go_sem, reduceCtorEq, reduceIte, Nat.reduceEqDiff, Int.reduceNeg, h1, h2, h3, h8]
    exact endK_same ⟨by simp, rfl, rfl⟩
theorem xp_at {p : Pg} (hp : p.rd F) (hold : Old F M) {i : Nat} (hi : i < p.exprs.length) :
    ∃ b o cs, p.eA = some ⟨b, o, none⟩ ∧ blk F M b = some cs ∧ o + i * 5 + 5 ≤ cs.length ∧ (cs.drop (o + i * 5)).take 5 = p.exprs[i].cs ∧ cs[o + i * 5 + 1]? = some (.int .i64 p.exprs[i].kind) := by
  obtain ⟨b, o, cs, ea, hb, d1, d2⟩ := RdG.at (hp.exprs M hold) hi
  exact ⟨b, o, cs, ea, hb, d1, d2, (Xp.row d2).2.1⟩
theorem k130 (p : Pg) (e : Int) (hp : p.rd F) (hold : Old F M) (h0 : 0 ≤ e) (h1 : e < p.exprs.length) : CallsA Tryz.prog 130 [p.val, .int .i64 e] F M (Same F M (.int .i64 (kindAt p.exprs e))) := by
  refine callsA_of hm Tryz.func130 e130 (Nat.le_of_ble_eq_true rfl) ?_
  obtain ⟨i, rfl⟩ := Int.eq_ofNat_of_zero_le h0
  have hi : i < p.exprs.length := by omega
  simp only [c130, go_sem]
  intro r hF hM
  obtain ⟨b, o, cs, ea, hb, d1, d2, d3⟩ := xp_at F (M.upd r ⟨p.cs, 111, 7⟩) hp (hold.upd hF) hi
  have hk : kindAt p.exprs i = p.exprs[i].kind := by
    unfold kindAt
    rw [Int.toNat_natCast, List.getElem?_eq_getElem hi]; rfl
  simp only [go_sem, reduceCtorEq, reduceIte, Nat.reduceEqDiff, ea, h0, h1, Int.toNat_natCast, hb, d3]
  exact endK_drop hM (endK_same ⟨by rw [hk], rfl, rfl⟩)
theorem k128 (k : Int) (p3 : Nat) (e3 : Ent) (i : Int) (h3 : M p3 = some e3) (c3 : e3.cells = [.int .i64 i]) : CallsA Tryz.prog 128 [.int .i64 k, .pointer (some ⟨p3, 0, none⟩)] F M (Same F M (.bool (aheadB k i))) := by
  refine callsA_of hm Tryz.func128 e128 (Nat.le_of_ble_eq_true rfl) ?_
  have b3 := blk_M (F := F) h3
  rw [c3] at b3
  by_cases h : 0 ≤ k
  · simp only [c128, go_sem, reduceCtorEq, reduceIte, Nat.reduceEqDiff, h, b3]
    exact endK_same ⟨by simp [aheadB, h], rfl, rfl⟩
  · simp only [c128, go_sem, reduceCtorEq, reduceIte, Nat.reduceEqDiff, h]
    exact endK_same ⟨by simp [aheadB, h], rfl, rfl⟩
theorem k93 (p : Pg) (i : Nat) (hp : p.rd F) (hold : Old F M) (hi : i < p.exprs.length) : CallsA Tryz.prog 93 [p.val, .int .i64 i] F M (Same F M (.bool (placesB p.exprs[i] i))) := by
  refine callsA_of hm Tryz.func93 e93 (Nat.le_of_ble_eq_true rfl) ?_
  have hi0 : (0 : Int) ≤ i := by omega
  have hil : (i : Int) < p.exprs.length := by omega
  simp only [c93, go_sem]
  intro r hF hM
  simp only [go_sem, reduceCtorEq, Nat.reduceEqDiff]
  intro r3 hF3 hM3
  have g3 := fresh_of hM3
  obtain ⟨b, o, cs, ea, hb, d1, d2, d3⟩ := xp_at F ((M.upd r ⟨p.cs, 111, 7⟩).upd r3 ⟨[.int .i64 i], 3, 1⟩) hp ((hold.upd hF).upd hF3) hi
  generalize p.exprs[i] = x at *
  simp only [go_sem, reduceIte, Nat.reduceEqDiff, Nat.reduceAdd, g3, ea, hi0, hil, Int.toNat_natCast, hb, d1, d2]
  intro r5 hF5 hM5
  have g5 := fresh_of hM5
  have g52 := fresh_of g5.2.2
  have kp : ∀ e, Keep M (((M.upd r ⟨p.cs, 111, 7⟩).upd r3 ⟨[.int .i64 i], 3, 1⟩).upd r5 e) := fun e => (((Keep.refl M).new hM).new g3.2.2).new g52.2.2
  have f3 : ∀ e, (((M.upd r ⟨p.cs, 111, 7⟩).upd r3 ⟨[.int .i64 i], 3, 1⟩).upd r5 e) r3 = some ⟨[.int .i64 i], 3, 1⟩ := fun e => by
    rw [Hp.upd_ne' g5.2.1]; exact Hp.upd_same _ _ _
  simp only [go_sem, Nat.reduceEqDiff, Nat.reduceAdd]
  refine callK_same (k94 _ _ x.op) ?_
  unfold placesB
  by_cases a0 : arityV x.op = 0
  · by_cases ha : x.a = 0
    · simp only [go_sem, reduceIte, Nat.reduceEqDiff, Int.reduceEq, a0, ha]
      exact endK_keep (kp _) ⟨by simp [], rfl, rfl⟩
    · simp only [go_sem, reduceCtorEq, reduceIte, Nat.reduceEqDiff, Int.reduceEq, a0, ha]
      exact endK_keep (kp _) ⟨by simp [], rfl, rfl⟩
  by_cases a1 : arityV x.op = 1
  · simp only [go_sem, reduceIte, Nat.reduceEqDiff, Int.reduceEq, a1]
    refine callK_same (k128 _ _ x.a r3 _ i (f3 _) rfl) ?_
    cases hq : aheadB x.a i
    · simp only [go_sem, reduceCtorEq, reduceIte, Nat.reduceEqDiff]
      exact endK_keep (kp _) ⟨by simp [], rfl, rfl⟩
    · simp only [go_sem, reduceIte, Nat.reduceEqDiff]
      exact endK_keep (kp _) ⟨by simp [], rfl, rfl⟩
  by_cases a2 : arityV x.op = 2
  · simp only [go_sem, reduceIte, Nat.reduceEqDiff, Int.reduceEq, a2]
    refine callK_same (k128 _ _ x.a r3 _ i (f3 _) rfl) ?_
    cases hq : aheadB x.a i
    · simp only [go_sem, reduceCtorEq, reduceIte, Nat.reduceEqDiff]
      exact endK_keep (kp _) ⟨by simp [], rfl, rfl⟩
    · simp only [go_sem, Nat.reduceEqDiff]
      refine callK_same (k128 _ _ x.b r3 _ i (f3 _) rfl) ?_
      simp only [go_sem, reduceIte, Nat.reduceEqDiff]
      exact endK_keep (kp _) ⟨by simp [], rfl, rfl⟩
  · simp only [go_sem, reduceIte, Nat.reduceEqDiff, a0, a1, a2]
    exact endK_keep (kp _) ⟨by simp [], rfl, rfl⟩
theorem k95 (p : Pg) (x : Xp) : CallsA Tryz.prog 95 [p.val, x.val] F M (Same F M (.bool (leafB p.vars.length x))) := by
  refine callsA_of hm Tryz.func95 e95 (Nat.le_of_ble_eq_true rfl) ?_
  simp only [c95, go_sem]
  intro r hF hM
  simp only [go_sem, reduceCtorEq, Nat.reduceEqDiff]
  intro r3 hF3 hM3
  have g3 := fresh_of hM3
  have kp : ∀ e e', Keep M ((M.upd r e).upd r3 e') := fun e e' => ((Keep.refl M).new hM).new g3.2.2
  unfold leafB
  by_cases h2 : x.op = 2
  · by_cases h7 : x.kind = 7
    · by_cases h1 : 1 ≤ x.n
      · simp only [go_sem, reduceIte, Nat.reduceEqDiff, g3, h2, h7, h1]
        exact endK_keep (kp _ _) ⟨by simp [], rfl, rfl⟩
      · simp only [go_sem, reduceCtorEq, reduceIte, Nat.reduceEqDiff, h2, h7, h1]
        exact endK_keep (kp _ _) ⟨by simp [], rfl, rfl⟩
    · simp only [go_sem, reduceCtorEq, reduceIte, Nat.reduceEqDiff, h2, h7]
      exact endK_keep (kp _ _) ⟨by simp [], rfl, rfl⟩
  · have tail : ∀ (q : Bool), q = (decide (x.kind = 7) && decide (x.n = 0)) → True := fun _ _ => trivial
    by_cases h7 : x.kind = 7
    · by_cases hn : x.n = 0
      · simp only [go_sem, reduceIte, Nat.reduceEqDiff, Int.reduceLE, h2, h7, hn]
        exact endK_keep (kp _ _) ⟨by simp, rfl, rfl⟩
      · simp only [go_sem, reduceIte, Nat.reduceEqDiff, h2, h7, hn]
        refine callK_same (k102 _ _ 7) ?_
        have e7 : isK 7 = false := rfl
        rw [e7]
        simp only [go_sem, reduceCtorEq, reduceIte, Nat.reduceEqDiff]
        exact endK_keep (kp _ _) ⟨by simp [], rfl, rfl⟩
    · simp only [go_sem, reduceCtorEq, reduceIte, Nat.reduceEqDiff, h2, h7]
      refine callK_same (k102 _ _ x.kind) ?_
      cases hk : isK x.kind
      · simp only [go_sem, reduceCtorEq, reduceIte, Nat.reduceEqDiff]
        exact endK_keep (kp _ _) ⟨by simp, rfl, rfl⟩
      · have hw := isW_le (ofW_isW x.kind)
        simp only [go_sem, Nat.reduceEqDiff]
        refine callK_same (k112 _ _ x.kind hk) ?_
        simp only [go_sem, Nat.reduceEqDiff]
        refine callK_same (k129 _ _ x.n (ofW x.kind) hw.1 hw.2) ?_
        simp only [go_sem, reduceCtorEq, reduceIte, Nat.reduceEqDiff]
        exact endK_keep (kp _ _) ⟨by simp, rfl, rfl⟩
theorem k96 (p : Pg) (x : Xp) (hp : p.rd F) (hold : Old F M) (h0 : 0 ≤ x.a) (h1 : x.a < p.exprs.length) : CallsA Tryz.prog 96 [p.val, x.val] F M (Same F M (.bool (oneB p.exprs x))) := by
  refine callsA_of hm Tryz.func96 e96 (Nat.le_of_ble_eq_true rfl) ?_
  simp only [c96, go_sem]
  intro r hF hM
  simp only [go_sem, reduceCtorEq, Nat.reduceEqDiff]
  intro r3 hF3 hM3
  have g3 := fresh_of hM3
  have kp : ∀ e e', Keep M ((M.upd r e).upd r3 e') := fun e e' => ((Keep.refl M).new hM).new g3.2.2
  have oo : ∀ e e', Old F ((M.upd r e).upd r3 e') := fun e e' => (hold.upd hF).upd hF3
  simp only [go_sem, reduceIte, Nat.reduceEqDiff, g3]
  refine callK_same (k130 _ _ p x.a hp (oo _ _) h0 h1) ?_
  unfold oneB
  by_cases q3 : x.op = 3
  · simp only [go_sem, reduceIte, Nat.reduceEqDiff, Int.reduceEq, q3]
    refine callK_same (k101 _ _ x.kind) ?_
    cases hk : isS x.kind
    · simp only [go_sem, reduceCtorEq, reduceIte, Nat.reduceEqDiff]
      exact endK_keep (kp _ _) ⟨by simp, rfl, rfl⟩
    · simp only [go_sem, reduceIte, Nat.reduceEqDiff]
      exact endK_keep (kp _ _) ⟨by simp, rfl, rfl⟩
  by_cases q4 : x.op = 4
  · simp only [go_sem, reduceIte, Nat.reduceEqDiff, Int.reduceEq, q4]
    refine callK_same (k102 _ _ x.kind) ?_
    cases hk : isK x.kind
    · simp only [go_sem, reduceCtorEq, reduceIte, Nat.reduceEqDiff]
      exact endK_keep (kp _ _) ⟨by simp, rfl, rfl⟩
    · simp only [go_sem, Nat.reduceEqDiff]
      refine callK_same (k102 _ _ (kindAt p.exprs x.a)) ?_
      simp only [go_sem, reduceIte, Nat.reduceEqDiff]
      exact endK_keep (kp _ _) ⟨by simp, rfl, rfl⟩
  by_cases q7 : x.op = 7
  · simp only [go_sem, reduceIte, Nat.reduceEqDiff, Int.reduceEq, q7]
    exact endK_keep (kp _ _) ⟨by simp, rfl, rfl⟩
  · simp only [go_sem, reduceIte, Nat.reduceEqDiff, q3, q4, q7]
    refine callK_same (k102 _ _ x.kind) ?_
    cases hk : isK x.kind
    · simp only [go_sem, reduceCtorEq, reduceIte, Nat.reduceEqDiff]
      exact endK_keep (kp _ _) ⟨by simp [], rfl, rfl⟩
    · simp only [go_sem, reduceIte, Nat.reduceEqDiff]
      exact endK_keep (kp _ _) ⟨by simp [], rfl, rfl⟩
theorem k97 (p : Pg) (x : Xp) (hp : p.rd F) (hold : Old F M) (h0 : 0 ≤ x.a) (h1 : x.a < p.exprs.length) (h2 : 0 ≤ x.b) (h3 : x.b < p.exprs.length) : CallsA Tryz.prog 97 [p.val, x.val] F M (Same F M (.bool (twoB p.exprs x))) := by
  refine callsA_of hm Tryz.func97 e97 (Nat.le_of_ble_eq_true rfl) ?_
  simp only [c97, go_sem]
  intro r hF hM
  simp only [go_sem, reduceCtorEq, Nat.reduceEqDiff]
  intro r3 hF3 hM3
  have g3 := fresh_of hM3
  have kp : ∀ e e', Keep M ((M.upd r e).upd r3 e') := fun e e' => ((Keep.refl M).new hM).new g3.2.2
  have oo : ∀ e e', Old F ((M.upd r e).upd r3 e') := fun e e' => (hold.upd hF).upd hF3
  simp only [go_sem, reduceIte, Nat.reduceEqDiff, g3]
  refine callK_same (k130 _ _ p x.a hp (oo _ _) h0 h1) ?_
  simp only [go_sem, Nat.reduceEqDiff]
  refine callK_same (k130 _ _ p x.b hp (oo _ _) h2 h3) ?_
  unfold twoB
  generalize kindAt p.exprs x.a = ka
  generalize kindAt p.exprs x.b = kb
  by_cases q18 : x.op = 18 ∨ x.op = 19
  · have go : ∀ (fin : x.kind = 6 ∨ ¬ x.kind = 6), True := fun _ => trivial
    by_cases q6 : x.kind = 6
    · rcases q18 with q | q
      · simp only [go_sem, reduceIte, Nat.reduceEqDiff, Int.reduceEq, q, q6]
        refine callK_same (k102 _ _ ka) ?_
        cases hk : isK ka
        · simp only [go_sem, reduceCtorEq, reduceIte, Nat.reduceEqDiff]
          exact endK_keep (kp _ _) ⟨by simp [], rfl, rfl⟩
        · simp only [go_sem, reduceIte, Nat.reduceEqDiff]
          exact endK_keep (kp _ _) ⟨by simp [], rfl, rfl⟩
      · simp only [go_sem, reduceIte, Nat.reduceEqDiff, Int.reduceEq, q, q6]
        refine callK_same (k102 _ _ ka) ?_
        cases hk : isK ka
        · simp only [go_sem, reduceCtorEq, reduceIte, Nat.reduceEqDiff]
          exact endK_keep (kp _ _) ⟨by simp [], rfl, rfl⟩
        · simp only [go_sem, reduceIte, Nat.reduceEqDiff]
          exact endK_keep (kp _ _) ⟨by simp [], rfl, rfl⟩
    · rcases q18 with q | q
      · simp only [go_sem, reduceCtorEq, reduceIte, Nat.reduceEqDiff, Int.reduceEq, q, q6]
        exact endK_keep (kp _ _) ⟨by simp [], rfl, rfl⟩
      · simp only [go_sem, reduceCtorEq, reduceIte, Nat.reduceEqDiff, Int.reduceEq, q, q6]
        exact endK_keep (kp _ _) ⟨by simp [], rfl, rfl⟩
  have n18 : ¬ x.op = 18 := fun h => q18 (.inl h)
  have n19 : ¬ x.op = 19 := fun h => q18 (.inr h)
  by_cases q20 : x.op = 20
  · by_cases q7 : x.kind = 7
    · by_cases qa : ka = 7
      · simp only [go_sem, reduceIte, Nat.reduceEqDiff, Int.reduceEq, q20, q7, qa]
        exact endK_keep (kp _ _) ⟨by simp [], rfl, rfl⟩
      · simp only [go_sem, reduceCtorEq, reduceIte, Nat.reduceEqDiff, Int.reduceEq, q20, q7, qa]
        exact endK_keep (kp _ _) ⟨by simp [], rfl, rfl⟩
    · simp only [go_sem, reduceCtorEq, reduceIte, Nat.reduceEqDiff, Int.reduceEq, q20, q7]
      exact endK_keep (kp _ _) ⟨by simp [], rfl, rfl⟩
  by_cases q21 : x.op = 21 ∨ x.op = 22
  · by_cases q6 : x.kind = 6
    · by_cases qa : ka = 7
      · rcases q21 with q | q
        · simp only [go_sem, reduceIte, Nat.reduceEqDiff, Int.reduceEq, q, q6, qa]
          exact endK_keep (kp _ _) ⟨by simp [], rfl, rfl⟩
        · simp only [go_sem, reduceIte, Nat.reduceEqDiff, Int.reduceEq, q, q6, qa]
          exact endK_keep (kp _ _) ⟨by simp [], rfl, rfl⟩
      · rcases q21 with q | q
        · simp only [go_sem, reduceCtorEq, reduceIte, Nat.reduceEqDiff, Int.reduceEq, q, q6, qa]
          exact endK_keep (kp _ _) ⟨by simp [], rfl, rfl⟩
        · simp only [go_sem, reduceCtorEq, reduceIte, Nat.reduceEqDiff, Int.reduceEq, q, q6, qa]
          exact endK_keep (kp _ _) ⟨by simp [], rfl, rfl⟩
    · rcases q21 with q | q
      · simp only [go_sem, reduceCtorEq, reduceIte, Nat.reduceEqDiff, Int.reduceEq, q, q6]
        exact endK_keep (kp _ _) ⟨by simp [], rfl, rfl⟩
      · simp only [go_sem, reduceCtorEq, reduceIte, Nat.reduceEqDiff, Int.reduceEq, q, q6]
        exact endK_keep (kp _ _) ⟨by simp [], rfl, rfl⟩
  have n21 : ¬ x.op = 21 := fun h => q21 (.inl h)
  have n22 : ¬ x.op = 22 := fun h => q21 (.inr h)
  simp only [go_sem, reduceIte, Nat.reduceEqDiff, n18, n19, q20, n21, n22]
  refine callK_same (k102 _ _ x.kind) ?_
  cases hk : isK x.kind
  · simp only [go_sem, reduceCtorEq, reduceIte, Nat.reduceEqDiff]
    exact endK_keep (kp _ _) ⟨by simp [], rfl, rfl⟩
  · by_cases qa : ka = x.kind
    · simp only [go_sem, reduceIte, Nat.reduceEqDiff, qa]
      exact endK_keep (kp _ _) ⟨by simp [], rfl, rfl⟩
    · simp only [go_sem, reduceCtorEq, reduceIte, Nat.reduceEqDiff, qa]
      exact endK_keep (kp _ _) ⟨by simp [], rfl, rfl⟩
theorem places_a {x : Xp} {i : Int} (h : placesB x i = true) (h1 : arityV x.op = 1 ∨ arityV x.op = 2) : 0 ≤ x.a ∧ x.a < i := by
  unfold placesB at h
  rcases h1 with e | e
  · rw [e] at h
    simp [aheadB] at h
    exact h.1
  · rw [e] at h
    simp [aheadB] at h
    exact h.1
theorem places_b {x : Xp} {i : Int} (h : placesB x i = true) (h1 : arityV x.op = 2) : 0 ≤ x.b ∧ x.b < i := by
  unfold placesB at h
  rw [h1] at h
  simp [aheadB] at h
  exact h.2
theorem arity_cases (op : Int) : arityV op = 0 ∨ arityV op = 1 ∨ arityV op = 2 ∨ arityV op = -1 := by
  unfold arityV
  split
  · exact .inl rfl
  split
  · exact .inr (.inl rfl)
  split
  · exact .inr (.inr (.inl rfl))
  · exact .inr (.inr (.inr rfl))
theorem k59 (p : Pg) (i : Nat) (hp : p.rd F) (hold : Old F M) (hi : i < p.exprs.length) : CallsA Tryz.prog 59 [p.val, .int .i64 i] F M (Same F M (.bool (exprB p.vars.length p.exprs i p.exprs[i]))) := by
  refine callsA_of hm Tryz.func59 e59 (Nat.le_of_ble_eq_true rfl) ?_
  have hi0 : (0 : Int) ≤ i := by omega
  have hil : (i : Int) < p.exprs.length := by omega
  simp only [c59, go_sem]
  intro r hF hM
  obtain ⟨b, o, cs, ea, hb, d1, d2, d3⟩ := xp_at F (M.upd r ⟨p.cs, 111, 7⟩) hp (hold.upd hF) hi
  have hpl := fun M hold => k93 F M p i hp hold hi
  generalize p.exprs[i] = x at *
  simp only [go_sem, reduceCtorEq, reduceIte, Nat.reduceEqDiff, Nat.reduceAdd, ea, hi0, hil, Int.toNat_natCast, hb, d1, d2]
  intro r5 hF5 hM5
  have g5 := fresh_of hM5
  have kp : ∀ e e', Keep M ((M.upd r e).upd r5 e') := fun e e' => ((Keep.refl M).new hM).new g5.2.2
  have oo : ∀ e e', Old F ((M.upd r e).upd r5 e') := fun e e' => (hold.upd hF).upd hF5
  simp only [go_sem, reduceCtorEq, reduceIte, Nat.reduceEqDiff, Nat.reduceAdd, g5]
  refine callK_same (hpl _ (oo _ _)) ?_
  unfold exprB
  cases hq : placesB x i
  · simp only [go_sem]
    exact endK_keep (kp _ _) ⟨by simp, rfl, rfl⟩
  simp only [go_sem, Nat.reduceEqDiff]
  refine callK_same (k94 _ _ x.op) ?_
  rcases arity_cases x.op with a | a | a | a
  · simp only [go_sem, reduceIte, Nat.reduceEqDiff, Int.reduceEq, g5, a]
    refine callK_same (k95 _ _ p x) ?_
    simp only [go_sem]
    exact endK_keep (kp _ _) ⟨by simp, rfl, rfl⟩
  · have ha := places_a hq (.inl a)
    by_cases hn : x.n = 0
    · simp only [go_sem, reduceIte, Nat.reduceEqDiff, Int.reduceEq, g5, a, hn]
      refine callK_same (k96 _ _ p x hp (oo _ _) ha.1 (by omega)) ?_
      simp only [go_sem, reduceIte, Nat.reduceEqDiff]
      exact endK_keep (kp _ _) ⟨by simp [], rfl, rfl⟩
    · simp only [go_sem, reduceCtorEq, reduceIte, Nat.reduceEqDiff, Int.reduceEq, a, hn]
      exact endK_keep (kp _ _) ⟨by simp [], rfl, rfl⟩
  · have ha := places_a hq (.inr a)
    have hb := places_b hq a
    by_cases hn : x.n = 0
    · simp only [go_sem, reduceIte, Nat.reduceEqDiff, Int.reduceEq, g5, a, hn]
      refine callK_same (k97 _ _ p x hp (oo _ _) ha.1 (by omega) hb.1 (by omega)) ?_
      simp only [go_sem, reduceIte, Nat.reduceEqDiff]
      exact endK_keep (kp _ _) ⟨by simp [], rfl, rfl⟩
    · simp only [go_sem, reduceCtorEq, reduceIte, Nat.reduceEqDiff, Int.reduceEq, a, hn]
      exact endK_keep (kp _ _) ⟨by simp [], rfl, rfl⟩
  · unfold placesB at hq
    rw [a] at hq
    simp at hq
theorem k100 (p : Pg) (e k : Int) (hp : p.rd F) (hold : Old F M) : CallsA Tryz.prog 100 [p.val, .int .i64 e, .int .i64 k] F M (Same F M (.bool (isEB p.exprs e k))) := by
  refine callsA_of hm Tryz.func100 e100 (Nat.le_of_ble_eq_true rfl) ?_
  simp only [c100, go_sem, Nat.reduceAdd]
  intro r hF hM
  have oo : ∀ e, Old F (M.upd r e) := fun e => hold.upd hF
  unfold isEB
  by_cases h0 : 0 ≤ e
  · by_cases h1 : e < p.exprs.length
    · simp only [go_sem, reduceCtorEq, reduceIte, Nat.reduceEqDiff, h0, h1]
      refine callK_same (k130 _ _ p e hp (oo _) h0 h1) ?_
      simp only [go_sem, reduceCtorEq, reduceIte, Nat.reduceEqDiff]
      exact endK_drop hM (endK_same ⟨by simp [], rfl, rfl⟩)
    · simp only [go_sem, reduceCtorEq, reduceIte, Nat.reduceEqDiff, h0, h1]
      exact endK_drop hM (endK_same ⟨by simp [], rfl, rfl⟩)
  · simp only [go_sem, reduceCtorEq, reduceIte, Nat.reduceEqDiff, h0]
    exact endK_drop hM (endK_same ⟨by simp [], rfl, rfl⟩)
end Go.Proofs.Tryz.K
namespace Go.Proofs.Tryz.K
open Go Go.Ax Go.Proofs.Tryz.S
set_option maxRecDepth 100000
set_option linter.unusedSimpArgs false
set_option linter.unusedVariables false
set_option maxHeartbeats 4000000
variable (F : Fz) (M : Hp)
theorem k57 (big : Bool) (ptr : Int) : CallsA Tryz.prog 57 [.agg #[.bool big, .int .i64 ptr]] F M (Same F M (.bool (decide (ptr = 2) || decide (ptr = 4)))) := by
  refine callsA_of hm Tryz.func57 e57 (Nat.le_of_ble_eq_true rfl) ?_
  simp only [c57, go_sem, Nat.reduceAdd]
  intro r hF hM
  by_cases h2 : ptr = 2
  · simp only [go_sem, reduceIte, Nat.reduceEqDiff, Int.reduceEq, h2]
    exact endK_drop hM (endK_same ⟨by simp, rfl, rfl⟩)
  · simp only [go_sem, reduceCtorEq, reduceIte, Nat.reduceEqDiff, h2]
    exact endK_drop hM (endK_same ⟨by simp, rfl, rfl⟩)
def ixN (l : List Int) (p : Int → Bool) (u f : Value) (F0 : Fz) (M0 : Hp) (m : Nat) (σ : Env) (F : Fz) (M : Hp) : Prop :=
  F = F0 ∧ M = M0 ∧ Ax.look σ 0 = some u ∧ Ax.look σ 1 = some f ∧ Ax.look σ 7 = some (.int .i64 l.length) ∧ ∃ i : Nat, i + m = l.length ∧ Ax.look σ 8 = some (.int .i64 i) ∧ l.any p = (l.drop i).any p
theorem k92 (ad : Option Addr) (cap : Nat) (l : List Int) (g : Nat) (ca : List Value) (p : Int → Bool) (h : intR F M ad cap l)
    (hp : ∀ v ∈ l, CallsA Tryz.prog g ([.int .i64 v] ++ ca) F M (Same F M (.bool (p v)))) :
    CallsA Tryz.prog 92 [.slice ad l.length cap, .func (.func g) #[] ca.toArray] F M fun r F' M' => F' = F ∧ M' = M ∧ ∃ z : Int, r = .int .i64 z ∧ (0 ≤ z ↔ l.any p = true) := by
  refine callsA_of hm Tryz.func92 e92 (Nat.le_of_ble_eq_true rfl) ?_
  simp only [c92, go_sem, reduceCtorEq, Int.reduceNeg]
  refine loop_of (ixN l p (.slice ad l.length cap) (.func (.func g) #[] ca.toArray) F M) l.length ?_ ?_
  · exact ⟨rfl, rfl, by simp only [go_sem, reduceCtorEq], by simp only [go_sem, reduceCtorEq, Nat.reduceEqDiff], by simp only [go_sem, Nat.reduceEqDiff], 0, by omega, by simp only [go_sem] <;> rfl, rfl⟩
  rintro m σ F' M' ⟨rfl, rfl, h0, h1, h7, i, hi, h8, ha⟩
  by_cases hil : (i : Int) < l.length
  · have hi0 : (0 : Int) ≤ i := by omega
    have hil' : i < l.length := by omega
    have hle := h.1
    have ei : IntKind.i64.wrap ((i : Int) + 1) = i + 1 := w64 (by omega) (by omega)
    obtain ⟨b, o, cs, rfl, hb, d3⟩ := int_at h hil'
    rw [List.drop_eq_getElem_cons hil', List.any_cons] at ha
    have hq := hp l[i] (List.getElem_mem _)
    generalize l[i] = v at *
    simp only [go_sem, reduceCtorEq, reduceIte, Nat.reduceEqDiff, Int.reduceNeg, h0, h1, h7, h8, hil, hi0, Int.toNat_natCast, hb, d3]
    refine callK_same hq ?_
    cases hv : p v
    · rw [hv, Bool.false_or] at ha
      simp only [go_sem, reduceIte, Nat.reduceEqDiff, Int.reduceNeg, h8, ei]
      exact ⟨m - 1, by omega, rfl, rfl, by simp only [go_sem, reduceCtorEq, h0], by simp only [go_sem, Nat.reduceEqDiff, h1], by simp only [go_sem, Nat.reduceEqDiff, h7], i + 1, by omega, by simp only [go_sem]; rfl, ha⟩
    · rw [hv, Bool.true_or] at ha
      simp only [go_sem, Nat.reduceEqDiff, Int.reduceNeg]
      exact endK_same ⟨rfl, rfl, _, rfl, by simp [ha]⟩
  · have : l.drop i = [] := List.drop_eq_nil_of_le (by omega)
    rw [this] at ha
    simp only [go_sem, reduceIte, Int.reduceNeg, h7, h8, hil]
    exact endK_same ⟨rfl, rfl, _, rfl, by rw [ha]; simp⟩
theorem k58 (ad : Option Addr) (cap : Nat) (l : List Int) (g : Nat) (ca : List Value) (p : Int → Bool) (h : intR F M ad cap l)
    (hp : ∀ v ∈ l, CallsA Tryz.prog g ([.int .i64 v] ++ ca) F M (Same F M (.bool (p v)))) :
    CallsA Tryz.prog 58 [.slice ad l.length cap, .func (.func g) #[] ca.toArray] F M (Same F M (.bool (l.any p))) := by
  refine callsA_of hm Tryz.func58 e58 (Nat.le_of_ble_eq_true rfl) ?_
  simp only [c58, go_sem, reduceCtorEq, Nat.reduceEqDiff]
  refine callK_of (k92 F M ad cap l g ca p h hp) ?_
  rintro r G M' ⟨hG, rfl, z, rfl, hz⟩
  rw [hG]
  refine ⟨(fun h => by cases h), ?_⟩
  simp only [go_sem, reduceIte]
  have : decide (0 ≤ z) = l.any p := by
    cases hq : l.any p
    · rw [hq] at hz; simp at hz; simp; omega
    · simp [hz.2 hq]
  exact endK_same ⟨by rw [← this], rfl, rfl⟩
def ixM (l : List Sm) (p : Sm → Bool) (u f : Value) (F0 : Fz) (M0 : Hp) (m : Nat) (σ : Env) (F : Fz) (M : Hp) : Prop :=
  F = F0 ∧ M = M0 ∧ Ax.look σ 0 = some u ∧ Ax.look σ 1 = some f ∧ Ax.look σ 7 = some (.int .i64 l.length) ∧ ∃ i : Nat, i + m = l.length ∧ Ax.look σ 8 = some (.int .i64 i) ∧ l.any p = (l.drop i).any p
theorem k98 (ad : Option Addr) (cap : Nat) (l : List Sm) (g : Nat) (ca : List Value) (p : Sm → Bool) (h : RdG 7 Sm.cs F M (.slice ad l.length cap) l)
    (hp : ∀ v ∈ l, CallsA Tryz.prog g ([v.val] ++ ca) F M (Same F M (.bool (p v)))) :
    CallsA Tryz.prog 98 [.slice ad l.length cap, .func (.func g) #[] ca.toArray] F M fun r F' M' => F' = F ∧ M' = M ∧ ∃ z : Int, r = .int .i64 z ∧ (0 ≤ z ↔ l.any p = true) := by
  refine callsA_of hm Tryz.func98 e98 (Nat.le_of_ble_eq_true rfl) ?_
  simp only [c98, go_sem, reduceCtorEq, Int.reduceNeg]
  refine loop_of (ixM l p (.slice ad l.length cap) (.func (.func g) #[] ca.toArray) F M) l.length ?_ ?_
  · exact ⟨rfl, rfl, by simp only [go_sem, reduceCtorEq], by simp only [go_sem, reduceCtorEq, Nat.reduceEqDiff], by simp only [go_sem, Nat.reduceEqDiff], 0, by omega, by simp only [go_sem] <;> rfl, rfl⟩
  rintro m σ F' M' ⟨rfl, rfl, h0, h1, h7, i, hi, h8, ha⟩
  by_cases hil : (i : Int) < l.length
  · have hi0 : (0 : Int) ≤ i := by omega
    have hil' : i < l.length := by omega
    have hle := h.1
    have ei : IntKind.i64.wrap ((i : Int) + 1) = i + 1 := w64 (by omega) (by omega)
    obtain ⟨b, o, cs, rfl, hb, d1, d2⟩ := RdG.at h hil'
    rw [List.drop_eq_getElem_cons hil', List.any_cons] at ha
    have hq := hp l[i] (List.getElem_mem _)
    generalize l[i] = v at *
    simp only [go_sem, reduceCtorEq, reduceIte, Nat.reduceEqDiff, Int.reduceNeg, h0, h1, h7, h8, hil, hi0, Int.toNat_natCast, hb, d1, d2]
    refine callK_same hq ?_
    cases hv : p v
    · rw [hv, Bool.false_or] at ha
      simp only [go_sem, reduceIte, Nat.reduceEqDiff, Int.reduceNeg, h8, ei]
      exact ⟨m - 1, by omega, rfl, rfl, by simp only [go_sem, reduceCtorEq, h0], by simp only [go_sem, Nat.reduceEqDiff, h1], by simp only [go_sem, Nat.reduceEqDiff, h7], i + 1, by omega, by simp only [go_sem]; rfl, ha⟩
    · rw [hv, Bool.true_or] at ha
      simp only [go_sem, Nat.reduceEqDiff, Int.reduceNeg]
      exact endK_same ⟨rfl, rfl, _, rfl, by simp [ha]⟩
  · have : l.drop i = [] := List.drop_eq_nil_of_le (by omega)
    rw [this] at ha
    simp only [go_sem, reduceIte, Int.reduceNeg, h7, h8, hil]
    exact endK_same ⟨rfl, rfl, _, rfl, by rw [ha]; simp⟩
theorem k60 (ad : Option Addr) (cap : Nat) (l : List Sm) (g : Nat) (ca : List Value) (p : Sm → Bool) (h : RdG 7 Sm.cs F M (.slice ad l.length cap) l)
    (hp : ∀ v ∈ l, CallsA Tryz.prog g ([v.val] ++ ca) F M (Same F M (.bool (p v)))) :
    CallsA Tryz.prog 60 [.slice ad l.length cap, .func (.func g) #[] ca.toArray] F M (Same F M (.bool (l.any p))) := by
  refine callsA_of hm Tryz.func60 e60 (Nat.le_of_ble_eq_true rfl) ?_
  simp only [c60, go_sem, reduceCtorEq, Nat.reduceEqDiff]
  refine callK_of (k98 F M ad cap l g ca p h hp) ?_
  rintro r G M' ⟨hG, rfl, z, rfl, hz⟩
  rw [hG]
  refine ⟨(fun h => by cases h), ?_⟩
  simp only [go_sem, reduceIte]
  have : decide (0 ≤ z) = l.any p := by
    cases hq : l.any p
    · rw [hq] at hz; simp at hz; simp; omega
    · simp [hz.2 hq]
  exact endK_same ⟨by rw [← this], rfl, rfl⟩
theorem k56 (n : Int) : CallsA Tryz.prog 56 [.int .i64 n] F M (Same F M (.bool (decide (n < 1) || decide (32 < n)))) := by
  refine callsA_of hm Tryz.func56 e56 (Nat.le_of_ble_eq_true rfl) ?_
  by_cases h : n < 1
  · simp only [c56, go_sem, reduceCtorEq, reduceIte, Nat.reduceEqDiff, h]
    exact endK_same ⟨by simp, rfl, rfl⟩
  · simp only [c56, go_sem, reduceCtorEq, reduceIte, Nat.reduceEqDiff, h]
    exact endK_same ⟨by simp, rfl, rfl⟩
theorem posN {α : Type} {l : List α} (h : (0 : Int) < l.length) : 0 < l.length := by omega
theorem lenN {α : Type} {l : List α} (h : ¬ (0 : Int) < l.length) : l = [] := by cases l <;> simp_all
theorem k99 (s : Sm) : CallsA Tryz.prog 99 [s.val] F M (Same F M (.bool (plainB s))) := by
  refine callsA_of hm Tryz.func99 e99 (Nat.le_of_ble_eq_true rfl) ?_
  simp only [c99, go_sem]
  intro r1 hF1 hM1
  simp only [go_sem, reduceIte, Nat.reduceEqDiff, Nat.reduceAdd, Nat.reduceLeDiff]
  intro r3 hF3 hM3
  have g3 := fresh_of hM3
  have kp : ∀ e e', Keep M ((M.upd r1 e).upd r3 e') := fun e e' => ((Keep.refl M).new hM1).new g3.2.2
  by_cases q1 : s.op = 1
  · by_cases he : (0 : Int) < s.els.length
    · simp only [go_sem, reduceIte, Nat.reduceEqDiff, Nat.reduceAdd, Nat.reduceLeDiff, Int.reduceEq, g3, q1, he]
      exact endK_keep (kp _ _) ⟨by simp [plainB, bareTo, bareKind, bareE, bareN, q1, posN he], rfl, rfl⟩
    by_cases hb : (0 : Int) < s.body.length
    · simp only [go_sem, reduceCtorEq, reduceIte, Nat.reduceEqDiff, Nat.reduceAdd, Nat.reduceLeDiff, Int.reduceEq, g3, q1, he, hb]
      exact endK_keep (kp _ _) ⟨by simp [plainB, bareTo, bareKind, bareE, bareN, q1, lenN he, posN hb], rfl, rfl⟩
    by_cases h_n : s.n = 0
    rotate_left
    · simp only [go_sem, reduceCtorEq, reduceIte, Nat.reduceEqDiff, Nat.reduceAdd, Nat.reduceLeDiff, g3, q1, he, hb, h_n]
      exact endK_keep (kp _ _) ⟨by simp [plainB, bareTo, bareKind, bareE, bareN, q1, h_n, lenN he, lenN hb], rfl, rfl⟩
    simp only [go_sem, reduceCtorEq, reduceIte, Nat.reduceEqDiff, Nat.reduceAdd, Nat.reduceLeDiff, g3, q1, he, hb, h_n]
    try simp only [setH, go_sem, reduceCtorEq, reduceIte, Nat.reduceEqDiff, Nat.reduceAdd, Nat.reduceLeDiff, Nat.reduceMul, Int.reduceLT, Int.reduceLE, Int.reduceAdd, Int.reduceSub, Int.reduceMul, Int.reduceNeg, Int.reduceToNat, Int.reduceEq, g3, q1, he, hb, h_n]
    exact endK_keep (kp _ _) ⟨by simp [plainB, bareTo, bareKind, bareE, bareN, q1, h_n, lenN he, lenN hb], rfl, rfl⟩
  by_cases q2 : s.op = 2
  · by_cases he : (0 : Int) < s.els.length
    · simp only [go_sem, reduceIte, Nat.reduceEqDiff, Nat.reduceAdd, Nat.reduceLeDiff, Int.reduceEq, g3, q2, he]
      exact endK_keep (kp _ _) ⟨by simp [plainB, bareTo, bareKind, bareE, bareN, q2, posN he], rfl, rfl⟩
    by_cases hb : (0 : Int) < s.body.length
    · simp only [go_sem, reduceCtorEq, reduceIte, Nat.reduceEqDiff, Nat.reduceAdd, Nat.reduceLeDiff, Int.reduceEq, g3, q2, he, hb]
      exact endK_keep (kp _ _) ⟨by simp [plainB, bareTo, bareKind, bareE, bareN, q2, lenN he, posN hb], rfl, rfl⟩
    by_cases h_e : s.e = 0
    rotate_left
    · simp only [go_sem, reduceCtorEq, reduceIte, Nat.reduceEqDiff, Nat.reduceAdd, Nat.reduceLeDiff, Int.reduceEq, g3, q2, he, hb, h_e]
      exact endK_keep (kp _ _) ⟨by simp [plainB, bareTo, bareKind, bareE, bareN, q2, h_e, lenN he, lenN hb], rfl, rfl⟩
    by_cases h_n : s.n = 0
    rotate_left
    · simp only [go_sem, reduceCtorEq, reduceIte, Nat.reduceEqDiff, Nat.reduceAdd, Nat.reduceLeDiff, Int.reduceEq, g3, q2, he, hb, h_e, h_n]
      exact endK_keep (kp _ _) ⟨by simp [plainB, bareTo, bareKind, bareE, bareN, q2, h_e, h_n, lenN he, lenN hb], rfl, rfl⟩
    simp only [go_sem, reduceCtorEq, reduceIte, Nat.reduceEqDiff, Nat.reduceAdd, Nat.reduceLeDiff, Int.reduceEq, g3, q2, he, hb, h_e, h_n]
    try simp only [setH, go_sem, reduceCtorEq, reduceIte, Nat.reduceEqDiff, Nat.reduceAdd, Nat.reduceLeDiff, Nat.reduceMul, Int.reduceLT, Int.reduceLE, Int.reduceAdd, Int.reduceSub, Int.reduceMul, Int.reduceNeg, Int.reduceToNat, Int.reduceEq, g3, q1, q2, he, hb, h_e, h_n]
    exact endK_keep (kp _ _) ⟨by simp [plainB, bareTo, bareKind, bareE, bareN, q2, h_e, h_n, lenN he, lenN hb], rfl, rfl⟩
  by_cases q3 : s.op = 3
  · by_cases he : (0 : Int) < s.els.length
    · simp only [go_sem, reduceIte, Nat.reduceEqDiff, Nat.reduceAdd, Nat.reduceLeDiff, Int.reduceEq, g3, q3, he]
      exact endK_keep (kp _ _) ⟨by simp [plainB, bareTo, bareKind, bareE, bareN, q3, posN he], rfl, rfl⟩
    by_cases hb : (0 : Int) < s.body.length
    · simp only [go_sem, reduceCtorEq, reduceIte, Nat.reduceEqDiff, Nat.reduceAdd, Nat.reduceLeDiff, Int.reduceEq, g3, q3, he, hb]
      exact endK_keep (kp _ _) ⟨by simp [plainB, bareTo, bareKind, bareE, bareN, q3, lenN he, posN hb], rfl, rfl⟩
    by_cases h_kind : s.kind = 0
    rotate_left
    · simp only [go_sem, reduceCtorEq, reduceIte, Nat.reduceEqDiff, Nat.reduceAdd, Nat.reduceLeDiff, Int.reduceEq, g3, q3, he, hb, h_kind]
      exact endK_keep (kp _ _) ⟨by simp [plainB, bareTo, bareKind, bareE, bareN, q3, h_kind, lenN he, lenN hb], rfl, rfl⟩
    by_cases h_e : s.e = 0
    rotate_left
    · simp only [go_sem, reduceCtorEq, reduceIte, Nat.reduceEqDiff, Nat.reduceAdd, Nat.reduceLeDiff, Int.reduceEq, g3, q3, he, hb, h_kind, h_e]
      exact endK_keep (kp _ _) ⟨by simp [plainB, bareTo, bareKind, bareE, bareN, q3, h_kind, h_e, lenN he, lenN hb], rfl, rfl⟩
    simp only [go_sem, reduceCtorEq, reduceIte, Nat.reduceEqDiff, Nat.reduceAdd, Nat.reduceLeDiff, Int.reduceEq, g3, q3, he, hb, h_kind, h_e]
    try simp only [setH, go_sem, reduceCtorEq, reduceIte, Nat.reduceEqDiff, Nat.reduceAdd, Nat.reduceLeDiff, Nat.reduceMul, Int.reduceLT, Int.reduceLE, Int.reduceAdd, Int.reduceSub, Int.reduceMul, Int.reduceNeg, Int.reduceToNat, Int.reduceEq, g3, q1, q2, q3, he, hb, h_kind, h_e]
    exact endK_keep (kp _ _) ⟨by simp [plainB, bareTo, bareKind, bareE, bareN, q3, h_kind, h_e, lenN he, lenN hb], rfl, rfl⟩
  by_cases q4 : s.op = 4
  · by_cases he : (0 : Int) < s.els.length
    · simp only [go_sem, reduceIte, Nat.reduceEqDiff, Nat.reduceAdd, Nat.reduceLeDiff, Int.reduceEq, g3, q4, he]
      exact endK_keep (kp _ _) ⟨by simp [plainB, bareTo, bareKind, bareE, bareN, q4, posN he], rfl, rfl⟩
    by_cases hb : (0 : Int) < s.body.length
    · simp only [go_sem, reduceCtorEq, reduceIte, Nat.reduceEqDiff, Nat.reduceAdd, Nat.reduceLeDiff, Int.reduceEq, g3, q4, he, hb]
      exact endK_keep (kp _ _) ⟨by simp [plainB, bareTo, bareKind, bareE, bareN, q4, lenN he, posN hb], rfl, rfl⟩
    by_cases h_to : s.to = 0
    rotate_left
    · simp only [go_sem, reduceCtorEq, reduceIte, Nat.reduceEqDiff, Nat.reduceAdd, Nat.reduceLeDiff, Int.reduceEq, g3, q4, he, hb, h_to]
      exact endK_keep (kp _ _) ⟨by simp [plainB, bareTo, bareKind, bareE, bareN, q4, h_to, lenN he, lenN hb], rfl, rfl⟩
    by_cases h_kind : s.kind = 0
    rotate_left
    · simp only [go_sem, reduceCtorEq, reduceIte, Nat.reduceEqDiff, Nat.reduceAdd, Nat.reduceLeDiff, Int.reduceEq, g3, q4, he, hb, h_to, h_kind]
      exact endK_keep (kp _ _) ⟨by simp [plainB, bareTo, bareKind, bareE, bareN, q4, h_to, h_kind, lenN he, lenN hb], rfl, rfl⟩
    by_cases h_n : s.n = 0
    rotate_left
    · simp only [go_sem, reduceCtorEq, reduceIte, Nat.reduceEqDiff, Nat.reduceAdd, Nat.reduceLeDiff, Int.reduceEq, g3, q4, he, hb, h_to, h_kind, h_n]
      exact endK_keep (kp _ _) ⟨by simp [plainB, bareTo, bareKind, bareE, bareN, q4, h_to, h_kind, h_n, lenN he, lenN hb], rfl, rfl⟩
    simp only [go_sem, reduceCtorEq, reduceIte, Nat.reduceEqDiff, Nat.reduceAdd, Nat.reduceLeDiff, Int.reduceEq, g3, q4, he, hb, h_to, h_kind, h_n]
    try simp only [setH, go_sem, reduceCtorEq, reduceIte, Nat.reduceEqDiff, Nat.reduceAdd, Nat.reduceLeDiff, Nat.reduceMul, Int.reduceLT, Int.reduceLE, Int.reduceAdd, Int.reduceSub, Int.reduceMul, Int.reduceNeg, Int.reduceToNat, Int.reduceEq, g3, q1, q2, q3, q4, he, hb, h_to, h_kind, h_n]
    exact endK_keep (kp _ _) ⟨by simp [plainB, bareTo, bareKind, bareE, bareN, q4, h_to, h_kind, h_n, lenN he, lenN hb], rfl, rfl⟩
  by_cases q5 : s.op = 5
  · by_cases he : (0 : Int) < s.els.length <;> by_cases hb : (0 : Int) < s.body.length
    all_goals
      by_cases h_to : s.to = 0
      rotate_left
      · simp only [go_sem, reduceCtorEq, reduceIte, Nat.reduceEqDiff, Nat.reduceAdd, Nat.reduceLeDiff, Int.reduceEq, g3, q5, he, hb, h_to]
        exact endK_keep (kp _ _) ⟨by simp [plainB, bareTo, bareKind, bareE, bareN, q5, h_to], rfl, rfl⟩
      by_cases h_kind : s.kind = 0
      rotate_left
      · simp only [go_sem, reduceCtorEq, reduceIte, Nat.reduceEqDiff, Nat.reduceAdd, Nat.reduceLeDiff, Int.reduceEq, g3, q5, he, hb, h_to, h_kind]
        exact endK_keep (kp _ _) ⟨by simp [plainB, bareTo, bareKind, bareE, bareN, q5, h_to, h_kind], rfl, rfl⟩
      by_cases h_n : s.n = 0
      rotate_left
      · simp only [go_sem, reduceCtorEq, reduceIte, Nat.reduceEqDiff, Nat.reduceAdd, Nat.reduceLeDiff, Int.reduceEq, g3, q5, he, hb, h_to, h_kind, h_n]
        exact endK_keep (kp _ _) ⟨by simp [plainB, bareTo, bareKind, bareE, bareN, q5, h_to, h_kind, h_n], rfl, rfl⟩
      simp only [go_sem, reduceCtorEq, reduceIte, Nat.reduceEqDiff, Nat.reduceAdd, Nat.reduceLeDiff, Int.reduceEq, g3, q5, he, hb, h_to, h_kind, h_n]
      exact endK_keep (kp _ _) ⟨by simp [plainB, bareTo, bareKind, bareE, bareN, q5, h_to, h_kind, h_n], rfl, rfl⟩
  by_cases q6 : s.op = 6
  · by_cases he : (0 : Int) < s.els.length
    · simp only [go_sem, reduceIte, Nat.reduceEqDiff, Nat.reduceAdd, Nat.reduceLeDiff, Int.reduceEq, g3, q6, he]
      exact endK_keep (kp _ _) ⟨by simp [plainB, bareTo, bareKind, bareE, bareN, q6, posN he], rfl, rfl⟩
    by_cases hb : (0 : Int) < s.body.length
    all_goals
      by_cases h_to : s.to = 0
      rotate_left
      · simp only [go_sem, reduceCtorEq, reduceIte, Nat.reduceEqDiff, Nat.reduceAdd, Nat.reduceLeDiff, Int.reduceEq, g3, q6, he, hb, h_to]
        exact endK_keep (kp _ _) ⟨by simp [plainB, bareTo, bareKind, bareE, bareN, q6, h_to, lenN he], rfl, rfl⟩
      by_cases h_kind : s.kind = 0
      rotate_left
      · simp only [go_sem, reduceCtorEq, reduceIte, Nat.reduceEqDiff, Nat.reduceAdd, Nat.reduceLeDiff, Int.reduceEq, g3, q6, he, hb, h_to, h_kind]
        exact endK_keep (kp _ _) ⟨by simp [plainB, bareTo, bareKind, bareE, bareN, q6, h_to, h_kind, lenN he], rfl, rfl⟩
      by_cases h_n : s.n = 0
      rotate_left
      · simp only [go_sem, reduceCtorEq, reduceIte, Nat.reduceEqDiff, Nat.reduceAdd, Nat.reduceLeDiff, Int.reduceEq, g3, q6, he, hb, h_to, h_kind, h_n]
        exact endK_keep (kp _ _) ⟨by simp [plainB, bareTo, bareKind, bareE, bareN, q6, h_to, h_kind, h_n, lenN he], rfl, rfl⟩
      simp only [go_sem, reduceCtorEq, reduceIte, Nat.reduceEqDiff, Nat.reduceAdd, Nat.reduceLeDiff, Int.reduceEq, g3, q6, he, hb, h_to, h_kind, h_n]
      exact endK_keep (kp _ _) ⟨by simp [plainB, bareTo, bareKind, bareE, bareN, q6, h_to, h_kind, h_n, lenN he], rfl, rfl⟩
  by_cases he : (0 : Int) < s.els.length
  · simp only [go_sem, reduceIte, Nat.reduceEqDiff, Nat.reduceAdd, g3, q1, q2, q3, q4, q5, q6, he]
    exact endK_keep (kp _ _) ⟨by simp [plainB, bareTo, bareKind, bareE, bareN, q1, q2, q3, q4, q5, q6, posN he], rfl, rfl⟩
  by_cases hb : (0 : Int) < s.body.length
  · simp only [go_sem, reduceCtorEq, reduceIte, Nat.reduceEqDiff, Nat.reduceAdd, g3, q1, q2, q3, q4, q5, q6, he, hb]
    exact endK_keep (kp _ _) ⟨by simp [plainB, bareTo, bareKind, bareE, bareN, q1, q2, q3, q4, q5, q6, lenN he, posN hb], rfl, rfl⟩
  by_cases h_to : s.to = 0
  rotate_left
  · simp only [go_sem, reduceCtorEq, reduceIte, Nat.reduceEqDiff, Nat.reduceAdd, g3, q1, q2, q3, q4, q5, q6, he, hb, h_to]
    exact endK_keep (kp _ _) ⟨by simp [plainB, bareTo, bareKind, bareE, bareN, q1, q2, q3, q4, q5, q6, h_to, lenN he, lenN hb], rfl, rfl⟩
  by_cases h_kind : s.kind = 0
  rotate_left
  · simp only [go_sem, reduceCtorEq, reduceIte, Nat.reduceEqDiff, Nat.reduceAdd, g3, q1, q2, q3, q4, q5, q6, he, hb, h_to, h_kind]
    exact endK_keep (kp _ _) ⟨by simp [plainB, bareTo, bareKind, bareE, bareN, q1, q2, q3, q4, q5, q6, h_to, h_kind, lenN he, lenN hb], rfl, rfl⟩
  by_cases h_e : s.e = 0
  rotate_left
  · simp only [go_sem, reduceCtorEq, reduceIte, Nat.reduceEqDiff, Nat.reduceAdd, g3, q1, q2, q3, q4, q5, q6, he, hb, h_to, h_kind, h_e]
    exact endK_keep (kp _ _) ⟨by simp [plainB, bareTo, bareKind, bareE, bareN, q1, q2, q3, q4, q5, q6, h_to, h_kind, h_e, lenN he, lenN hb], rfl, rfl⟩
  by_cases h_n : s.n = 0
  rotate_left
  · simp only [go_sem, reduceCtorEq, reduceIte, Nat.reduceEqDiff, Nat.reduceAdd, g3, q1, q2, q3, q4, q5, q6, he, hb, h_to, h_kind, h_e, h_n]
    exact endK_keep (kp _ _) ⟨by simp [plainB, bareTo, bareKind, bareE, bareN, q1, q2, q3, q4, q5, q6, h_to, h_kind, h_e, h_n, lenN he, lenN hb], rfl, rfl⟩
  simp only [go_sem, reduceCtorEq, reduceIte, Nat.reduceEqDiff, Nat.reduceAdd, g3, q1, q2, q3, q4, q5, q6, he, hb, h_to, h_kind, h_e, h_n]
  try simp only [setH, go_sem, reduceCtorEq, reduceIte, Nat.reduceEqDiff, Nat.reduceAdd, Nat.reduceLeDiff, Nat.reduceMul, Int.reduceLT, Int.reduceLE, Int.reduceAdd, Int.reduceSub, Int.reduceMul, Int.reduceNeg, Int.reduceToNat, Int.reduceEq, g3, q1, q2, q3, q4, q5, q6, he, hb, h_to, h_kind, h_e, h_n]
  exact endK_keep (kp _ _) ⟨by simp [plainB, bareTo, bareKind, bareE, bareN, q1, q2, q3, q4, q5, q6, h_to, h_kind, h_e, h_n, lenN he, lenN hb], rfl, rfl⟩
theorem k62 (p : Pg) (s : Sm) (hp : p.rd F) (hold : Old F M) : CallsA Tryz.prog 62 [p.val, s.val] F M (Same F M (.bool (stmtB p.vars.length p.news.length p.exprs s))) := by
  refine callsA_of hm Tryz.func62 e62 (Nat.le_of_ble_eq_true rfl) ?_
  simp only [c62, go_sem]
  intro r hF hM
  simp only [go_sem, reduceCtorEq, Nat.reduceEqDiff]
  intro r3 hF3 hM3
  have g3 := fresh_of hM3
  have kp : ∀ e e', Keep M ((M.upd r e).upd r3 e') := fun e e' => ((Keep.refl M).new hM).new g3.2.2
  have oo : ∀ e e', Old F ((M.upd r e).upd r3 e') := fun e e' => (hold.upd hF).upd hF3
  simp only [go_sem, reduceIte, Nat.reduceEqDiff]
  refine callK_same (k99 _ _ s) ?_
  unfold stmtB
  cases hq : plainB s
  · simp only [go_sem]
    exact endK_keep (kp _ _) ⟨by simp, rfl, rfl⟩
  by_cases q1 : s.op = 1
  · simp only [go_sem, reduceIte, Nat.reduceEqDiff, Int.reduceEq, g3, q1]
    refine callK_same (k100 _ _ p s.to 7 hp (oo _ _)) ?_
    cases h1 : isEB p.exprs s.to 7
    · simp only [go_sem, reduceCtorEq, reduceIte, Nat.reduceEqDiff]
      exact endK_keep (kp _ _) ⟨by simp, rfl, rfl⟩
    simp only [go_sem, Nat.reduceEqDiff]
    refine callK_same (k101 _ _ s.kind) ?_
    cases h2 : isS s.kind
    · simp only [go_sem, reduceCtorEq, reduceIte, Nat.reduceEqDiff]
      exact endK_keep (kp _ _) ⟨by simp, rfl, rfl⟩
    simp only [go_sem, reduceIte, Nat.reduceEqDiff, g3]
    refine callK_same (k100 _ _ p s.e s.kind hp (oo _ _)) ?_
    simp only [go_sem, reduceIte, Nat.reduceEqDiff]
    exact endK_keep (kp _ _) ⟨by simp, rfl, rfl⟩
  by_cases q2 : s.op = 2
  · simp only [go_sem, reduceIte, Nat.reduceEqDiff, Int.reduceEq, g3, q2]
    refine callK_same (k100 _ _ p s.to 7 hp (oo _ _)) ?_
    cases h1 : isEB p.exprs s.to 7
    · simp only [go_sem, reduceCtorEq, reduceIte, Nat.reduceEqDiff]
      exact endK_keep (kp _ _) ⟨by simp, rfl, rfl⟩
    simp only [go_sem, Nat.reduceEqDiff]
    refine callK_same (k102 _ _ s.kind) ?_
    simp only [go_sem, reduceIte, Nat.reduceEqDiff]
    exact endK_keep (kp _ _) ⟨by simp, rfl, rfl⟩
  by_cases q3 : s.op = 3
  · have hf := hp.few
    have ew : IntKind.i64.wrap ((p.vars.length : Int) + p.news.length) = p.vars.length + p.news.length := w64 (by omega) (by omega)
    simp only [go_sem, reduceIte, Nat.reduceEqDiff, Int.reduceEq, g3, q3]
    refine callK_same (k100 _ _ p s.to 7 hp (oo _ _)) ?_
    cases h1 : isEB p.exprs s.to 7
    · simp only [go_sem, reduceCtorEq, reduceIte, Nat.reduceEqDiff]
      exact endK_keep (kp _ _) ⟨by simp, rfl, rfl⟩
    by_cases h2 : (p.vars.length : Int) < s.n
    · simp only [go_sem, reduceIte, Nat.reduceEqDiff, g3, h2, ew]
      exact endK_keep (kp _ _) ⟨by simp [], rfl, rfl⟩
    · simp only [go_sem, reduceCtorEq, reduceIte, Nat.reduceEqDiff, g3, h2]
      exact endK_keep (kp _ _) ⟨by simp [], rfl, rfl⟩
  by_cases q4 : s.op = 4
  · simp only [go_sem, reduceIte, Nat.reduceEqDiff, Int.reduceEq, g3, q4]
    refine callK_same (k100 _ _ p s.e 7 hp (oo _ _)) ?_
    simp only [go_sem]
    exact endK_keep (kp _ _) ⟨by simp, rfl, rfl⟩
  by_cases q56 : s.op = 5 ∨ s.op = 6
  · rcases q56 with q | q
    · simp only [go_sem, reduceIte, Nat.reduceEqDiff, Int.reduceEq, g3, q]
      refine callK_same (k100 _ _ p s.e 6 hp (oo _ _)) ?_
      simp only [go_sem]
      exact endK_keep (kp _ _) ⟨by simp [], rfl, rfl⟩
    · simp only [go_sem, reduceIte, Nat.reduceEqDiff, Int.reduceEq, g3, q]
      refine callK_same (k100 _ _ p s.e 6 hp (oo _ _)) ?_
      simp only [go_sem]
      exact endK_keep (kp _ _) ⟨by simp [], rfl, rfl⟩
  have n5 : ¬ s.op = 5 := fun h => q56 (.inl h)
  have n6 : ¬ s.op = 6 := fun h => q56 (.inr h)
  simp only [go_sem, reduceIte, Nat.reduceEqDiff, q1, q2, q3, q4, n5, n6]
  exact endK_keep (kp _ _) ⟨by simp [], rfl, rfl⟩
end Go.Proofs.Tryz.K
namespace Go.Proofs.Tryz.K
open Go Go.Ax Go.Proofs.Tryz.S
set_option maxRecDepth 100000
set_option linter.unusedSimpArgs false
set_option linter.unusedVariables false
set_option maxHeartbeats 4000000
variable (F : Fz) (M : Hp)
theorem k131 (n : Nat) (hn : n ≤ 100000) : CallsA Tryz.prog 131 [.slice none 0 0, .int .i64 n] F M (rowR 1 intC 3 ([] : List Int) F M) := by
  refine callsA_of hm Tryz.func131 e131 (Nat.le_of_ble_eq_true rfl) ?_
  have h0 : ¬ (n : Int) < 0 := by omega
  have es : IntKind.i64.wrap ((n : Int) - 0) = n := w64 (by omega) (by omega)
  by_cases hp : (0 : Int) < n
  · have hn0 : ((0 : Int) ≤ 0 ∧ (0 : Int) ≤ ((n : Nat) : Int)) := by omega
    simp only [c131, go_sem, reduceCtorEq, reduceIte, Nat.reduceEqDiff, Int.reduceLE, Int.reduceSub, Int.reduceNeg, Int.reduceToNat, h0, es, hp]
    refine gzK_of (by omega) (by simp only [maxLen]; omega) (by omega) ?_
    intro r cap hF hM hc1 hc2
    have hcc : ((0 : Int) ≤ n ∧ n ≤ cap) := ⟨by omega, hc1⟩
    simp only [go_sem, reduceCtorEq, reduceIte, Nat.reduceEqDiff, Int.reduceLE, Int.reduceToNat, hcc]
    have hw := Wk.short (F := F) (c := []) (Hp.upd_same M r ⟨(List.replicate n [Value.int IntKind.i64 0]).flatten, 3, cap * 1⟩) (List.nil_prefix)
    rw [Hp.upd_upd] at hw
    exact ⟨F, _, hw, rfl, .inr ⟨r, cap, hF, hM, rfl, ⟨Nat.zero_le _, hc2⟩, rfl⟩⟩
  · simp only [c131, go_sem, reduceCtorEq, reduceIte, Nat.reduceEqDiff, Int.reduceLE, Int.reduceSub, Int.reduceNeg, h0, es, hp]
    exact endK_same ⟨rfl, .inl ⟨rfl, rfl, rfl⟩⟩
structure CcI (ls : List Lz) (u : Value) (F0 : Fz) (M0 : Hp) (m : Nat) (σ : Env) (F : Fz) (M : Hp) : Prop where
  ff : F = F0
  mm : M = M0
  h0 : Ax.look σ 0 = some u
  st : ∃ i z : Nat, i + m = ls.length ∧ Ax.look σ 11 = some (.int .i64 i) ∧ Ax.look σ 9 = some u ∧ Ax.look σ 10 = some (.int .i64 ls.length) ∧ Ax.look σ 3 = some (.int .i64 z) ∧ z ≤ i * 5000
structure CdI (ls : List Lz) (u : Value) (F0 : Fz) (M0 : Hp) (m : Nat) (σ : Env) (F : Fz) (M : Hp) : Prop where
  ff : F = F0
  kp : Keep M0 M
  old : Old F0 M
  h0 : Ax.look σ 0 = some u
  h25 : Ax.look σ 25 = some u
  h26 : Ax.look σ 26 = some (.int .i64 ls.length)
  st : ∃ (i : Nat) (w : Value), i + m = ls.length ∧ Ax.look σ 27 = some (.int .i64 i) ∧ Ax.look σ 6 = some w ∧ MineG 1 intC 3 F0 M0 M w ((ls.take i).flatMap (·.2.2))
theorem flat_few {ls : List Lz} (h : ∀ x ∈ ls, x.2.2.length ≤ 5000) : (ls.flatMap (·.2.2)).length ≤ ls.length * 5000 := by
  induction ls with
  | nil => simp
  | cons x l ih =>
    have := ih (fun y hy => h y (by simp [hy]))
    have := h x (by simp)
    simp only [List.flatMap_cons, List.length_append, List.length_cons]; omega
theorem k104 (ad : Option Addr) (cap : Nat) (ls : List Lz) (hold : Old F M) (h : RdG 1 slC F M (.slice ad ls.length cap) ls) (hr : ∀ x ∈ ls, intR F M x.1 x.2.1 x.2.2 ∧ x.2.2.length ≤ 5000 ∧ (x.1 = none → x.2.1 = 0)) (hn : ls.length ≤ 5) :
    CallsA Tryz.prog 104 [.slice ad ls.length cap] F M (rowR 1 intC 3 (ls.flatMap (·.2.2)) F M) := by
  refine callsA_of hm Tryz.func104 e104 (Nat.le_of_ble_eq_true rfl) ?_
  simp only [c104, go_sem, reduceCtorEq]
  refine loop_of (CcI ls (.slice ad ls.length cap) F M) ls.length ?_ ?_
  · exact ⟨rfl, rfl, by simp only [go_sem, reduceCtorEq], 0, 0, by omega, by simp only [go_sem] <;> rfl, by simp only [go_sem, Nat.reduceEqDiff], by simp only [go_sem, Nat.reduceEqDiff], by simp only [go_sem, Nat.reduceEqDiff] <;> rfl, by omega⟩
  rintro m σ F' M' s
  obtain ⟨i, z, hi, h11, h9, h10, h3, hz⟩ := s.st
  rw [s.ff, s.mm]
  by_cases hil : (i : Int) < ls.length
  · have hi0 : (0 : Int) ≤ i := by omega
    have hil' : i < ls.length := by omega
    have ei : IntKind.i64.wrap ((i : Int) + 1) = i + 1 := w64 (by omega) (by omega)
    obtain ⟨b, o, cs, ea, hb, d1, d2⟩ := RdG.at h hil'
    have d3 := one_row d2
    obtain ⟨hx1, hx2, hx3⟩ := hr ls[i] (List.getElem_mem _)
    generalize ls[i] = x at *
    obtain ⟨xa, xc, xl⟩ := x
    simp only [] at d3 hx1 hx2 hx3
    have ez : IntKind.i64.wrap ((z : Int) + xl.length) = z + xl.length := w64 (by omega) (by omega)
    have hz0 : ¬ (z : Int) + xl.length < 0 := by omega
    rw [ea] at h9
    simp only [go_sem, reduceIte, Nat.reduceEqDiff, h9, h10, h11, h3, hil, hi0, Int.toNat_natCast, hb, d3, ez, ei, hz0]
    exact ⟨m - 1, by omega, rfl, rfl, by simp only [go_sem, reduceCtorEq, s.h0], i + 1, z + xl.length, by omega, by simp only [go_sem]; rfl, by simp only [go_sem, Nat.reduceEqDiff, h9, ea], by simp only [go_sem, Nat.reduceEqDiff, h10], by simp only [go_sem, Nat.reduceEqDiff]; rfl, by omega⟩
  have hil' : i = ls.length := by omega
  simp only [go_sem, reduceIte, Nat.reduceEqDiff, h10, h11, h3, hil]
  refine callK_of (k131 _ _ z (by omega)) ?_
  rintro w G M1 hq
  have mine := hq.mine (Keep.refl M)
  obtain ⟨hG, le, kq, oq, aq, cq, rfl, rdq⟩ := hq.le intC_len (by simp)
  rw [hG]
  refine ⟨(fun h => by cases h), ?_⟩
  have h0 := s.h0
  simp only [go_sem, reduceCtorEq, h0]
  refine loop_of (CdI ls (.slice ad ls.length cap) F M) ls.length ?_ ?_
  · exact ⟨rfl, kq, oq hold, by simp only [go_sem, reduceCtorEq, h0], by simp only [go_sem, Nat.reduceEqDiff], by simp only [go_sem, Nat.reduceEqDiff], 0, _, by omega, by simp only [go_sem] <;> rfl, by simp only [go_sem, Nat.reduceEqDiff]; rfl, by simpa using mine⟩
  clear mine rdq le oq kq hq h0 h11 h9 h10 h3
  clear s
  rintro m σ F' M' s
  obtain ⟨i, w, hi, h27, h6, mine⟩ := s.st
  obtain rfl := s.ff
  by_cases hil : (i : Int) < ls.length
  rotate_left
  · have : ls.take i = ls := List.take_of_length_le (by omega)
    rw [this] at mine
    simp only [go_sem, reduceIte, Nat.reduceEqDiff, s.h26, h27, h6, hil]
    exact mine.done s.kp
  have hi0 : (0 : Int) ≤ i := by omega
  have hil' : i < ls.length := by omega
  have ei : IntKind.i64.wrap ((i : Int) + 1) = i + 1 := w64 (by omega) (by omega)
  obtain ⟨b, o, cs, ea, hb, d1, d2⟩ := RdG.at (h.keep s.kp s.old) hil'
  have d3 := one_row d2
  obtain ⟨hx1, hx2, hx3⟩ := hr ls[i] (List.getElem_mem _)
  have htk : (ls.take (i + 1)).flatMap (·.2.2) = (ls.take i).flatMap (·.2.2) ++ ls[i].2.2 := by
    rw [List.take_succ_eq_append_getElem hil', List.flatMap_append]; simp
  have hlen := flat_few (ls := ls.take i) (fun x hx => (hr x (List.mem_of_mem_take hx)).2.1)
  have hli : (ls.take i).length ≤ 5 := by rw [List.length_take]; omega
  generalize ls[i] = x at *
  obtain ⟨xa, xc, xl⟩ := x
  simp only [] at d3 hx1 hx2 hx3 htk
  have h25 := s.h25
  rw [ea] at h25
  simp only [go_sem, reduceIte, Nat.reduceEqDiff, h25, s.h26, h27, h6, hil, hi0, Int.toNat_natCast, hb, d3]
  refine apMG_any (xs := (ls.take i).flatMap (·.2.2)) (ys := xl) intC_len intC_plain (by decide) mine s.kp (RdG.src intC_len (hx1.keep s.kp s.old) hx3) (by omega) ?_
  rintro v' M5 hfr kp5 ho5 mine5
  rw [← htk] at mine5
  simp only [go_sem, reduceIte, Nat.reduceEqDiff, h27, ei]
  exact ⟨m - 1, by omega, rfl, kp5, ho5 s.old, by simp only [go_sem, reduceCtorEq, s.h0], by simp only [go_sem, Nat.reduceEqDiff, h25, ea], by simp only [go_sem, Nat.reduceEqDiff, s.h26], i + 1, v', by omega, by simp only [go_sem]; rfl, by simp only [go_sem, Nat.reduceEqDiff], mine5⟩
end Go.Proofs.Tryz.K
