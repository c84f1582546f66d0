/- Parts B6: the machine's runs of small codes, contracts of functions, plain facts. -/
import Derived.Test.YtjmgdglhhiccoaaGreatB5
namespace Go.Proofs.Tryz.K
open Go Go.Ax Go.Proofs.Tryz.S
set_option maxRecDepth 100000
set_option linter.unusedSimpArgs false
set_option linter.unusedVariables false
set_option maxHeartbeats 4000000
variable (F : Fz) (M : Hp)
def ixBy (l : List By) (p : By → Bool) (F0 : Fz) (M0 : Hp) (i : Nat) (σ : Env) (F : Fz) (M : Hp) : Prop :=
  F0 = F ∧ M0 = M ∧ Ax.look σ 8 = some (.int .i64 i) ∧ (l.take i).any p = false
theorem k152 (ad : Option Addr) (cap : Nat) (l : List By) (g : Nat) (ca : List Value) (p : By → Bool) (h : RdG 5 By.cs F M (.slice ad l.length cap) l)
    (hp : ∀ v ∈ l, CallsA Tryz.prog g ([v.val] ++ ca) F M (Same F M (.bool (p v)))) :
    CallsA Tryz.prog 152 [.slice ad l.length cap, .func (.func g) #[] ca.toArray] F M fun r F' M' => F' = F ∧ M' = M ∧ ((l.any p = false ∧ r = .int .i64 (-1)) ∨ ∃ i : Nat, r = .int .i64 i ∧ ∃ hi : i < l.length, p l[i] = true ∧ (l.take i).any p = false) := by
  refine callsA_of hm Tryz.func152 e152 (Nat.le_of_ble_eq_true rfl) ?_
  simp only [c152, go_sem, reduceCtorEq, Int.reduceNeg]
  refine loop_up l.length (ixBy l p F M) ⟨rfl, rfl, (by simp only [go_sem, *] <;> rfl), rfl⟩ ?_
  rintro i σ F' M' hi hs ⟨rfl, rfl, h8, ha⟩
  have s0 := hs 0 rfl
  have s1 := hs 1 rfl
  have s7 := hs 7 rfl
  simp only [go_sem, reduceCtorEq, Nat.reduceEqDiff] at s0 s1 s7
  clear hs
  by_cases hil : (i : Int) < l.length
  · have hi0 : (0 : Int) ≤ i := by omega
    have hil' : i < l.length := by omega
    have hle := h.1
    have ei : IntKind.i64.wrap ((i : Int) + 1) = i + 1 := w64 (by omega) (by omega)
    have t1 := List.take_succ_eq_append_getElem hil'
    have hfin : p l[i] = true → (l.any p = false ∧ Value.int .i64 (i : Int) = .int .i64 (-1)) ∨ ∃ j : Nat, Value.int .i64 (i : Int) = .int .i64 j ∧ ∃ hi : j < l.length, p l[j] = true ∧ (l.take j).any p = false := fun hv => .inr ⟨i, rfl, hil', hv, ha⟩
    obtain ⟨b, o, cs, rfl, hb, d1, d2⟩ := RdG.at h hil'
    have hq := hp l[i] (List.getElem_mem _)
    generalize l[i] = v at *
    simp only [go_sem, reduceCtorEq, reduceIte, Nat.reduceEqDiff, Int.reduceNeg, s0, s1, s7, h8, hil, hi0, Int.toNat_natCast, hb, d1, d2]
    refine callK_same hq ?_
    cases hv : p v
    · simp only [go_sem, reduceIte, Nat.reduceEqDiff, Int.reduceNeg, h8, ei]
      exact ⟨hil', rfl, rfl, (by simp only [go_sem, *] <;> rfl), by rw [t1, List.any_append, ha]; simp [hv]⟩
    · simp only [go_sem, Nat.reduceEqDiff, Int.reduceNeg]
      exact endK_same ⟨rfl, rfl, hfin hv⟩
  · rw [List.take_of_length_le (by omega)] at ha
    simp only [go_sem, reduceIte, Int.reduceNeg, s7, h8, hil]
    exact endK_same ⟨rfl, rfl, .inl ⟨ha, rfl⟩⟩
theorem k135 (ad : Option Addr) (cap : Nat) (l : List By) (g : Nat) (ca : List Value) (p : By → Bool) (h : RdG 5 By.cs F M (.slice ad l.length cap) l)
    (hp : ∀ v ∈ l, CallsA Tryz.prog g ([v.val] ++ ca) F M (Same F M (.bool (p v)))) :
    CallsA Tryz.prog 135 [.slice ad l.length cap, .func (.func g) #[] ca.toArray] F M (Same F M (.bool (l.any p))) := by
  refine callsA_of hm Tryz.func135 e135 (Nat.le_of_ble_eq_true rfl) ?_
  simp only [c135, go_sem, reduceCtorEq, Nat.reduceEqDiff]
  refine callK_of (k152 F M ad cap l g ca p h hp) ?_
  rintro r G M' ⟨hG, hM, hz⟩
  rw [hG, hM]
  refine ⟨(fun h => by cases h), ?_⟩
  rcases hz with ⟨hz, rfl⟩ | ⟨i, rfl, hi, hz, _⟩
  · simp only [go_sem, reduceIte, Int.reduceLE, Int.reduceNeg]
    exact endK_same ⟨by rw [hz], rfl, rfl⟩
  · have : l.any p = true := List.any_eq_true.2 ⟨_, List.getElem_mem hi, hz⟩
    have hi0 : (0 : Int) ≤ i := by omega
    simp only [go_sem, reduceIte, hi0]
    exact endK_same ⟨by rw [this], rfl, rfl⟩
def ixBl (l : List Bl) (p : Bl → Bool) (F0 : Fz) (M0 : Hp) (i : Nat) (σ : Env) (F : Fz) (M : Hp) : Prop :=
  F0 = F ∧ M0 = M ∧ Ax.look σ 8 = some (.int .i64 i) ∧ (l.take i).any p = false
theorem k149 (ad : Option Addr) (cap : Nat) (l : List Bl) (g : Nat) (ca : List Value) (p : Bl → Bool) (h : RdG 2 Bl.cs F M (.slice ad l.length cap) l)
    (hp : ∀ v ∈ l, CallsA Tryz.prog g ([v.val] ++ ca) F M (Same F M (.bool (p v)))) :
    CallsA Tryz.prog 149 [.slice ad l.length cap, .func (.func g) #[] ca.toArray] F M fun r F' M' => F' = F ∧ M' = M ∧ ((l.any p = false ∧ r = .int .i64 (-1)) ∨ ∃ i : Nat, r = .int .i64 i ∧ ∃ hi : i < l.length, p l[i] = true ∧ (l.take i).any p = false) := by
  refine callsA_of hm Tryz.func149 e149 (Nat.le_of_ble_eq_true rfl) ?_
  simp only [c149, go_sem, reduceCtorEq, Int.reduceNeg]
  refine loop_up l.length (ixBl l p F M) ⟨rfl, rfl, (by simp only [go_sem, *] <;> rfl), rfl⟩ ?_
  rintro i σ F' M' hi hs ⟨rfl, rfl, h8, ha⟩
  have s0 := hs 0 rfl
  have s1 := hs 1 rfl
  have s7 := hs 7 rfl
  simp only [go_sem, reduceCtorEq, Nat.reduceEqDiff] at s0 s1 s7
  clear hs
  by_cases hil : (i : Int) < l.length
  · have hi0 : (0 : Int) ≤ i := by omega
    have hil' : i < l.length := by omega
    have hle := h.1
    have ei : IntKind.i64.wrap ((i : Int) + 1) = i + 1 := w64 (by omega) (by omega)
    have t1 := List.take_succ_eq_append_getElem hil'
    have hfin : p l[i] = true → (l.any p = false ∧ Value.int .i64 (i : Int) = .int .i64 (-1)) ∨ ∃ j : Nat, Value.int .i64 (i : Int) = .int .i64 j ∧ ∃ hi : j < l.length, p l[j] = true ∧ (l.take j).any p = false := fun hv => .inr ⟨i, rfl, hil', hv, ha⟩
    obtain ⟨b, o, cs, rfl, hb, d1, d2⟩ := RdG.at h hil'
    have hq := hp l[i] (List.getElem_mem _)
    generalize l[i] = v at *
    simp only [go_sem, reduceCtorEq, reduceIte, Nat.reduceEqDiff, Int.reduceNeg, s0, s1, s7, h8, hil, hi0, Int.toNat_natCast, hb, d1, d2]
    refine callK_same hq ?_
    cases hv : p v
    · simp only [go_sem, reduceIte, Nat.reduceEqDiff, Int.reduceNeg, h8, ei]
      exact ⟨hil', rfl, rfl, (by simp only [go_sem, *] <;> rfl), by rw [t1, List.any_append, ha]; simp [hv]⟩
    · simp only [go_sem, Nat.reduceEqDiff, Int.reduceNeg]
      exact endK_same ⟨rfl, rfl, hfin hv⟩
  · rw [List.take_of_length_le (by omega)] at ha
    simp only [go_sem, reduceIte, Int.reduceNeg, s7, h8, hil]
    exact endK_same ⟨rfl, rfl, .inl ⟨ha, rfl⟩⟩
theorem k132 (ad : Option Addr) (cap : Nat) (l : List Bl) (g : Nat) (ca : List Value) (p : Bl → Bool) (h : RdG 2 Bl.cs F M (.slice ad l.length cap) l)
    (hp : ∀ v ∈ l, CallsA Tryz.prog g ([v.val] ++ ca) F M (Same F M (.bool (p v)))) :
    CallsA Tryz.prog 132 [.slice ad l.length cap, .func (.func g) #[] ca.toArray] F M (Same F M (.bool (l.any p))) := by
  refine callsA_of hm Tryz.func132 e132 (Nat.le_of_ble_eq_true rfl) ?_
  simp only [c132, go_sem, reduceCtorEq, Nat.reduceEqDiff]
  refine callK_of (k149 F M ad cap l g ca p h hp) ?_
  rintro r G M' ⟨hG, hM, hz⟩
  rw [hG, hM]
  refine ⟨(fun h => by cases h), ?_⟩
  rcases hz with ⟨hz, rfl⟩ | ⟨i, rfl, hi, hz, _⟩
  · simp only [go_sem, reduceIte, Int.reduceLE, Int.reduceNeg]
    exact endK_same ⟨by rw [hz], rfl, rfl⟩
  · have : l.any p = true := List.any_eq_true.2 ⟨_, List.getElem_mem hi, hz⟩
    have hi0 : (0 : Int) ≤ i := by omega
    simp only [go_sem, reduceIte, hi0]
    exact endK_same ⟨by rw [this], rfl, rfl⟩
theorem k151 (x : By) : CallsA Tryz.prog 151 [x.val] F M (Same F M (.bool (byteB x))) := by
  refine callsA_of hm Tryz.func151 e151 (Nat.le_of_ble_eq_true rfl) ?_
  simp only [c151, go_sem]
  repeat' first
    | simp only [go_sem, reduceCtorEq, reduceIte, Nat.reduceEqDiff, Nat.reduceAdd, Nat.reduceLeDiff, Nat.add_zero, *]
    | (with_reducible first | apply cD | apply cN | apply cB | apply cO | apply tD | apply fD | apply tN | apply fN | apply tB | apply fB | apply tO | apply fO) <;> intro hc
    | (intro rx hFx hMx; (try simp only [upd_none2] at hMx))
    | simp only [By.fold, go_sem, reduceIte, Nat.reduceEqDiff, *]
    | with_reducible refine callK_same (k160 _ _ _ _) ?_
  all_goals (refine endK_keep (M := M) (by repeat' first | exact Keep.refl _ | (refine Keep.new ?_ (by simp only [*]))) ⟨?_, rfl, rfl⟩)
  all_goals (obtain ⟨a, b, c, d, e⟩ := x; (refine congrArg Value.bool ?_; first | rfl | ((try simp only [Bool.and_eq_true, decide_eq_true_eq, Bool.and_eq_false_iff, decide_eq_false_iff_not] at *); rw [Bool.eq_iff_iff]; (try simp [byteB, *]); (try first | omega | (intros; omega) | (intros; exfalso; omega) | (simp_all; done) | (simp_all; omega)))))
theorem k113 (x : By) : CallsA Tryz.prog 113 [x.val] F M (Same F M (.bool (byteB x))) := by
  refine callsA_of hm Tryz.func113 e113 (Nat.le_of_ble_eq_true rfl) ?_
  simp only [c113, go_sem]
  repeat' first
    | simp only [go_sem, reduceCtorEq, reduceIte, Nat.reduceEqDiff, Nat.add_zero, *]
    | (with_reducible first | apply cD | apply cN | apply cB | apply cO | apply tD | apply fD | apply tN | apply fN | apply tB | apply fB | apply tO | apply fO) <;> intro hc
    | (intro rx hFx hMx; (try simp only [upd_none2] at hMx))
    | simp only [By.fold, go_sem, *]
    | with_reducible refine callK_same (k32 _ _ _ _) ?_
    | with_reducible refine callK_same (k33 _ _ _ _ _) ?_
  all_goals (refine endK_keep (M := M) (by repeat' first | exact Keep.refl _ | (refine Keep.new ?_ (by simp only [*]))) ⟨?_, rfl, rfl⟩)
  all_goals (obtain ⟨a, b, c, d, e⟩ := x; (refine congrArg Value.bool ?_; first | rfl | ((try simp only [Bool.and_eq_true, decide_eq_true_eq, Bool.and_eq_false_iff, decide_eq_false_iff_not] at *); rw [Bool.eq_iff_iff]; (try simp [byteB, *]); (try first | omega | (intros; omega) | (intros; exfalso; omega) | (simp_all; done) | (simp_all; omega)))))
theorem k150 (x : By) : CallsA Tryz.prog 150 [x.val] F M (Same F M (.bool (!byteB x))) := by
  refine callsA_of hm Tryz.func150 e150 (Nat.le_of_ble_eq_true rfl) ?_
  simp only [c150, go_sem]
  repeat' first
    | simp only [go_sem, reduceIte, Nat.reduceEqDiff, *]
    | (with_reducible first | apply cD | apply cN | apply cB | apply cO | apply tD | apply fD | apply tN | apply fN | apply tB | apply fB | apply tO | apply fO) <;> intro hc
    | (intro rx hFx hMx; (try simp only [upd_none2] at hMx))
    | with_reducible refine callK_same (k151 _ _ _) ?_
  all_goals (refine endK_keep (M := M) (by repeat' first | exact Keep.refl _ | (refine Keep.new ?_ (by simp only [*]))) ⟨?_, rfl, rfl⟩)
  all_goals rfl
theorem k134 (x : Bl) (h : x.rd F M) (hold : Old F M) : CallsA Tryz.prog 134 [x.val] F M (Same F M (.bool (blockB x))) := by
  refine callsA_of hm Tryz.func134 e134 (Nat.le_of_ble_eq_true rfl) ?_
  have ez : decide ((0 : Int) < x.l.length) = !decide (x.l.length = 0) := by
    by_cases h : x.l.length = 0
    · simp [h]
    · have : 0 < x.l.length := by omega
      simp [h, this]
  have e32 : decide ((32 : Int) < x.l.length) = !decide (x.l.length ≤ 32) := by
    by_cases h : x.l.length ≤ 32
    · have : ¬ (32 : Int) < x.l.length := by omega
      simp [h, this]
    · have : (32 : Int) < x.l.length := by omega
      simp [h, this]
  simp only [c134, go_sem]
  intro r1 hF1 hM1
  have h1 : RdG 5 By.cs F (M.upd r1 ⟨x.cs, 54, 2⟩) (.slice x.lA x.l.length x.lC) x.l := RdG.new h hF1 hM1
  have kc := k135 F _ x.lA x.lC x.l _ [] (fun v => !byteB v) h1 (fun v _ => k150 _ _ v)
  have e9 : (x.l.any fun v => !byteB v) = !x.l.all byteB := (List.not_all_eq_any_not).symm
  rw [e9] at kc
  clear h hold h1 e9
  obtain ⟨z, hz⟩ : ∃ z, z = decide (x.l.length = 0) := ⟨_, rfl⟩
  obtain ⟨y, hy⟩ : ∃ y, y = decide (x.l.length ≤ 32) := ⟨_, rfl⟩
  have hR : blockB x = ((decide (0 ≤ x.st) && decide (x.st ≤ 3)) && y && (decide (x.st = 1) || z) && x.l.all byteB) := by rw [hy, hz]; rfl
  rw [hR]
  rw [← hz] at ez
  rw [← hy] at e32
  clear hz hy hR
  repeat' first
    | simp only [go_sem, reduceCtorEq, reduceIte, Nat.reduceEqDiff, Int.reduceLE, Nat.add_zero, *]
    | (with_reducible first | apply cD | apply cN | apply cB | apply cO | apply tD | apply fD | apply tN | apply fN | apply tB | apply fB | apply tO | apply fO) <;> intro hc
    | (intro rx hFx hMx; (try simp only [upd_none2] at hMx))
    | with_reducible refine callK_same kc ?_
  all_goals (refine endK_keep (M := M) (by repeat' first | exact Keep.refl _ | (refine Keep.new ?_ (by simp only [*]))) ⟨?_, rfl, rfl⟩)
  all_goals clear kc
  all_goals (refine congrArg Value.bool ?_; first | rfl | ((try simp only [Bool.and_eq_true, Bool.or_eq_true, decide_eq_true_eq, Bool.and_eq_false_iff, Bool.or_eq_false_iff, decide_eq_false_iff_not, Bool.not_eq_true', Bool.not_eq_false', Bool.and_eq_false_imp] at *); rw [Bool.eq_iff_iff]; (try simp [*]); (try first | omega | (intros; omega) | (intros; exfalso; omega) | (simp_all; done) | (simp_all; omega))))
theorem k133 (x : Bl) (h : x.rd F M) (hold : Old F M) : CallsA Tryz.prog 133 [x.val] F M (Same F M (.bool (!blockB x))) := by
  refine callsA_of hm Tryz.func133 e133 (Nat.le_of_ble_eq_true rfl) ?_
  simp only [c133, go_sem]
  intro r1 hF1 hM1
  simp only [go_sem, reduceIte, Nat.reduceEqDiff]
  refine callK_same (k134 F _ x (RdG.new h hF1 hM1) (hold.upd hF1)) ?_
  simp only [go_sem]
  exact endK_drop hM1 (endK_same ⟨rfl, rfl, rfl⟩)
theorem k106 (a : Option Addr) (c : Nat) (m : List Bl) (h : RdG 2 Bl.cs F M (.slice a m.length c) m) (hb : ∀ x ∈ m, x.rd F M) (hold : Old F M) :
    CallsA Tryz.prog 106 [.slice a m.length c] F M (Same F M (.bool (memoryB m))) := by
  refine callsA_of hm Tryz.func106 e106 (Nat.le_of_ble_eq_true rfl) ?_
  have kc := k132 F M a c m _ [] (fun v => !blockB v) h (fun v hv => k133 _ _ v (hb v hv) hold)
  have e9 : (m.any fun v => !blockB v) = !m.all blockB := (List.not_all_eq_any_not).symm
  rw [e9] at kc
  by_cases h1 : (m.length : Int) < 1
  · have : ¬ 1 ≤ m.length := by omega
    simp only [c106, go_sem, reduceCtorEq, reduceIte, Nat.reduceEqDiff, h1]
    exact endK_same ⟨by simp [memoryB, this], rfl, rfl⟩
  by_cases h2 : (33 : Int) < m.length
  · have : ¬ m.length ≤ 33 := by omega
    simp only [c106, go_sem, reduceCtorEq, reduceIte, Nat.reduceEqDiff, h1, h2]
    exact endK_same ⟨by simp [memoryB, this], rfl, rfl⟩
  have h1' : 1 ≤ m.length := by omega
  have h2' : m.length ≤ 33 := by omega
  have h0 : (0 : Int) < m.length := by omega
  obtain ⟨b, o, cs, rfl, hb', rows⟩ := h.rows (by omega)
  obtain ⟨d1, d2⟩ := rows 0 (by omega)
  have d3 := (Bl.row d2).1
  have es : stAt m 0 = m[0].st := by unfold stAt; rw [List.getElem?_eq_getElem (by omega)]; rfl
  rw [Nat.zero_mul, Nat.add_zero] at d3
  have t0 : Int.toNat 0 = 0 := rfl
  by_cases h3 : m[0].st = 0
  · simp only [c106, go_sem, reduceCtorEq, reduceIte, Nat.reduceEqDiff, Int.reduceLE, h1, h2, h0, hb', d3, h3, t0, Nat.zero_mul, Nat.add_zero]
    refine callK_same kc ?_
    simp only [go_sem]
    exact endK_same ⟨by simp [memoryB, h1', h2', es, h3], rfl, rfl⟩
  · simp only [c106, go_sem, reduceCtorEq, reduceIte, Nat.reduceEqDiff, Int.reduceLE, h1, h2, h0, hb', d3, h3, t0, Nat.zero_mul, Nat.add_zero]
    exact endK_same ⟨by simp [memoryB, es, h3], rfl, rfl⟩
theorem k71 (a : Option Addr) (c : Nat) (l : List By) (h : RdG 5 By.cs F M (.slice a l.length c) l) : CallsA Tryz.prog 71 [.slice a l.length c] F M (Same F M (.bool (l.all byteB))) := by
  refine callsA_of hm Tryz.func71 e71 (Nat.le_of_ble_eq_true rfl) ?_
  have hl := h.1
  simp only [c71, go_sem]
  refine loop_up l.length (fun i σ F' M' => F = F' ∧ M = M' ∧ Ax.look σ 3 = some (.int .i64 i) ∧ (l.take i).all byteB = true) ⟨rfl, rfl, (by simp only [go_sem, *] <;> rfl), rfl⟩ ?_
  rintro i σ F' M' hi hs ⟨rfl, rfl, h3, he⟩
  have s0 := hs 0 rfl
  simp only [go_sem, reduceCtorEq] at s0
  clear hs
  by_cases hil : (i : Int) < l.length
  rotate_left
  · simp only [go_sem, reduceCtorEq, reduceIte, Nat.reduceEqDiff, s0, h3, hil]
    rw [List.take_of_length_le (by omega)] at he
    exact endK_same ⟨by rw [he], rfl, rfl⟩
  have hi0 : (0 : Int) ≤ i := by omega
  have hi1 : i < l.length := by omega
  have ei : IntKind.i64.wrap ((i : Int) + 1) = i + 1 := w64 (by omega) (by omega)
  obtain ⟨b, o, cs, rfl, hb, d1, d2⟩ := RdG.at h hi1
  have t1 := List.take_succ_eq_append_getElem hi1
  have hno : byteB l[i] = false → l.all byteB = false := fun h => by
    rw [List.all_eq_false]; exact ⟨_, List.getElem_mem hi1, by simp [h]⟩
  generalize l[i] = x at *
  simp only [go_sem, reduceCtorEq, reduceIte, Nat.reduceEqDiff, s0, h3, hil, hi0, Int.toNat_natCast, hb, d1, d2]
  refine callK_same (k113 _ _ x) ?_
  cases hx : byteB x
  · simp only [go_sem]
    exact endK_same ⟨by rw [hno hx], rfl, rfl⟩
  · simp only [go_sem, reduceIte, Nat.reduceEqDiff, h3, ei]
    exact ⟨hi1, rfl, rfl, (by simp only [go_sem, *] <;> rfl), by rw [t1, List.all_append, he]; simp [hx]⟩
theorem k31 (a : Option Addr) (c : Nat) (m : List Bl) (h : RdG 2 Bl.cs F M (.slice a m.length c) m) (hb : ∀ x ∈ m, x.rd F M) :
    CallsA Tryz.prog 31 [.slice a m.length c] F M (Same F M (.bool (memoryB m))) := by
  refine callsA_of hm Tryz.func31 e31 (Nat.le_of_ble_eq_true rfl) ?_
  have hl := h.1
  cases h1 : (decide (1 ≤ (m.length : Int)) && decide ((m.length : Int) ≤ 33))
  · have e : memoryB m = false := by
      have : ¬ (1 ≤ m.length ∧ m.length ≤ 33) := by simp at h1; omega
      unfold memoryB
      have e : (decide (1 ≤ m.length) && decide (m.length ≤ 33)) = false := by simp; omega
      rw [e]; rfl
    simp only [c31, go_sem, reduceCtorEq]
    refine callK_same (k33 _ _ _ _ _) ?_
    simp only [go_sem, reduceIte, Nat.reduceEqDiff, h1]
    exact endK_same ⟨by rw [e], rfl, rfl⟩
  have h1' : 1 ≤ m.length ∧ m.length ≤ 33 := by simp at h1; omega
  have h0 : (0 : Int) < m.length := by omega
  obtain ⟨b, o, cs, rfl, hb', rows⟩ := h.rows (by omega)
  have d3 := (Bl.row (rows 0 (by omega)).2).1
  have es : stAt m 0 = m[0].st := by unfold stAt; rw [List.getElem?_eq_getElem (by omega)]; rfl
  rw [Nat.zero_mul, Nat.add_zero] at d3
  have t0 : Int.toNat 0 = 0 := rfl
  by_cases h3 : m[0].st = 0
  rotate_left
  · simp only [c31, go_sem, reduceCtorEq]
    refine callK_same (k33 _ _ _ _ _) ?_
    simp only [go_sem, reduceCtorEq, reduceIte, Nat.reduceEqDiff, Int.reduceLE, h1, h0, hb', d3, h3, t0, Nat.zero_mul, Nat.add_zero]
    exact endK_same ⟨by simp [memoryB, es, h3], rfl, rfl⟩
  have hR : memoryB m = m.all blockB := by simp [memoryB, h1'.1, h1'.2, es, h3]
  simp only [c31, go_sem, reduceCtorEq]
  refine callK_same (k33 _ _ _ _ _) ?_
  simp only [go_sem, reduceCtorEq, reduceIte, Nat.reduceEqDiff, Int.reduceLE, h1, h0, hb', d3, h3, t0, Nat.zero_mul, Nat.add_zero]
  clear d3 h3 es
  refine loop_up m.length (fun i σ F' M' => F = F' ∧ M = M' ∧ Ax.look σ 3 = some (.int .i64 i) ∧ (m.take i).all blockB = true) ⟨rfl, rfl, (by simp only [go_sem, *] <;> rfl), rfl⟩ ?_
  rintro i σ F' M' hi hs ⟨rfl, rfl, h3, he⟩
  have s0 := hs 0 rfl
  simp only [go_sem, reduceCtorEq] at s0
  clear hs
  by_cases hil : (i : Int) < m.length
  rotate_left
  · simp only [go_sem, reduceCtorEq, reduceIte, Nat.reduceEqDiff, s0, h3, hil]
    rw [List.take_of_length_le (by omega)] at he
    exact endK_same ⟨by rw [hR, he], rfl, rfl⟩
  have hi0 : (0 : Int) ≤ i := by omega
  have hi1 : i < m.length := by omega
  have ei : IntKind.i64.wrap ((i : Int) + 1) = i + 1 := w64 (by omega) (by omega)
  obtain ⟨d1, d2⟩ := rows i hi1
  obtain ⟨d3, d4⟩ := Bl.row d2
  have t1 := List.take_succ_eq_append_getElem hi1
  have hno : blockB m[i] = false → m.all blockB = false := fun h => by
    rw [List.all_eq_false]; exact ⟨_, List.getElem_mem hi1, by simp [h]⟩
  have hx := hb m[i] (List.getElem_mem hi1)
  have kb := k71 F M m[i].lA m[i].lC m[i].l hx
  clear rows h hb hx
  generalize m[i] = x at *
  have fin : (blockB x = false → endK F M (Same F M (.bool (memoryB m))) (.bool false)) := fun hx => endK_same ⟨by rw [hR, hno hx], rfl, rfl⟩
  clear hno
  have ez : decide ((0 : Int) < x.l.length) = !decide (x.l.length = 0) := by
    by_cases h : x.l.length = 0
    · simp [h]
    · have : 0 < x.l.length := by omega
      simp [h, this]
  have e32 : decide ((32 : Int) < x.l.length) = !decide (x.l.length ≤ 32) := by
    by_cases h : x.l.length ≤ 32
    · have : ¬ (32 : Int) < x.l.length := by omega
      simp [h, this]
    · have : (32 : Int) < x.l.length := by omega
      simp [h, this]
  obtain ⟨z, hz⟩ : ∃ z, z = decide (x.l.length = 0) := ⟨_, rfl⟩
  obtain ⟨y, hy⟩ : ∃ y, y = decide (x.l.length ≤ 32) := ⟨_, rfl⟩
  have hB : blockB x = ((decide (0 ≤ x.st) && decide (x.st ≤ 3)) && y && (decide (x.st = 1) || z) && x.l.all byteB) := by rw [hy, hz]; rfl
  rw [← hz] at ez
  rw [← hy] at e32
  clear hz hy
  have yes : blockB x = true → ∀ σ', Ax.look σ' 3 = some (.int .i64 ((i + 1 : Nat) : Int)) → Nxt (fun i σ F' M' => F = F' ∧ M = M' ∧ Ax.look σ 3 = some (.int .i64 i) ∧ (m.take i).all blockB = true) m.length i σ' F M := fun hx σ' h3 => ⟨hi1, rfl, rfl, h3, by rw [t1, List.all_append, he]; simp [hx]⟩
  rw [hB] at fin yes
  clear hB t1 he hR
  repeat' first
    | simp only [go_sem, reduceCtorEq, reduceIte, Nat.reduceEqDiff, Int.reduceLE, Int.toNat_natCast, Nat.add_zero, *]
    | (with_reducible first | apply cD | apply cN | apply cB | apply cO | apply tD | apply fD | apply tN | apply fN | apply tB | apply fB | apply tO | apply fO) <;> intro hc
    | (intro rx hFx hMx; (try simp only [upd_none2] at hMx))
    | with_reducible refine callK_same (k32 _ _ _ _) ?_
    | with_reducible refine callK_same kb ?_
    | (refine fin ?_; clear fin yes kb; simp [*]; done)
    | (refine yes ?_ _ (by simp only [go_sem, *] <;> rfl); clear fin yes kb; simp [*]; done)
end Go.Proofs.Tryz.K
namespace Go.Ax
open Go
set_option linter.unusedVariables false
set_option linter.unusedSimpArgs false
@[go_sem] theorem Ste.bad2 {s : Ste} : List.take 2 (List.drop 3 s.cs) = Al.cs ⟨s.p, s.w⟩ := rfl
def szAt (sz : List Int) (b : Int) : Int := (sz[b.toNat]?).getD 0
def ptrIn (sz : List Int) (x : By) : Bool := !(decide (x.st = 2) && (decide ((sz.length : Int) ≤ x.b) || decide (szAt sz x.b < x.o)))
def okBlk (nv : Nat) (sz : List Int) (i : Nat) (b : Bl) : Bool :=
  !(decide (b.st = 1) && !decide ((b.l.length : Int) = szAt sz i)) && !((decide (1 ≤ (i : Int)) && decide ((i : Int) ≤ nv)) && !decide (b.st = 1)) && b.l.all (ptrIn sz)
def okAll (nv : Nat) (sz : List Int) (m : List Bl) (n : Nat) : Bool := (List.range n).all fun i => match m[i]? with | some b => okBlk nv sz i b | none => true
def memIn (p : Pg) (m : List Bl) : Bool := memoryB m && decide (m.length = (sizesL p).length) && okAll p.vars.length (sizesL p) m m.length
def inStmts (p : Pg) (n : Int) : Bool := decide (0 ≤ n) && decide (n < p.stmts.length)
def alarmB (p : Pg) (a : Al) : Bool := decide (a = ⟨0, 0⟩) || (inStmts p a.p && (decide (1 ≤ a.w) && decide (a.w ≤ 10)))
def stateB (p : Pg) (s : Ste) : Bool := (decide (0 ≤ s.inp) && decide (s.inp ≤ 400)) && s.next.all (inStmts p) && alarmB p ⟨s.p, s.w⟩ && memIn p s.blocks
theorem okAll_succ {nv : Nat} {sz : List Int} {m : List Bl} {n : Nat} (h : n < m.length) : okAll nv sz m (n + 1) = (okAll nv sz m n && okBlk nv sz n m[n]) := by
  unfold okAll
  rw [List.range_succ, List.all_append]
  simp [List.getElem?_eq_getElem h]
theorem okAll_no {nv : Nat} {sz : List Int} {m : List Bl} {n i : Nat} (hi : i < n) (h : i < m.length) (hb : okBlk nv sz i m[i] = false) : okAll nv sz m n = false := by
  unfold okAll
  rw [List.all_eq_false]
  exact ⟨i, by simpa using hi, by rw [List.getElem?_eq_getElem h]; simp [hb]⟩
theorem okBlk_null {nv : Nat} {sz : List Int} {m : List Bl} (h : memoryB m = true) (hl : 0 < m.length) : okBlk nv sz 0 m[0] = true := by
  simp only [memoryB, Bool.and_eq_true, decide_eq_true_eq] at h
  have hs : m[0].st = 0 := by
    have := h.1.2
    unfold stAt at this
    rw [List.getElem?_eq_getElem hl] at this
    exact this
  have hb := List.all_eq_true.1 h.2 _ (List.getElem_mem hl)
  simp only [blockB, hs, Bool.and_eq_true, Bool.or_eq_true, decide_eq_true_eq] at hb
  have h0 : m[0].l = [] := by
    have := hb.1.2
    rcases this with h | h
    · omega
    · exact List.eq_nil_of_length_eq_zero h
  simp [okBlk, hs, h0]
theorem szAt_get {sz : List Int} {i : Nat} (h : i < sz.length) : szAt sz i = sz[i] := by
  unfold szAt
  rw [Int.toNat_natCast, List.getElem?_eq_getElem h]; rfl
theorem byteB_part {x : By} (h : byteB x = true) (h2 : x.st = 2) : 1 ≤ x.b ∧ x.b ≤ 32 ∧ 0 ≤ x.o ∧ x.o ≤ 32 ∧ 0 ≤ x.i ∧ x.i ≤ 3 ∧ x.n = 0 := by
  simp [byteB, h2] at h
  omega
theorem memoryB_block {m : List Bl} (h : memoryB m = true) {b : Bl} (hb : b ∈ m) : blockB b = true := by
  simp only [memoryB, Bool.and_eq_true] at h
  exact List.all_eq_true.1 h.2 _ hb
theorem blockB_bytes {b : Bl} (h : blockB b = true) : ∀ x ∈ b.l, byteB x = true := by
  simp only [blockB, Bool.and_eq_true] at h
  exact List.all_eq_true.1 h.2
end Go.Ax
namespace Go.Proofs.Tryz.K
open Go Go.Ax Go.Proofs.Tryz.S
set_option maxRecDepth 100000
set_option linter.unusedSimpArgs false
set_option linter.unusedVariables false
set_option maxHeartbeats 4000000
variable (F : Fz) (M : Hp)
theorem k136 (x : By) (r3 : Nat) (e3 : Ent) (sa : Option Addr) (sc : Nat) (sz : List Int) (h3 : M r3 = some e3) (c3 : e3.cells = [.slice sa sz.length sc]) (hs : intR F M sa sc sz) (hx : byteB x = true) :
    CallsA Tryz.prog 136 [x.val, .pointer (some ⟨r3, 0, none⟩)] F M (Same F M (.bool (!ptrIn sz x))) := by
  refine callsA_of hm Tryz.func136 e136 (Nat.le_of_ble_eq_true rfl) ?_
  have b3 := blk_M (F := F) h3
  rw [c3] at b3
  by_cases h2 : x.st = 2
  rotate_left
  · simp only [c136, go_sem]
    repeat' first
    | simp only [go_sem, reduceCtorEq, reduceIte, Nat.reduceEqDiff, Nat.add_zero, *]
    | (with_reducible first | apply cD | apply cN | apply cB | apply cO | apply tD | apply fD | apply tN | apply fN | apply tB | apply fB | apply tO | apply fO) <;> intro hc
    | (intro rx hFx hMx; (try simp only [upd_none2] at hMx))
    all_goals (refine endK_keep (M := M) (by repeat' first | exact Keep.refl _ | (refine Keep.new ?_ (by simp only [*]))) ⟨?_, rfl, rfl⟩)
    all_goals simp [ptrIn, h2]
  obtain ⟨p1, p2, p3, p4, _⟩ := byteB_part hx h2
  by_cases hl : (sz.length : Int) ≤ x.b
  · simp only [c136, go_sem]
    repeat' first
    | simp only [go_sem, reduceCtorEq, reduceIte, Nat.reduceEqDiff, blk_upd_known, Option.isSome_some, Nat.add_zero, *]
    | (with_reducible first | apply cD | apply cN | apply cB | apply cO | apply tD | apply fD | apply tN | apply fN | apply tB | apply fB | apply tO | apply fO) <;> intro hc
    | (intro rx hFx hMx; (try simp only [upd_none2] at hMx))
    all_goals (refine endK_keep (M := M) (by repeat' first | exact Keep.refl _ | (refine Keep.new ?_ (by simp only [*]))) ⟨?_, rfl, rfl⟩)
    all_goals simp [ptrIn, h2, hl]
  obtain ⟨i, hi⟩ := Int.eq_ofNat_of_zero_le (by omega : 0 ≤ x.b)
  have hil : i < sz.length := by omega
  have hi0 : (0 : Int) ≤ i := by omega
  have hil' : (i : Int) < sz.length := by omega
  have hl' : ¬ (sz.length : Int) ≤ i := by omega
  obtain ⟨b, o, cs, rfl, hb, d1⟩ := int_at hs hil
  have es := szAt_get hil
  generalize sz[i] = q at *
  clear hs
  simp only [c136, go_sem]
  repeat' first
    | simp only [go_sem, reduceCtorEq, reduceIte, Nat.reduceEqDiff, blk_upd_known, Option.isSome_some, Int.toNat_natCast, Nat.add_zero, *]
    | (with_reducible first | apply cD | apply cN | apply cB | apply cO | apply tD | apply fD | apply tN | apply fN | apply tB | apply fB | apply tO | apply fO) <;> intro hc
    | (intro rx hFx hMx; (try simp only [upd_none2] at hMx))
  all_goals (refine endK_keep (M := M) (by repeat' first | exact Keep.refl _ | (refine Keep.new ?_ (by simp only [*]))) ⟨?_, rfl, rfl⟩)
  all_goals simp [ptrIn, *]
theorem k107 (x : Bl) (sa : Option Addr) (sc : Nat) (sz : List Int) (hs : intR F M sa sc sz) (h : x.rd F M) (hb : ∀ y ∈ x.l, byteB y = true) :
    CallsA Tryz.prog 107 [x.val, .slice sa sz.length sc] F M (Same F M (.bool (x.l.all (ptrIn sz)))) := by
  refine callsA_of hm Tryz.func107 e107 (Nat.le_of_ble_eq_true rfl) ?_
  simp only [c107, go_sem]
  intro r2 hF2 hM2
  simp only [go_sem, reduceCtorEq, Nat.reduceEqDiff]
  intro r3 hF3 hM3
  simp only [upd_none2] at hM3
  have s3 := (RdG.new hs hF2 hM2 (e := ⟨x.cs, 54, 2⟩)).new hF3 (by simp only [upd_none2, not_false_eq_true, and_self, *]) (e := ⟨[.slice sa sz.length sc], 24, 1⟩)
  have h3 : RdG 5 By.cs F ((M.upd r2 ⟨x.cs, 54, 2⟩).upd r3 ⟨[.slice sa sz.length sc], 24, 1⟩) (.slice x.lA x.l.length x.lC) x.l := (RdG.new h hF2 hM2).new hF3 (by simp only [upd_none2, not_false_eq_true, and_self, *])
  have kc := k135 F _ x.lA x.lC x.l _ [.pointer (some ⟨r3, 0, none⟩)] (fun v => !ptrIn sz v) h3 (fun v hv => k136 F _ v r3 _ sa sc sz (Hp.upd_same _ _ _) rfl s3 (hb v hv))
  have e9 : (x.l.any fun v => !ptrIn sz v) = !x.l.all (ptrIn sz) := (List.not_all_eq_any_not).symm
  rw [e9] at kc
  clear h3 s3 h hs e9
  repeat' first
    | simp only [go_sem, Nat.reduceEqDiff, blk_upd_known, Option.isSome_some, *]
    | (with_reducible first | apply cD | apply cN | apply cB | apply cO | apply tD | apply fD | apply tN | apply fN | apply tB | apply fB | apply tO | apply fO) <;> intro hc
    | (intro rx hFx hMx; (try simp only [upd_none2] at hMx))
    | with_reducible refine callK_same kc ?_
  all_goals (refine endK_keep (M := M) (by repeat' first | exact Keep.refl _ | (refine Keep.new ?_ (by simp only [*]))) ⟨?_, rfl, rfl⟩)
  simp
theorem k67 (p : Pg) (a : Option Addr) (c : Nat) (m : List Bl) (hp : p.rd F) (hold : Old F M) (h : RdG 2 Bl.cs F M (.slice a m.length c) m) (hb : ∀ x ∈ m, x.rd F M) :
    CallsA Tryz.prog 67 [p.val, .slice a m.length c] F M (Same F M (.bool (memIn p m))) := by
  refine callsA_of hm Tryz.func67 e67 (Nat.le_of_ble_eq_true rfl) ?_
  have hfew := hp.few
  have hsz : (sizesL p).length = 1 + p.vars.length + p.news.length := by simp [sizesL]; omega
  simp only [c67, go_sem]
  intro r2 hF2 hM2
  simp only [go_sem, reduceIte, Nat.reduceEqDiff]
  refine callK_of (k105 F _ p hp (hold.upd hF2)) ?_
  rintro u G M1 hq
  have f2 := (hq.le intC_len (by omega)).2.2.1 _ _ (Hp.upd_same M r2 ⟨p.cs, 28, 7⟩)
  have kp1 : Keep M M1 := (Keep.trans ((Keep.refl M).new hM2) (hq.le intC_len (by omega)).2.2.1)
  obtain ⟨hG, le, kq, oq, aq, cq, rfl, rdq⟩ := hq.le intC_len (by omega)
  rw [hG]
  refine ⟨(fun h => by cases h), ?_⟩
  have old1 := oq (hold.upd hF2)
  clear kq oq le hq hF2 hM2 hG
  have h1 := h.keep kp1 old1
  have hb1 : ∀ x ∈ m, x.rd F M1 := fun x hx => RdG.keep (hb x hx) kp1 old1
  have b2 := blk_M (F := F) f2
  have no : ∀ v : Bool, memIn p m = v → endK F M1 (Same F M (.bool (memIn p m))) (.bool v) := fun v h => endK_keep kp1 ⟨by rw [h], rfl, rfl⟩
  simp only [go_sem, reduceCtorEq, Nat.reduceEqDiff]
  refine callK_same (k106 F M1 a c m h1 hb1 old1) ?_
  cases hm : memoryB m
  · simp only [go_sem, reduceIte, Nat.reduceEqDiff]
    exact no _ (by simp [memIn, hm])
  by_cases hl : (m.length : Int) = (sizesL p).length
  rotate_left
  · have : ¬ m.length = (sizesL p).length := by omega
    simp only [go_sem, reduceCtorEq, reduceIte, Nat.reduceEqDiff, hl]
    exact no _ (by simp [memIn, this])
  have hl' : m.length = (sizesL p).length := by omega
  have hR : memIn p m = okAll p.vars.length (sizesL p) m m.length := by simp [memIn, hm, hl']
  simp only [go_sem, reduceCtorEq, reduceIte, Nat.reduceEqDiff, hl]
  refine loop_up m.length (fun i σ' F' M' => F = F' ∧ Keep M1 M' ∧ Old F M' ∧ Ax.look σ' 22 = some (.int .i64 i) ∧ okAll p.vars.length (sizesL p) m i = true) ⟨rfl, Keep.refl _, old1, (by simp only [go_sem, *] <;> rfl), rfl⟩ ?_
  rintro i σ F' M2 hi hs ⟨rfl, kp2, old2, q22, he⟩
  have q2 := hs 2 rfl
  have q5 := hs 5 rfl
  have q20 := hs 20 rfl
  have q21 := hs 21 rfl
  simp only [go_sem, Nat.reduceEqDiff] at q2 q5 q20 q21
  clear hs
  have no2 : ∀ v : Bool, memIn p m = v → ∀ M3, Keep M2 M3 → endK F M3 (Same F M (.bool (memIn p m))) (.bool v) := fun v h M3 kp3 => endK_keep ((kp1.trans kp2).trans kp3) ⟨by rw [h], rfl, rfl⟩
  by_cases hil : (i : Int) < m.length
  rotate_left
  · have hx : i = m.length := by omega
    rw [← hl] at q21
    simp only [go_sem, reduceIte, q21, q22, hil]
    exact no2 _ (by rw [hR, ← hx, he]) _ (Keep.refl _)
  have hi0 : (0 : Int) ≤ i := by omega
  have hi1 : i < m.length := by omega
  have hiz : i < (sizesL p).length := by omega
  have hil2 : (i : Int) < (sizesL p).length := by omega
  have ei : IntKind.i64.wrap ((i : Int) + 1) = i + 1 := w64 (by omega) (by omega)
  obtain ⟨b, o, cs, ea, hb2, d1, d2⟩ := RdG.at (h1.keep kp2 old2) hi1
  have rz2 := rdq.keep kp2 old2
  obtain ⟨b', o', cs', ea', hb2', d3⟩ := int_at rz2 hiz
  have es := szAt_get hiz
  have hx2 : m[i].rd F M2 := RdG.keep (hb1 _ (List.getElem_mem hi1)) kp2 old2
  have hbb := blockB_bytes (memoryB_block hm (List.getElem_mem hi1))
  have hno : okBlk p.vars.length (sizesL p) i m[i] = false → memIn p m = false := fun h => by rw [hR]; exact okAll_no hi1 hi1 h
  have hsucc := okAll_succ (nv := p.vars.length) (sz := sizesL p) hi1
  generalize m[i] = x at *
  have f2' := kp2 _ _ f2
  subst ea'
  clear f2 b2 h1 hb1 h hb
  simp only [go_sem, reduceIte, Nat.reduceEqDiff, Nat.reduceAdd, q20, q21, q22, hil, hil2, ea, hi0, Int.toNat_natCast, hb2, d1, d2]
  intro r7 hF7 hM7
  have n2 := ne_of_none hM7 f2'
  have nb' := ne_of_blk hb2' hF7 hM7
  have kp7 : ∀ e, Keep M2 (M2.upd r7 e) := fun e => (Keep.refl M2).new hM7
  have rz7 := rz2.keep (kp7 ⟨x.cs, 54, 2⟩) (old2.upd hF7)
  have hx7 : x.rd F (M2.upd r7 ⟨x.cs, 54, 2⟩) := RdG.keep hx2 (kp7 _) (old2.upd hF7)
  have kptr := k107 F _ x _ cq (sizesL p) rz7 hx7 hbb
  have b2' := blk_M (F := F) f2'
  generalize (sizesL p)[i] = z at *
  have fin0 : okBlk p.vars.length (sizesL p) i x = false → endK F (M2.upd r7 ⟨x.cs, 54, 2⟩) (Same F M (.bool (memIn p m))) (.bool false) := fun h => no2 _ (hno h) _ (kp7 _)
  have fin1 : okBlk p.vars.length (sizesL p) i x = true → ∀ σ', Ax.look σ' 22 = some (.int .i64 ((i + 1 : Nat) : Int)) → Nxt (fun i σ' F' M' => F = F' ∧ Keep M1 M' ∧ Old F M' ∧ Ax.look σ' 22 = some (.int .i64 i) ∧ okAll p.vars.length (sizesL p) m i = true) m.length i σ' F (M2.upd r7 ⟨x.cs, 54, 2⟩) :=
    fun h σ' e => ⟨hi1, rfl, kp2.trans (kp7 _), old2.upd hF7, e, by rw [hsucc, he, h]; rfl⟩
  have hok : okBlk p.vars.length (sizesL p) i x = (!(decide (x.st = 1) && !decide ((x.l.length : Int) = z)) && !((decide (1 ≤ (i : Int)) && decide ((i : Int) ≤ p.vars.length)) && !decide (x.st = 1)) && x.l.all (ptrIn (sizesL p))) := by
    unfold okBlk; rw [es]
  rw [hok] at fin0 fin1
  clear hsz hl hl' hno hsucc he hok no2 hR es hm hbb rz7 hx7 rz2 rdq kp2 kp1 kp7 old2 old1 hp hx2 no
  repeat' first
    | simp only [go_sem, reduceCtorEq, reduceIte, Nat.reduceEqDiff, Nat.reduceAdd, blk_upd_known, Option.isSome_some, Int.toNat_natCast, Nat.add_zero, *]
    | (with_reducible first | apply cD | apply cN | apply cB | apply cO | apply tD | apply fD | apply tN | apply fN | apply tB | apply fB | apply tO | apply fO) <;> intro hc
    | (intro rx hFx hMx; (try simp only [upd_none2] at hMx))
    | simp only [Hp.upd_upd, setH, go_sem, reduceCtorEq, reduceIte, Nat.reduceEqDiff, Nat.reduceAdd, Nat.reduceLeDiff, Nat.reduceMul, Int.reduceLT, Int.reduceLE, Int.reduceAdd, Int.reduceSub, Int.reduceMul, Int.reduceNeg, Int.reduceToNat, Int.reduceEq, *]
    | with_reducible refine callK_same kptr ?_
    | (refine fin0 ?_; clear fin0 fin1 kptr; simp [*]; done)
    | (refine fin1 ?_ _ (by simp only [go_sem, *] <;> rfl); clear fin0 fin1 kptr; simp [*]; done)
end Go.Proofs.Tryz.K
namespace Go.Proofs.Tryz.K
open Go Go.Ax Go.Proofs.Tryz.S
set_option maxRecDepth 100000
set_option linter.unusedSimpArgs false
set_option linter.unusedVariables false
set_option maxHeartbeats 4000000
variable (F : Fz) (M : Hp)
theorem k65 (p : Pg) (n : Int) (r2 : Nat) (e2 : Ent) (h2 : M r2 = some e2) (c2 : e2.cells = p.cs) :
    CallsA Tryz.prog 65 [.int .i64 n, .pointer (some ⟨r2, 0, none⟩)] F M (Same F M (.bool (inStmts p n))) := by
  refine callsA_of hm Tryz.func65 e65 (Nat.le_of_ble_eq_true rfl) ?_
  have b2 := blk_M (F := F) h2
  rw [c2] at b2
  simp only [c65, go_sem, reduceCtorEq, reduceIte]
  repeat' first
    | simp only [go_sem, reduceCtorEq, reduceIte, Nat.reduceEqDiff, *]
    | (with_reducible first | apply cD | apply cN | apply cB | apply cO | apply tD | apply fD | apply tN | apply fN | apply tB | apply fB | apply tO | apply fO) <;> intro hc
    | (intro rx hFx hMx; (try simp only [upd_none2] at hMx))
  all_goals (refine endK_keep (M := M) (by repeat' first | exact Keep.refl _ | (refine Keep.new ?_ (by simp only [*]))) ⟨?_, rfl, rfl⟩)
  all_goals (refine congrArg Value.bool ?_; first | rfl | ((try simp only [Bool.and_eq_true, Bool.or_eq_true, decide_eq_true_eq, Bool.and_eq_false_iff, Bool.or_eq_false_iff, decide_eq_false_iff_not, Bool.not_eq_true', Bool.not_eq_false', Bool.and_eq_false_imp] at *); rw [Bool.eq_iff_iff]; (try simp [inStmts, *]); (try first | omega | (intros; omega) | (intros; exfalso; omega) | (simp_all; done) | (simp_all; omega))))
theorem k66 (p : Pg) (n : Int) (r2 r5 : Nat) (e2 e5 : Ent) (h2 : M r2 = some e2) (c2 : e2.cells = p.cs) (h5 : M r5 = some e5) (c5 : e5.cells = [.func (.func 65) #[] #[.pointer (some ⟨r2, 0, none⟩)]]) :
    CallsA Tryz.prog 66 [.int .i64 n, .pointer (some ⟨r5, 0, none⟩)] F M (Same F M (.bool (!inStmts p n))) := by
  refine callsA_of hm Tryz.func66 e66 (Nat.le_of_ble_eq_true rfl) ?_
  have b5 := blk_M (F := F) h5
  rw [c5] at b5
  simp only [c66, go_sem, reduceCtorEq, Nat.reduceEqDiff, b5]
  refine callK_same (k65 F M p n r2 e2 h2 c2) ?_
  simp only [go_sem]
  exact endK_same ⟨rfl, rfl, rfl⟩
theorem k28 (p : Pg) (s : Ste) (hp : p.rd F) (hold : Old F M) (hs : s.rd F M) : CallsA Tryz.prog 28 [p.val, s.val] F M (Same F M (.bool (stateB p s))) := by
  refine callsA_of hm Tryz.func28 e28 (Nat.le_of_ble_eq_true rfl) ?_
  simp only [c28, go_sem]
  intro r2 hF2 hM2
  simp only [go_sem, reduceCtorEq, Nat.reduceEqDiff]
  intro r3 hF3 hM3
  simp only [upd_none2] at hM3
  simp only [go_sem, Nat.reduceEqDiff]
  intro r5 hF5 hM5
  simp only [upd_none2] at hM5
  have pl : plainCells [.func (.func 65) #[] #[.pointer (some ⟨r2, 0, none⟩)]] = True := by
    apply eq_true
    intro u hu
    simp only [List.mem_cons, List.not_mem_nil, or_false] at hu
    subst hu; rfl
  simp only [setH, Hp.upd_upd, go_sem, Nat.reduceEqDiff, pl]
  have f2 : (((M.upd r2 ⟨p.cs, 28, 7⟩).upd r3 ⟨s.cs, 46, 5⟩).upd r5 ⟨[.func (.func 65) #[] #[.pointer (some ⟨r2, 0, none⟩)]], 103, 1⟩) r2 = some ⟨p.cs, 28, 7⟩ := by
    simp only [Hp.upd_ne', Hp.upd_same, hM3, hM5, not_false_eq_true]
  have f3 : (((M.upd r2 ⟨p.cs, 28, 7⟩).upd r3 ⟨s.cs, 46, 5⟩).upd r5 ⟨[.func (.func 65) #[] #[.pointer (some ⟨r2, 0, none⟩)]], 103, 1⟩) r3 = some ⟨s.cs, 46, 5⟩ := by
    simp only [Hp.upd_ne', Hp.upd_same, hM5, not_false_eq_true]
  have f5 : (((M.upd r2 ⟨p.cs, 28, 7⟩).upd r3 ⟨s.cs, 46, 5⟩).upd r5 ⟨[.func (.func 65) #[] #[.pointer (some ⟨r2, 0, none⟩)]], 103, 1⟩) r5 = some ⟨[.func (.func 65) #[] #[.pointer (some ⟨r2, 0, none⟩)]], 103, 1⟩ := Hp.upd_same _ _ _
  have kp : Keep M (((M.upd r2 ⟨p.cs, 28, 7⟩).upd r3 ⟨s.cs, 46, 5⟩).upd r5 ⟨[.func (.func 65) #[] #[.pointer (some ⟨r2, 0, none⟩)]], 103, 1⟩) := (by repeat' first | exact Keep.refl _ | (refine Keep.new ?_ (by simp only [*])))
  have old5 : Old F (((M.upd r2 ⟨p.cs, 28, 7⟩).upd r3 ⟨s.cs, 46, 5⟩).upd r5 ⟨[.func (.func 65) #[] #[.pointer (some ⟨r2, 0, none⟩)]], 103, 1⟩) := (by repeat' first | assumption | (refine Old.upd ?_ (by assumption)))
  generalize ((M.upd r2 ⟨p.cs, 28, 7⟩).upd r3 ⟨s.cs, 46, 5⟩).upd r5 ⟨[.func (.func 65) #[] #[.pointer (some ⟨r2, 0, none⟩)]], 103, 1⟩ = M1 at *
  have s1 := hs.keep kp old5
  have b2 := blk_M (F := F) f2
  have b3 := blk_M (F := F) f3
  have b5 := blk_M (F := F) f5
  have kn := k58 F M1 s.nextA s.nextC s.next _ [.pointer (some ⟨r5, 0, none⟩)] (fun v => !inStmts p v) s1.next (fun v hv => k66 F M1 p v r2 r5 _ _ f2 rfl f5 rfl)
  have e9 : (s.next.any fun v => !inStmts p v) = !s.next.all (inStmts p) := (List.not_all_eq_any_not).symm
  rw [e9] at kn
  have k1 := fun n => k65 F M1 p n r2 _ f2 rfl
  have km := k67 F M1 p s.blocksA s.blocksC s.blocks hp old5 s1.blocks s1.bytes
  have eA : decide (Al.mk s.p s.w = ⟨0, 0⟩) = (decide (s.p = 0) && decide (s.w = 0)) := by simp
  clear e9 s1 old5 f2 f3 f5 pl hs hold hp hM2 hM3 hM5 hF2 hF3 hF5
  repeat' first
    | simp only [go_sem, reduceCtorEq, reduceIte, Nat.reduceEqDiff, Nat.reduceAdd, Nat.add_zero, *]
    | (with_reducible first | apply cD | apply cN | apply cB | apply cO | apply tD | apply fD | apply tN | apply fN | apply tB | apply fB | apply tO | apply fO) <;> intro hc
    | (intro rx hFx hMx; (try simp only [upd_none2] at hMx))
    | simp only [Al.fold, go_sem, *]
    | with_reducible refine callK_same kn ?_
    | with_reducible refine callK_same (k1 _) ?_
    | with_reducible refine callK_same km ?_
  all_goals (refine endK_keep kp ⟨?_, rfl, rfl⟩)
  all_goals clear kn k1 km
  all_goals (refine congrArg Value.bool ?_; first | rfl | ((try simp only [Bool.and_eq_true, decide_eq_true_eq, Bool.and_eq_false_iff, decide_eq_false_iff_not] at *); rw [Bool.eq_iff_iff]; (try simp [stateB, alarmB, *]); (try first | omega | (intros; omega) | (intros; exfalso; omega) | (simp_all; done) | (simp_all; omega))))
end Go.Proofs.Tryz.K
namespace Go.Proofs.Tryz.K
open Go Go.Ax Go.Proofs.Tryz.S
set_option maxRecDepth 100000
set_option linter.unusedSimpArgs false
set_option linter.unusedVariables false
set_option maxHeartbeats 4000000
variable (F : Fz) (M : Hp)
def staO (p : Pg) (s : Ste) (F : Fz) (M1 : Hp) (j : Nat) (σ : Env) (F' : Fz) (M' : Hp) : Prop :=
  F = F' ∧ Keep M1 M' ∧ Old F M' ∧ Ax.look σ 6 = some (.int .i64 ((j + 1 : Nat) : Int)) ∧ okAll p.vars.length (sizesL p) s.blocks (j + 1) = true
def staI (p : Pg) (x : Bl) (F : Fz) (M2 : Hp) (k : Nat) (σ : Env) (F' : Fz) (M' : Hp) : Prop :=
  F = F' ∧ Keep M2 M' ∧ Old F M' ∧ Ax.look σ 8 = some (.int .i64 k) ∧ (x.l.take k).all (ptrIn (sizesL p)) = true
def staN (p : Pg) (s : Ste) (F : Fz) (M1 : Hp) (k : Nat) (σ : Env) (F' : Fz) (M' : Hp) : Prop :=
  F = F' ∧ M1 = M' ∧ Ax.look σ 10 = some (.int .i64 k) ∧ (s.next.take k).all (inStmts p) = true
theorem k8 (p : Pg) (s : Ste) (hp : p.rd F) (hold : Old F M) (hs : s.rd F M) : CallsA Tryz.prog 8 [p.val, s.val] F M (Same F M (.bool (stateB p s))) := by
  refine callsA_of hm Tryz.func8 e8 (Nat.le_of_ble_eq_true rfl) ?_
  have hfew := hp.few
  have hsz : (sizesL p).length = 1 + p.vars.length + p.news.length := by simp [sizesL]; omega
  have ew : IntKind.i64.wrap ((p.stmts.length : Int) - 1) = p.stmts.length - 1 := w64 (by omega) (by omega)
  have hin : ∀ n : Int, (decide (0 ≤ n) && decide (n ≤ (p.stmts.length : Int) - 1)) = inStmts p n := fun n => by
    unfold inStmts
    congr 1
    exact decide_eq_decide.2 (by omega)
  simp only [c8, go_sem]
  intro r2 hF2 hM2
  simp only [go_sem, reduceCtorEq, Nat.reduceEqDiff]
  intro r3 hF3 hM3
  simp only [upd_none2] at hM3
  simp only [go_sem, reduceIte, Nat.reduceEqDiff, hM3]
  refine callK_of (k30 F _ p hp (by repeat' first | assumption | (refine Old.upd ?_ (by assumption)))) ?_
  rintro u G M1 hq
  have f2 := (hq.le intC_len (by omega)).2.2.1 r2 ⟨p.cs, 28, 7⟩ (by simp only [Hp.upd_ne', Hp.upd_same, hM3, not_false_eq_true])
  have f3 := (hq.le intC_len (by omega)).2.2.1 r3 ⟨s.cs, 46, 5⟩ (Hp.upd_same _ _ _)
  have kp1 : Keep M M1 := Keep.trans (by repeat' first | exact Keep.refl _ | (refine Keep.new ?_ (by simp only [*]))) (hq.le intC_len (by omega)).2.2.1
  obtain ⟨hG, le, kq, oq, aq, cq, rfl, rdq⟩ := hq.le intC_len (by omega)
  rw [hG]
  refine ⟨(fun h => by cases h), ?_⟩
  have old1 : Old F M1 := oq (by repeat' first | assumption | (refine Old.upd ?_ (by assumption)))
  clear kq oq le hq hF2 hM2 hG hF3 hM3
  have s1 := hs.keep kp1 old1
  clear hs
  have b2 := blk_M (F := F) f2
  have b3 := blk_M (F := F) f3
  have no : ∀ v : Bool, stateB p s = v → ∀ M', Keep M1 M' → endK F M' (Same F M (.bool (stateB p s))) (.bool v) := fun v h M' k => endK_keep (kp1.trans k) ⟨by rw [h], rfl, rfl⟩
  simp only [go_sem, Nat.reduceEqDiff, b3]
  refine callK_same (k31 F M1 s.blocksA s.blocksC s.blocks s1.blocks s1.bytes) ?_
  cases hm : memoryB s.blocks
  · simp only [go_sem, reduceIte, Nat.reduceEqDiff]
    exact no _ (by simp [stateB, memIn, hm]) _ (Keep.refl _)
  by_cases hl : (s.blocks.length : Int) = (sizesL p).length
  rotate_left
  · have : ¬ s.blocks.length = (sizesL p).length := by omega
    simp only [go_sem, reduceCtorEq, reduceIte, Nat.reduceEqDiff, b3, hl]
    exact no _ (by simp [stateB, memIn, this]) _ (Keep.refl _)
  have hl' : s.blocks.length = (sizesL p).length := by omega
  simp only [go_sem, reduceCtorEq, reduceIte, Nat.reduceEqDiff, b3, hl]
  refine callK_same (k32 F M1 s.inp 400) ?_
  cases hi4 : (decide (0 ≤ s.inp) && decide (s.inp ≤ 400))
  · simp only [go_sem, reduceCtorEq, reduceIte, Nat.reduceEqDiff]
    exact no _ (by simp [stateB, hi4]) _ (Keep.refl _)
  have hR : stateB p s = (s.next.all (inStmts p) && alarmB p ⟨s.p, s.w⟩ && okAll p.vars.length (sizesL p) s.blocks s.blocks.length) := by
    simp [stateB, memIn, hm, hl', hi4]
  have hnull := okBlk_null (nv := p.vars.length) (sz := sizesL p) hm (by omega)
  have h01 : okAll p.vars.length (sizesL p) s.blocks (0 + 1) = true := by rw [okAll_succ (by omega), hnull]; rfl
  simp only [go_sem, reduceCtorEq, reduceIte, Nat.reduceEqDiff]
  refine loop_up (s.blocks.length - 1) (staO p s F M1) ⟨rfl, Keep.refl _, old1, (by simp only [go_sem, *] <;> rfl), h01⟩ ?_
  clear h01 hnull
  rintro j σ F' M2 hj hs ⟨rfl, kp2, old2, q6, he⟩
  have q2 := hs 2 rfl
  have q3 := hs 3 rfl
  have q5 := hs 5 rfl
  simp only [go_sem, Nat.reduceEqDiff] at q2 q3 q5
  clear hs
  have b2' := blk_M (F := F) (kp2 _ _ f2)
  have b3' := blk_M (F := F) (kp2 _ _ f3)
  have ej : IntKind.i64.wrap (((j + 1 : Nat) : Int) + 1) = ((j + 1 + 1 : Nat) : Int) := w64 (by omega) (by omega)
  by_cases hil : ((j + 1 : Nat) : Int) < (sizesL p).length
  · have hi0 : (0 : Int) ≤ ((j + 1 : Nat) : Int) := by omega
    have hi1 : j + 1 < s.blocks.length := by omega
    have hiz : j + 1 < (sizesL p).length := by omega
    have hil2 : ((j + 1 : Nat) : Int) < s.blocks.length := by omega
    have hj1 : j < s.blocks.length - 1 := by omega
    obtain ⟨b, o, cs, ea, hb2, d1, d2⟩ := RdG.at (s1.blocks.keep kp2 old2) hi1
    have rz2 := rdq.keep kp2 old2
    obtain ⟨b', o', cs', ea', hb2', d3⟩ := int_at rz2 hiz
    have es := szAt_get hiz
    have hx2 : (s.blocks[j + 1]).rd F M2 := RdG.keep (s1.bytes _ (List.getElem_mem hi1)) kp2 old2
    have hbb := blockB_bytes (memoryB_block hm (List.getElem_mem hi1))
    have hno : okBlk p.vars.length (sizesL p) (j + 1) s.blocks[j + 1] = false → stateB p s = false := fun h => by rw [hR, okAll_no hi1 hi1 h, Bool.and_false]
    have hsucc := okAll_succ (nv := p.vars.length) (sz := sizesL p) hi1
    generalize s.blocks[j + 1] = x at *
    generalize (sizesL p)[j + 1] = z at *
    have hok : okBlk p.vars.length (sizesL p) (j + 1) x = (!(decide (x.st = 1) && !decide ((x.l.length : Int) = z)) && !((decide (1 ≤ ((j + 1 : Nat) : Int)) && decide (((j + 1 : Nat) : Int) ≤ p.vars.length)) && !decide (x.st = 1)) && x.l.all (ptrIn (sizesL p))) := by
      unfold okBlk; rw [es]
    have hj11 : (1 : Int) ≤ ((j + 1 : Nat) : Int) := by omega
    generalize hJ : ((j + 1 : Nat) : Int) = J at *
    have hJn : J.toNat = j + 1 := by omega
    simp only [go_sem, reduceIte, Nat.reduceEqDiff, Nat.reduceAdd, q3, q5, q6, hil, hil2, b3', ea, hi0, hJn, hb2, d1, d2]
    intro r7 hF7 hM7
    have n2 := ne_of_none hM7 (kp2 _ _ f2)
    have n3 := ne_of_none hM7 (kp2 _ _ f3)
    have nb' := ne_of_blk hb2' hF7 hM7
    have kp7 : ∀ e, Keep M2 (M2.upd r7 e) := fun e => (Keep.refl M2).new hM7
    have old7 : ∀ e, Old F (M2.upd r7 e) := fun e => old2.upd hF7
    have fin0 : okBlk p.vars.length (sizesL p) (j + 1) x = false → ∀ M', Keep M2 M' → endK F M' (Same F M (.bool (stateB p s))) (.bool false) := fun h M' k => no _ (hno h) _ (kp2.trans k)
    have fin1 : okBlk p.vars.length (sizesL p) (j + 1) x = true → ∀ σ' M', Keep M2 M' → Old F M' → Ax.look σ' 6 = some (.int .i64 ((j + 1 + 1 : Nat) : Int)) → Nxt (staO p s F M1) (s.blocks.length - 1) j σ' F M' :=
      fun h σ' M' k o e => ⟨hj1, rfl, kp2.trans k, o, e, by rw [hsucc, he, h]; rfl⟩
    have hf7 : ∀ e, (M2.upd r7 e) r7 = some e := fun e => Hp.upd_same _ _ _
    have hf2 : ∀ e, (M2.upd r7 e) r2 = some ⟨p.cs, 28, 7⟩ := fun e => by rw [Hp.upd_ne' n2.1]; exact kp2 _ _ f2
    have hf3 : ∀ e, (M2.upd r7 e) r3 = some ⟨s.cs, 46, 5⟩ := fun e => by rw [Hp.upd_ne' n3.1]; exact kp2 _ _ f3
    rw [hok] at fin0 fin1
    subst ea'
    have hsub : blk F M2 b' = some cs' := hb2'
    clear hno hsucc he hok hR es no hsz hl hl' hm rdq f2 f3 b2 b3 kp1 hin hJ hi4 old1
    repeat' first
    | simp only [go_sem, reduceCtorEq, reduceIte, Nat.reduceEqDiff, Nat.reduceAdd, blk_upd_known, Option.isSome_some, Nat.add_zero, *]
    | (with_reducible first | apply cD | apply cN | apply cB | apply cO | apply tD | apply fD | apply tN | apply fN | apply tB | apply fB | apply tO | apply fO) <;> intro hc
    | (intro rx hFx hMx; (try simp only [upd_none2] at hMx))
      | simp only [Hp.upd_upd, setH, go_sem, reduceCtorEq, reduceIte, Nat.reduceEqDiff, Nat.reduceAdd, Nat.reduceLeDiff, Nat.reduceMul, Int.reduceLT, Int.reduceLE, Int.reduceAdd, Int.reduceSub, Int.reduceMul, Int.reduceNeg, Int.reduceToNat, Int.reduceEq, *]
      | (refine fin0 ?_ _ (kp7 _); clear fin0 fin1; simp [*]; done)
    all_goals
      refine loop_up x.l.length (staI p x F (M2.upd r7 ⟨x.cs, 54, 2⟩)) ⟨rfl, Keep.refl _, old7 _, (by simp only [go_sem, *] <;> rfl), rfl⟩ ?_
      rintro k σ3 F' M3 hk hs ⟨rfl, kp3, old3, q8, he3⟩
      have t2 := hs 2 rfl
      have t3 := hs 3 rfl
      have t5 := hs 5 rfl
      have t6 := hs 6 rfl
      have t7 := hs 7 rfl
      simp only [go_sem, Nat.reduceEqDiff, q2, q3, q5, q6] at t2 t3 t5 t6 t7
      clear hs
      have b7 := blk_M (F := F) (kp3 _ _ (hf7 _))
      have b2'' := blk_M (F := F) (kp3 _ _ (hf2 _))
      have b3'' := blk_M (F := F) (kp3 _ _ (hf3 _))
      have kp23 := (kp7 ⟨x.cs, 54, 2⟩).trans kp3
      by_cases hkl : (k : Int) < x.l.length
      · have hk0 : (0 : Int) ≤ k := by omega
        have hk1 : k < x.l.length := by omega
        have rx3 : RdG 5 By.cs F M3 (.slice x.lA x.l.length x.lC) x.l := RdG.keep hx2 kp23 old3
        have hxl := rx3.1
        have ek : IntKind.i64.wrap ((k : Int) + 1) = k + 1 := w64 (by omega) (by omega)
        obtain ⟨b4, o4, cs4, ea4, hb4, e1, e2⟩ := RdG.at rx3 hk1
        have t1 := List.take_succ_eq_append_getElem hk1
        have hbad : ptrIn (sizesL p) x.l[k] = false → (x.l.all (ptrIn (sizesL p))) = false := fun h => by
          rw [List.all_eq_false]; exact ⟨_, List.getElem_mem hk1, by simp [h]⟩
        have hyb := hbb _ (List.getElem_mem hk1)
        generalize x.l[k] = y at *
        simp only [go_sem, reduceIte, Nat.reduceEqDiff, Nat.reduceAdd, t7, q8, hkl, hk0, b7, ea4, Int.toNat_natCast, hb4, e1, e2]
        intro r9 hF9 hM9
        have kp9 : ∀ e, Keep M3 (M3.upd r9 e) := fun e => (Keep.refl M3).new hM9
        have m7 := ne_of_none hM9 (kp3 _ _ (hf7 _))
        have no4 := ne_of_blk (blk_keep hsub kp23 old3) hF9 hM9
        have hb3' := blk_keep hsub kp23 old3
        have fin2 : ptrIn (sizesL p) y = true → ∀ σ', Ax.look σ' 8 = some (.int .i64 ((k + 1 : Nat) : Int)) → Nxt (staI p x F (M2.upd r7 ⟨x.cs, 54, 2⟩)) x.l.length k σ' F (M3.upd r9 ⟨y.cs, 83, 5⟩) :=
          fun h σ' e => ⟨hk1, rfl, kp3.trans (kp9 _), old3.upd hF9, e, by rw [t1, List.all_append, he3]; simp [h]⟩
        have fin3 : ptrIn (sizesL p) y = false → endK F (M3.upd r9 ⟨y.cs, 83, 5⟩) (Same F M (.bool (stateB p s))) (.bool false) := fun h => by
          refine fin0 ?_ _ (kp23.trans (kp9 _))
          rw [hbad h, Bool.and_false]
        clear fin0 fin1
        by_cases h2 : y.st = 2
        rotate_left
        · simp only [Hp.upd_upd, setH, go_sem, reduceCtorEq, reduceIte, Nat.reduceEqDiff, Nat.reduceAdd, q8, h2, ek]
          exact fin2 (by simp [ptrIn, h2]) _ (by simp only [go_sem, *] <;> rfl)
        obtain ⟨p1, p2, p3, p4, _⟩ := byteB_part hyb h2
        by_cases hyl : ((sizesL p).length : Int) ≤ y.b
        · simp only [Hp.upd_upd, setH, go_sem, reduceIte, Nat.reduceEqDiff, Nat.reduceAdd, t5, h2, hyl]
          exact fin3 (by simp [ptrIn, h2, hyl])
        obtain ⟨w, hw⟩ := Int.eq_ofNat_of_zero_le (by omega : 0 ≤ y.b)
        have hwl : w < (sizesL p).length := by omega
        have hw0 : (0 : Int) ≤ w := by omega
        have hwl' : (w : Int) < (sizesL p).length := by omega
        have hyl' : ¬ ((sizesL p).length : Int) ≤ w := by omega
        have rz3 := rz2.keep kp23 old3
        obtain ⟨b5, o5, cs5, ea5, hb5, d5⟩ := int_at rz3 hwl
        cases ea5
        have es5 := szAt_get hwl
        generalize (sizesL p)[w] = z5 at *
        have n5 := ne_of_blk hb5 hF9 hM9
        by_cases hyo : z5 < y.o
        · simp only [Hp.upd_upd, setH, go_sem, reduceCtorEq, reduceIte, Nat.reduceEqDiff, Nat.reduceAdd, t5, h2, hyl', hw, hw0, hwl', Int.toNat_natCast, n5, hb5, d5, hyo]
          exact fin3 (by simp [ptrIn, h2, hw, es5, hyo])
        · simp only [Hp.upd_upd, setH, go_sem, reduceCtorEq, reduceIte, Nat.reduceEqDiff, Nat.reduceAdd, t5, q8, h2, hyl', hw, hw0, hwl', Int.toNat_natCast, n5, hb5, d5, hyo, ek]
          exact fin2 (by simp [ptrIn, h2, hw, es5, hyo]; omega) _ (by simp only [go_sem, *] <;> rfl)
      · have hall : x.l.all (ptrIn (sizesL p)) = true := by rw [List.take_of_length_le (by omega)] at he3; exact he3
        simp only [go_sem, reduceIte, Nat.reduceEqDiff, t6, t7, q8, hkl, b7, ej]
        exact fin1 (by clear fin0 fin1; simp [*]) _ _ kp23 old3 (by simp only [go_sem, *] <;> rfl)
  have hjl : j + 1 = s.blocks.length := by omega
  rw [hjl] at he
  rw [he, Bool.and_true] at hR
  have sn := s1.next.keep kp2 old2
  have hnl := sn.1
  simp only [go_sem, reduceIte, Nat.reduceEqDiff, q5, q6, hil]
  refine loop_up s.next.length (staN p s F M2) ⟨rfl, rfl, (by simp only [go_sem, *] <;> rfl), rfl⟩ ?_
  rintro k σ3 F' M3 hk hs ⟨rfl, rfl, q10, he3⟩
  have t2 := hs 2 rfl
  have t3 := hs 3 rfl
  simp only [go_sem, Nat.reduceEqDiff, q2, q3] at t2 t3
  clear hs
  by_cases hkl : (k : Int) < s.next.length
  · have hk0 : (0 : Int) ≤ k := by omega
    have hk1 : k < s.next.length := by omega
    have ek : IntKind.i64.wrap ((k : Int) + 1) = k + 1 := w64 (by omega) (by omega)
    obtain ⟨b4, o4, cs4, ea4, hb4, e1⟩ := int_at sn hk1
    have t1 := List.take_succ_eq_append_getElem hk1
    have hbad : inStmts p s.next[k] = false → stateB p s = false := fun h => by
      have : s.next.all (inStmts p) = false := by
        rw [List.all_eq_false]; exact ⟨_, List.getElem_mem hk1, by simp [h]⟩
      rw [hR, this]; rfl
    generalize s.next[k] = y at *
    simp only [go_sem, reduceIte, Nat.reduceEqDiff, t2, t3, q10, hkl, hk0, b2', b3', ea4, Int.toNat_natCast, hb4, e1, ew]
    refine callK_same (k32 F M2 y _) ?_
    rw [hin]
    cases hy : inStmts p y
    · simp only [go_sem]
      exact no _ (hbad hy) _ kp2
    · simp only [go_sem, reduceIte, Nat.reduceEqDiff, q10, ek]
      exact ⟨hk1, rfl, rfl, (by simp only [go_sem, *] <;> rfl), by rw [t1, List.all_append, he3]; simp [hy]⟩
  have hall : s.next.all (inStmts p) = true := by rw [List.take_of_length_le (by omega)] at he3; exact he3
  rw [hall, Bool.true_and] at hR
  have kN := k32 F M2 s.p ((p.stmts.length : Int) - 1)
  rw [hin] at kN
  have eA : decide (Al.mk s.p s.w = ⟨0, 0⟩) = (decide (s.p = 0) && decide (s.w = 0)) := by simp
  have fin : ∀ v : Bool, alarmB p ⟨s.p, s.w⟩ = v → endK F M2 (Same F M (.bool (stateB p s))) (.bool v) := fun v h => no _ (by rw [hR]; exact h) _ kp2
  unfold alarmB at fin
  clear no hR hall hin
  repeat' first
    | simp only [go_sem, reduceCtorEq, reduceIte, Nat.reduceEqDiff, Nat.reduceAdd, Nat.add_zero, *]
    | (with_reducible first | apply cD | apply cN | apply cB | apply cO | apply tD | apply fD | apply tN | apply fN | apply tB | apply fB | apply tO | apply fO) <;> intro hc
    | (intro rx hFx hMx; (try simp only [upd_none2] at hMx))
    | simp only [Al.fold, go_sem, *]
    | with_reducible refine callK_same kN ?_
    | with_reducible refine callK_same (k33 _ _ _ _ _) ?_
    | (refine fin _ ?_; clear fin kN; simp [*]; done)
end Go.Proofs.Tryz.K
namespace Go.Proofs.Tryz.K
open Go Go.Ax Go.Proofs.Tryz.S
set_option maxRecDepth 100000
set_option linter.unusedSimpArgs false
set_option linter.unusedVariables false
set_option maxHeartbeats 1000000
variable (F : Fz) (M : Hp)
theorem int_at {F : Fz} {M : Hp} {u : Value} {l : List Int} (h : RdG 1 intC F M u l) {i : Nat} (hi : i < l.length) : ∃ b o cap cs, u = .slice (some ⟨b, o, none⟩) l.length cap ∧ blk F M b = some cs ∧ cs[o + i]? = some (.int .i64 l[i]) := by
  obtain ⟨_, ad, cap, _, rfl, h⟩ := h
  rcases h with h | ⟨b, o, cs, rfl, hb, hc⟩
  · rw [h] at hi; simp at hi
  · have := one_row (hc i hi).2
    rw [Nat.mul_one] at this
    exact ⟨b, o, cap, cs, rfl, hb, this⟩
theorem k158 (x : Int) : CallsA Tryz.prog 158 [.int .i64 x] F M (Same F M (.bool false)) := by
  refine callsA_of hm Tryz.func158 e158 (Nat.le_of_ble_eq_true rfl) ?_
  simp only [c158, go_sem, reduceCtorEq, reduceIte, Nat.reduceEqDiff]
  exact endK_same ⟨by simp, rfl, rfl⟩
end Go.Proofs.Tryz.K
namespace Go.Ax
open Go
set_option linter.unusedVariables false
set_option linter.unusedSimpArgs false
@[go_sem] theorem Pg.take2 {p : Pg} : List.take 2 p.cs = [.bool p.big, .int .i64 p.ptr] := rfl
@[go_sem] theorem Cl.take6 {s : Cl} : List.take 6 (List.drop 3 s.cs) = s.v.cs := rfl
@[go_sem] theorem Cl.take7 {s : Cl} : List.take 7 (List.drop 3 s.cs) = abCs s.v (.slice s.lA s.l.length s.lC) := rfl
def spanK (ptr k : Int) : Int := if k = 0 ∨ k = 11 then 1 else if k = 7 then ptr else (wK k).tdiv 8
def contentB (c : Pc) : Bool :=
  if c.k = 0 then decide (c.v = V.zero) && decide (c.l.length = 0) else if c.k = 11 then c.v.ok && decide (c.v.w = 8) && ptrsB c.l else isS c.k && absB c.k c.v c.l
def knownB (l : List Ba) (n : Int) : Bool := l.all fun x => decide (x.b ≤ n)
def cellB (ptr : Int) (sz : List Int) (c : Pc) : Bool :=
  contentB c && (decide (1 ≤ c.b) && decide (c.b < sz.length)) && decide (0 ≤ c.p) && knownB c.l ((sz.length : Int) - 1) && decide (c.p.tmod (spanK ptr c.k) = 0) && decide (c.p ≤ szAt sz c.b - spanK ptr c.k)
def beforeB (a b : Pc) : Bool := if a.b = b.b then (if a.p = b.p then decide (a.k < b.k) else decide (a.p < b.p)) else decide (a.b < b.b)
def prevOk (l : List Pc) (i : Nat) (c : Pc) : Bool := match l[i - 1]? with | some b => beforeB b c | none => true
def upAt (ptr : Int) (sz : List Int) (l : List Pc) (i : Nat) : Bool := match l[i]? with
  | some c => cellB ptr sz c && (decide (i = 0) || prevOk l i c)
  | none => true
theorem upAt_get {ptr : Int} {sz : List Int} {l : List Pc} {i : Nat} {c : Pc} (h : l[i]? = some c) : upAt ptr sz l i = (cellB ptr sz c && (decide (i = 0) || prevOk l i c)) := by
  unfold upAt; rw [h]
theorem prevOk_get {l : List Pc} {i : Nat} {b c : Pc} (h : l[i - 1]? = some b) : prevOk l i c = beforeB b c := by
  unfold prevOk; rw [h]
def cellsUp (ptr : Int) (sz : List Int) (l : List Pc) (n : Nat) : Bool := (List.range n).all (upAt ptr sz l)
structure Pe where
  no : Bool
  cells : List Pc
  news : List Int
instance Pe.dec : DecidableEq Pe := fun x y => decidable_of_iff (x.no = y.no ∧ x.cells = y.cells ∧ x.news = y.news) (by cases x; cases y; simp)
def En.pe (e : En) : Pe := ⟨e.no, e.cells.map Cl.pc, e.news⟩
def inB (n : Int) : Bool := decide (1 ≤ n) && decide (n ≤ 15)
def envB (p : Pg) (e : Pe) : Bool :=
  if e.no = true then decide (e.cells.length = 0) && decide (e.news.length = 0)
  else decide (e.cells.length ≤ 200) && decide (e.news.length = p.news.length) && e.news.all inB && cellsUp p.ptr (sizesL p) e.cells e.cells.length
theorem cellsUp_succ {ptr : Int} {sz : List Int} {l : List Pc} {n : Nat} : cellsUp ptr sz l (n + 1) = (cellsUp ptr sz l n && upAt ptr sz l n) := by
  unfold cellsUp
  rw [List.range_succ, List.all_append]
  simp
theorem cellsUp_no {ptr : Int} {sz : List Int} {l : List Pc} {n i : Nat} (hi : i < n) (h : upAt ptr sz l i = false) : cellsUp ptr sz l n = false := by
  unfold cellsUp
  rw [List.all_eq_false]
  exact ⟨i, by simpa using hi, by simp [h]⟩
theorem progC_pre {p : Pg} (h : progC p = true) : (p.ptr = 2 ∨ p.ptr = 4) ∧ p.vars.length ≤ 4 ∧ p.news.length ≤ 2 ∧ (∀ n ∈ p.vars, 1 ≤ n ∧ n ≤ 32) ∧ (∀ n ∈ p.news, 1 ≤ n ∧ n ≤ 32) := by
  simp only [progC, sizesB, Bool.and_eq_true, Bool.or_eq_true, decide_eq_true_eq, List.all_eq_true, sizeB] at h
  obtain ⟨⟨⟨⟨⟨⟨⟨h1, h2⟩, h3⟩, _⟩, _⟩, _⟩, _⟩, _⟩ := h
  exact ⟨h1, h2.1, h3.1, h2.2, h3.2⟩
theorem sizes_len (p : Pg) : (sizesL p).length = 1 + p.vars.length + p.news.length := by simp [sizesL]; omega
theorem sizes_in {p : Pg} (h : progC p = true) (b : Int) : 0 ≤ szAt (sizesL p) b ∧ szAt (sizesL p) b ≤ 32 := by
  obtain ⟨_, _, _, h4, h5⟩ := progC_pre h
  unfold szAt
  cases he : (sizesL p)[b.toNat]? with
  | none => simp
  | some n =>
    have hm := List.mem_of_getElem? he
    simp only [sizesL, List.mem_append, List.mem_cons, List.not_mem_nil, or_false, Option.getD_some] at hm ⊢
    rcases hm with (hm | hm) | hm
    · omega
    · have := h4 _ hm; omega
    · have := h5 _ hm; omega
theorem wK_cases {k : Int} (h : isS k = true) (h7 : ¬ k = 7) : wK k = 8 ∨ wK k = 16 ∨ wK k = 32 := by
  have : isK k = true := by simp [isS, isK] at h ⊢; omega
  rw [wK_of this]
  unfold ofW
  split
  · omega
  split <;> omega
theorem spanK_in {ptr k : Int} (hp : ptr = 2 ∨ ptr = 4) (hk : k = 0 ∨ k = 11 ∨ isS k = true) : 1 ≤ spanK ptr k ∧ spanK ptr k ≤ 4 := by
  unfold spanK
  split
  · omega
  rename_i h0
  split
  · omega
  rename_i h7
  have : isS k = true := by
    rcases hk with h | h | h
    · exact absurd (.inl h) h0
    · exact absurd (.inr h) h0
    · exact h
  rcases wK_cases this h7 with h | h | h <;> rw [h] <;> decide
theorem content_kind {c : Pc} (h : contentB c = true) : c.k = 0 ∨ c.k = 11 ∨ isS c.k = true := by
  unfold contentB at h
  split at h
  · exact .inl (by assumption)
  split at h
  · exact .inr (.inl (by assumption))
  · simp only [Bool.and_eq_true] at h
    exact .inr (.inr h.1)
theorem there_known {l : List Ba} (h : ptrsB l = true) (n : Int) : knownB l (n - 1) = (decide (l.length = 0) || decide ((l.getLast?.map (·.b)).getD 0 < n)) := by
  have hs := (okAt_base h).2
  clear h
  cases l with
  | nil => simp [knownB]
  | cons x l =>
    have key : ∀ (y : Ba) (l : List Ba), (y :: l).Pairwise (fun x y => x.b < y.b) → ∀ z ∈ y :: l, z.b ≤ ((y :: l).getLast (by simp)).b := by
      intro y l
      induction l generalizing y with
      | nil => intro _ z hz; simp at hz; subst hz; simp
      | cons u l ih =>
        intro hp z hz
        rw [List.getLast_cons (by simp)]
        rcases List.mem_cons.1 hz with rfl | hz
        · have h1 := (List.pairwise_cons.1 hp).1 u (by simp)
          have h2 := ih u (List.pairwise_cons.1 hp).2 u (by simp)
          omega
        · exact ih u (List.pairwise_cons.1 hp).2 z hz
    rw [List.getLast?_eq_some_getLast (by simp)]
    simp only [Option.map_some, Option.getD_some, List.length_cons, Nat.add_one_ne_zero, decide_false, Bool.false_or]
    have hk := key x l hs
    generalize hg : (x :: l).getLast (by simp) = g at *
    have hgm : g ∈ x :: l := by rw [← hg]; exact List.getLast_mem _
    unfold knownB
    by_cases hn : g.b < n
    · rw [decide_eq_true hn, List.all_eq_true]
      intro z hz
      have := hk z hz
      simp; omega
    · rw [decide_eq_false hn, List.all_eq_false]
      exact ⟨g, hgm, by simp; omega⟩
def cmpV (a b : Int) : Int := if a < b then -1 else if b < a then 1 else 0
def orV (l : List Int) : Int := (l.find? fun n => !decide (n = 0)).getD 0
def ordV (a b : Pc) : Int := orV [cmpV a.b b.b, cmpV a.p b.p, cmpV a.k b.k]
theorem ord_before (a b : Pc) : decide (0 ≤ ordV a b) = !beforeB a b := by
  have hc : ∀ x y : Int, (x < y ∧ cmpV x y = -1) ∨ (x = y ∧ cmpV x y = 0) ∨ (y < x ∧ cmpV x y = 1) := fun x y => by
    unfold cmpV
    split
    · exact .inl ⟨by assumption, rfl⟩
    split
    · exact .inr (.inr ⟨by assumption, rfl⟩)
    · exact .inr (.inl ⟨by omega, rfl⟩)
  unfold ordV beforeB orV
  generalize hx : cmpV a.b b.b = x at *
  generalize hy : cmpV a.p b.p = y at *
  generalize hz : cmpV a.k b.k = z at *
  have c1 := hc a.b b.b
  have c2 := hc a.p b.p
  have c3 := hc a.k b.k
  rw [hx] at c1
  rw [hy] at c2
  rw [hz] at c3
  clear hx hy hz hc
  rcases c1 with ⟨h1, rfl⟩ | ⟨h1, rfl⟩ | ⟨h1, rfl⟩
  · have : ¬ a.b = b.b := by omega
    simp [this, h1]
  · rcases c2 with ⟨h2, rfl⟩ | ⟨h2, rfl⟩ | ⟨h2, rfl⟩
    · have : ¬ a.p = b.p := by omega
      simp [h1, this, h2]
    · rcases c3 with ⟨h3, rfl⟩ | ⟨h3, rfl⟩ | ⟨h3, rfl⟩
      · simp [h1, h2, h3]
      · simp [h1, h2, h3]
      · have : ¬ a.k < b.k := by omega
        simp [h1, h2, this]; try omega
    · have h4 : ¬ a.p = b.p := by omega
      have h5 : ¬ a.p < b.p := by omega
      simp [h1, h4, h5]; try omega
  · have h4 : ¬ a.b = b.b := by omega
    have h5 : ¬ a.b < b.b := by omega
    simp [h4, h5]; try omega
end Go.Ax
namespace Go.Proofs.Tryz.K
open Go Go.Ax Go.Proofs.Tryz.S
set_option maxRecDepth 100000
set_option linter.unusedSimpArgs false
set_option linter.unusedVariables false
set_option maxHeartbeats 4000000
variable (F : Fz) (M : Hp)
theorem span_size {ptr k : Int} (h0 : ¬ k = 0) (h11 : ¬ k = 11) : spanK ptr k = sizeK ptr k := by
  unfold spanK sizeK; rw [if_neg (by omega)]
theorem k87 (big : Bool) (ptr k : Int) (hk : k = 0 ∨ k = 11 ∨ isS k = true) : CallsA Tryz.prog 87 [.agg #[.bool big, .int .i64 ptr], .int .i64 k] F M (Same F M (.int .i64 (spanK ptr k))) := by
  refine callsA_of hm Tryz.func87 e87 (Nat.le_of_ble_eq_true rfl) ?_
  by_cases h0 : k = 0
  · simp only [c87, go_sem, Nat.reduceAdd]
    repeat' first
    | simp only [go_sem, reduceCtorEq, reduceIte, Nat.reduceEqDiff, *]
    | (with_reducible first | apply cD | apply cN | apply cB | apply cO | apply tD | apply fD | apply tN | apply fN | apply tB | apply fB | apply tO | apply fO) <;> intro hc
    | (intro rx hFx hMx; (try simp only [upd_none2] at hMx))
    all_goals (refine endK_keep (M := M) (by repeat' first | exact Keep.refl _ | (refine Keep.new ?_ (by simp only [*]))) ⟨?_, rfl, rfl⟩)
    all_goals simp_all [spanK]
  by_cases h11 : k = 11
  · simp only [c87, go_sem, Nat.reduceAdd]
    repeat' first
    | simp only [go_sem, reduceCtorEq, reduceIte, Nat.reduceEqDiff, Int.reduceEq, *]
    | (with_reducible first | apply cD | apply cN | apply cB | apply cO | apply tD | apply fD | apply tN | apply fN | apply tB | apply fB | apply tO | apply fO) <;> intro hc
    | (intro rx hFx hMx; (try simp only [upd_none2] at hMx))
    all_goals (refine endK_keep (M := M) (by repeat' first | exact Keep.refl _ | (refine Keep.new ?_ (by simp only [*]))) ⟨?_, rfl, rfl⟩)
    all_goals simp_all [spanK]
  have hs : isS k = true := by
    rcases hk with h | h | h
    · exact absurd h h0
    · exact absurd h h11
    · exact h
  simp only [c87, go_sem, Nat.reduceAdd]
  repeat' first
    | simp only [go_sem, reduceCtorEq, reduceIte, Nat.reduceEqDiff, Nat.reduceAdd, *]
    | (with_reducible first | apply cD | apply cN | apply cB | apply cO | apply tD | apply fD | apply tN | apply fN | apply tB | apply fB | apply tO | apply fO) <;> intro hc
    | (intro rx hFx hMx; (try simp only [upd_none2] at hMx))
    | with_reducible refine callK_same (k125 _ _ _ _ _ hs) ?_
  all_goals (refine endK_keep (M := M) (by repeat' first | exact Keep.refl _ | (refine Keep.new ?_ (by simp only [*]))) ⟨?_, rfl, rfl⟩)
  rw [span_size h0 h11]
theorem k36 (p : Pg) (k : Int) : CallsA Tryz.prog 36 [p.val, .int .i64 k] F M (Same F M (.int .i64 (spanK p.ptr k))) := by
  refine callsA_of hm Tryz.func36 e36 (Nat.le_of_ble_eq_true rfl) ?_
  by_cases h0 : k = 0
  · simp only [c36, go_sem]
    repeat' first
    | simp only [go_sem, reduceCtorEq, reduceIte, Nat.reduceEqDiff, *]
    | (with_reducible first | apply cD | apply cN | apply cB | apply cO | apply tD | apply fD | apply tN | apply fN | apply tB | apply fB | apply tO | apply fO) <;> intro hc
    | (intro rx hFx hMx; (try simp only [upd_none2] at hMx))
    all_goals (refine endK_keep (M := M) (by repeat' first | exact Keep.refl _ | (refine Keep.new ?_ (by simp only [*]))) ⟨?_, rfl, rfl⟩)
    all_goals simp_all [spanK]
  by_cases h11 : k = 11
  · simp only [c36, go_sem]
    repeat' first
    | simp only [go_sem, reduceCtorEq, reduceIte, Nat.reduceEqDiff, Int.reduceEq, *]
    | (with_reducible first | apply cD | apply cN | apply cB | apply cO | apply tD | apply fD | apply tN | apply fN | apply tB | apply fB | apply tO | apply fO) <;> intro hc
    | (intro rx hFx hMx; (try simp only [upd_none2] at hMx))
    all_goals (refine endK_keep (M := M) (by repeat' first | exact Keep.refl _ | (refine Keep.new ?_ (by simp only [*]))) ⟨?_, rfl, rfl⟩)
    all_goals simp_all [spanK]
  simp only [c36, go_sem]
  repeat' first
    | simp only [go_sem, reduceCtorEq, reduceIte, Nat.reduceEqDiff, Nat.reduceLeDiff, Nat.add_zero, *]
    | (with_reducible first | apply cD | apply cN | apply cB | apply cO | apply tD | apply fD | apply tN | apply fN | apply tB | apply fB | apply tO | apply fO) <;> intro hc
    | (intro rx hFx hMx; (try simp only [upd_none2] at hMx))
    | with_reducible refine callK_same (k77 _ _ _ _ _) ?_
  all_goals (refine endK_keep (M := M) (by repeat' first | exact Keep.refl _ | (refine Keep.new ?_ (by simp only [*]))) ⟨?_, rfl, rfl⟩)
  rw [span_size h0 h11]
theorem k157 (x : Ba) (n : Int) (r3 : Nat) (e3 : Ent) (h3 : M r3 = some e3) (c3 : e3.cells = [.int .i64 n]) : CallsA Tryz.prog 157 [x.val, .pointer (some ⟨r3, 0, none⟩)] F M (Same F M (.bool (!decide (x.b ≤ n)))) := by
  refine callsA_of hm Tryz.func157 e157 (Nat.le_of_ble_eq_true rfl) ?_
  have b3 := blk_M (F := F) h3
  rw [c3] at b3
  simp only [c157, go_sem]
  repeat' first
    | simp only [go_sem, reduceCtorEq, reduceIte, Nat.reduceEqDiff, blk_upd_known, Option.isSome_some, Nat.add_zero, *]
    | (with_reducible first | apply cD | apply cN | apply cB | apply cO | apply tD | apply fD | apply tN | apply fN | apply tB | apply fB | apply tO | apply fO) <;> intro hc
    | (intro rx hFx hMx; (try simp only [upd_none2] at hMx))
  all_goals (refine endK_keep (M := M) (by repeat' first | exact Keep.refl _ | (refine Keep.new ?_ (by simp only [*]))) ⟨?_, rfl, rfl⟩)
  all_goals (refine congrArg Value.bool ?_; first | rfl | ((try simp only [Bool.and_eq_true, Bool.or_eq_true, decide_eq_true_eq, Bool.and_eq_false_iff, Bool.or_eq_false_iff, decide_eq_false_iff_not, Bool.not_eq_true', Bool.not_eq_false', Bool.and_eq_false_imp] at *); rw [Bool.eq_iff_iff]; (try simp [*]); (try first | omega | (intros; omega) | (intros; exfalso; omega) | (simp_all; done) | (simp_all; omega))))
theorem k142 (a : Option Addr) (c : Nat) (l : List Ba) (n : Int) (h : RdG 7 Ba.cs F M (.slice a l.length c) l) : CallsA Tryz.prog 142 [.slice a l.length c, .int .i64 n] F M (Same F M (.bool (knownB l n))) := by
  refine callsA_of hm Tryz.func142 e142 (Nat.le_of_ble_eq_true rfl) ?_
  simp only [c142, go_sem, reduceCtorEq]
  intro r3 hF3 hM3
  have h3 : RdG 7 Ba.cs F (M.upd r3 ⟨[.int .i64 n], 3, 1⟩) (.slice a l.length c) l := RdG.new h hF3 hM3
  have kc := k146 F _ (.slice a l.length c) l _ [.pointer (some ⟨r3, 0, none⟩)] (fun x => !decide (x.b ≤ n)) h3 (fun v _ => k157 F _ v n r3 _ (Hp.upd_same _ _ _) rfl)
  have e9 : (l.any fun x => !decide (x.b ≤ n)) = !knownB l n := (List.not_all_eq_any_not).symm
  rw [e9] at kc
  clear h3 h e9
  repeat' first
    | simp only [go_sem, reduceCtorEq, Nat.reduceEqDiff, *]
    | (with_reducible first | apply cD | apply cN | apply cB | apply cO | apply tD | apply fD | apply tN | apply fN | apply tB | apply fB | apply tO | apply fO) <;> intro hc
    | (intro rx hFx hMx; (try simp only [upd_none2] at hMx))
    | with_reducible refine callK_same kc ?_
  all_goals (refine endK_keep (M := M) (by repeat' first | exact Keep.refl _ | (refine Keep.new ?_ (by simp only [*]))) ⟨?_, rfl, rfl⟩)
  simp
theorem k141 (c : Cl) (h : c.rd F M) : CallsA Tryz.prog 141 [c.val] F M (Same F M (.bool (contentB c.pc))) := by
  refine callsA_of hm Tryz.func141 e141 (Nat.le_of_ble_eq_true rfl) ?_
  simp only [c141, go_sem]
  intro r1 hF1 hM1
  have h1 : RdG 7 Ba.cs F (M.upd r1 ⟨c.cs, 87, 10⟩) (.slice c.lA c.l.length c.lC) c.l := RdG.new h hF1 hM1
  have k1 := k154 F (M.upd r1 ⟨c.cs, 87, 10⟩) c.v
  have k2 := k155 F (M.upd r1 ⟨c.cs, 87, 10⟩) _ _ h1
  have k3 := k156 F (M.upd r1 ⟨c.cs, 87, 10⟩) c.k c.v _ _ h1
  have k4 := k101 F (M.upd r1 ⟨c.cs, 87, 10⟩) c.k
  have ez : ((c.l.length : Int) = 0) = (c.l.length = 0) := by
    apply propext; omega
  have e0 : V.mk 0 false 0 0 0 0 = V.zero := rfl
  clear h h1
  obtain ⟨n, hn⟩ : ∃ n, n = decide (c.l.length = 0) := ⟨_, rfl⟩
  have hR : contentB c.pc = (if c.k = 0 then decide (c.v = V.zero) && n else if c.k = 11 then c.v.ok && decide (c.v.w = 8) && ptrsB c.l else isS c.k && absB c.k c.v c.l) := by rw [hn]; rfl
  have en : decide ((c.l.length : Int) = 0) = n := by rw [hn]; exact decide_eq_decide.2 (by omega)
  clear hn ez
  rw [hR]
  clear hR
  by_cases q0 : c.k = 0
  · rw [if_pos q0]
    repeat' first
    | simp only [go_sem, reduceCtorEq, reduceIte, Nat.reduceEqDiff, Nat.reduceAdd, Nat.reduceLeDiff, Nat.add_zero, *]
    | (with_reducible first | apply cD | apply cN | apply cB | apply cO | apply tD | apply fD | apply tN | apply fN | apply tB | apply fB | apply tO | apply fO) <;> intro hc
    | (intro rx hFx hMx; (try simp only [upd_none2] at hMx))
      | simp only [e0, go_sem, reduceCtorEq, reduceIte, Nat.reduceEqDiff, Nat.reduceAdd, Nat.reduceLeDiff, Nat.reduceMul, Int.reduceLT, Int.reduceLE, Int.reduceAdd, Int.reduceSub, Int.reduceMul, Int.reduceNeg, Int.reduceToNat, Int.reduceEq, *]
    all_goals (refine endK_keep (M := M) (by repeat' first | exact Keep.refl _ | (refine Keep.new ?_ (by simp only [*]))) ⟨?_, rfl, rfl⟩)
    all_goals (refine congrArg Value.bool ?_; first | rfl | ((try simp only [Bool.and_eq_true, Bool.or_eq_true, decide_eq_true_eq, Bool.and_eq_false_iff, Bool.or_eq_false_iff, decide_eq_false_iff_not, Bool.not_eq_true', Bool.not_eq_false', Bool.and_eq_false_imp] at *); rw [Bool.eq_iff_iff]; (try simp [*]); (try first | omega | (intros; omega) | (intros; exfalso; omega) | (simp_all; done) | (simp_all; omega))))
  by_cases q1 : c.k = 11
  · rw [if_neg q0, if_pos q1]
    clear k3
    repeat' first
    | simp only [go_sem, reduceCtorEq, reduceIte, Nat.reduceEqDiff, Nat.reduceAdd, Nat.reduceLeDiff, Int.reduceEq, Nat.add_zero, *]
    | (with_reducible first | apply cD | apply cN | apply cB | apply cO | apply tD | apply fD | apply tN | apply fN | apply tB | apply fB | apply tO | apply fO) <;> intro hc
    | (intro rx hFx hMx; (try simp only [upd_none2] at hMx))
      | with_reducible refine callK_same k1 ?_
      | with_reducible refine callK_same k2 ?_
    all_goals (refine endK_keep (M := M) (by repeat' first | exact Keep.refl _ | (refine Keep.new ?_ (by simp only [*]))) ⟨?_, rfl, rfl⟩)
    all_goals clear k1 k2
    all_goals (refine congrArg Value.bool ?_; first | rfl | ((try simp only [Bool.and_eq_true, Bool.or_eq_true, decide_eq_true_eq, Bool.and_eq_false_iff, Bool.or_eq_false_iff, decide_eq_false_iff_not, Bool.not_eq_true', Bool.not_eq_false', Bool.and_eq_false_imp] at *); rw [Bool.eq_iff_iff]; (try simp [*]); (try first | omega | (intros; omega) | (intros; exfalso; omega) | (simp_all; done) | (simp_all; omega))))
  rw [if_neg q0, if_neg q1]
  repeat' first
    | simp only [go_sem, reduceCtorEq, reduceIte, Nat.reduceEqDiff, Nat.reduceAdd, *]
    | (with_reducible first | apply cD | apply cN | apply cB | apply cO | apply tD | apply fD | apply tN | apply fN | apply tB | apply fB | apply tO | apply fO) <;> intro hc
    | (intro rx hFx hMx; (try simp only [upd_none2] at hMx))
    | with_reducible refine callK_same k3 ?_
    | with_reducible refine callK_same k4 ?_
  all_goals (refine endK_keep (M := M) (by repeat' first | exact Keep.refl _ | (refine Keep.new ?_ (by simp only [*]))) ⟨?_, rfl, rfl⟩)
  all_goals clear k1 k2 k3 k4
  all_goals (refine congrArg Value.bool ?_; first | rfl | ((try simp only [Bool.and_eq_true, Bool.or_eq_true, decide_eq_true_eq, Bool.and_eq_false_iff, Bool.or_eq_false_iff, decide_eq_false_iff_not, Bool.not_eq_true', Bool.not_eq_false', Bool.and_eq_false_imp] at *); rw [Bool.eq_iff_iff]; (try simp [*]); (try first | omega | (intros; omega) | (intros; exfalso; omega) | (simp_all; done) | (simp_all; omega))))
theorem k144 (x y : Int) : CallsA Tryz.prog 144 [.int .i64 x, .int .i64 y] F M (Same F M (.int .i64 (cmpV x y))) := by
  refine callsA_of hm Tryz.func144 e144 (Nat.le_of_ble_eq_true rfl) ?_
  unfold cmpV
  simp only [c144, go_sem, reduceCtorEq, Int.reduceNeg]
  refine callK_same (k158 _ _ x) ?_
  simp only [go_sem, reduceCtorEq, Nat.reduceEqDiff, Int.reduceNeg]
  refine callK_same (k158 _ _ y) ?_
  repeat' first
    | simp only [go_sem, reduceCtorEq, reduceIte, Nat.reduceEqDiff, Int.reduceNeg, *]
    | (with_reducible first | apply cD | apply cN | apply cB | apply cO | apply tD | apply fD | apply tN | apply fN | apply tB | apply fB | apply tO | apply fO) <;> intro hc
    | (intro rx hFx hMx; (try simp only [upd_none2] at hMx))
  all_goals (refine endK_keep (M := M) (by repeat' first | exact Keep.refl _ | (refine Keep.new ?_ (by simp only [*]))) ⟨?_, rfl, rfl⟩)
  all_goals simp [*]
theorem k143 (a : Option Addr) (c : Nat) (l : List Int) (h : intR F M a c l) : CallsA Tryz.prog 143 [.slice a l.length c] F M (Same F M (.int .i64 (orV l))) := by
  refine callsA_of hm Tryz.func143 e143 (Nat.le_of_ble_eq_true rfl) ?_
  have hl := h.1
  simp only [c143, go_sem, reduceCtorEq]
  refine loop_up l.length (fun i σ F' M' => F = F' ∧ M = M' ∧ Ax.look σ 8 = some (.int .i64 i) ∧ orV l = orV (l.drop i)) ⟨rfl, rfl, (by simp only [go_sem, *] <;> rfl), rfl⟩ ?_
  rintro i σ F' M' hi hs ⟨rfl, rfl, h8, he⟩
  have s0 := hs 6 rfl
  have s7 := hs 7 rfl
  have s3 := hs 3 rfl
  simp only [go_sem, Nat.reduceEqDiff] at s0 s7 s3
  clear hs
  by_cases hil : (i : Int) < l.length
  rotate_left
  · rw [List.drop_eq_nil_of_le (by omega)] at he
    simp only [go_sem, reduceIte, Nat.reduceEqDiff, s3, s7, h8, hil]
    exact endK_same ⟨by rw [he]; rfl, rfl, rfl⟩
  have hi0 : (0 : Int) ≤ i := by omega
  have hi1 : i < l.length := by omega
  have ei : IntKind.i64.wrap ((i : Int) + 1) = i + 1 := w64 (by omega) (by omega)
  obtain ⟨b, o, cs, rfl, hb, d1⟩ := Ax.int_at h hi1
  rw [List.drop_eq_getElem_cons hi1] at he
  generalize l[i] = x at *
  by_cases hx : x = 0
  · simp only [go_sem, reduceIte, Nat.reduceEqDiff, s0, s3, s7, h8, hil, hi0, Int.toNat_natCast, hb, d1, hx, ei]
    exact ⟨hi1, rfl, rfl, (by simp only [go_sem, *] <;> rfl), by rw [he, hx]; rfl⟩
  · simp only [go_sem, reduceIte, Nat.reduceEqDiff, s0, s3, s7, h8, hil, hi0, Int.toNat_natCast, hb, d1, hx]
    exact endK_same ⟨by rw [he]; simp [orV, hx], rfl, rfl⟩
theorem k121 (a b : Cl) : CallsA Tryz.prog 121 [a.val, b.val] F M (Same F M (.int .i64 (ordV a.pc b.pc))) := by
  refine callsA_of hm Tryz.func121 e121 (Nat.le_of_ble_eq_true rfl) ?_
  simp only [c121, go_sem]
  intro r2 hF2 hM2
  simp only [go_sem, reduceCtorEq, Nat.reduceEqDiff]
  intro r3 hF3 hM3
  simp only [upd_none2] at hM3
  simp only [go_sem, Nat.reduceEqDiff, hM3]
  refine callK_same (k144 _ _ a.b b.b) ?_
  simp only [go_sem, Nat.reduceEqDiff]
  refine callK_same (k144 _ _ a.p b.p) ?_
  simp only [go_sem, Nat.reduceEqDiff]
  refine callK_same (k144 _ _ a.k b.k) ?_
  simp only [go_sem, reduceIte, Nat.reduceEqDiff, Nat.reduceAdd, Nat.reduceLeDiff]
  intro r4 hF4 hM4
  simp only [upd_none2] at hM4
  have hr : intR F (((M.upd r2 ⟨a.cs, 87, 10⟩).upd r3 ⟨b.cs, 87, 10⟩).upd r4 ⟨[.int .i64 (cmpV a.b b.b), .int .i64 (cmpV a.p b.p), .int .i64 (cmpV a.k b.k)], 3, 3⟩) (some ⟨r4, 0, none⟩) 3 [cmpV a.b b.b, cmpV a.p b.p, cmpV a.k b.k] := rdG_flat intC_len (by simp) (by simp) (by rw [blk_upd_same]; rfl)
  simp only [go_sem]
  refine callK_same (k143 F _ _ 3 [cmpV a.b b.b, cmpV a.p b.p, cmpV a.k b.k] hr) ?_
  simp only [go_sem]
  all_goals (refine endK_keep (M := M) (by repeat' first | exact Keep.refl _ | (refine Keep.new ?_ (by simp only [*]))) ⟨?_, rfl, rfl⟩)
  rfl
theorem k35 (a b : Cl) : CallsA Tryz.prog 35 [a.val, b.val] F M (Same F M (.bool (beforeB a.pc b.pc))) := by
  refine callsA_of hm Tryz.func35 e35 (Nat.le_of_ble_eq_true rfl) ?_
  simp only [c35, go_sem]
  repeat' first
    | simp only [go_sem, reduceCtorEq, reduceIte, Nat.reduceEqDiff, blk_upd_known, Option.isSome_some, Nat.add_zero, *]
    | (with_reducible first | apply cD | apply cN | apply cB | apply cO | apply tD | apply fD | apply tN | apply fN | apply tB | apply fB | apply tO | apply fO) <;> intro hc
    | (intro rx hFx hMx; (try simp only [upd_none2] at hMx))
  all_goals (refine endK_keep (M := M) (by repeat' first | exact Keep.refl _ | (refine Keep.new ?_ (by simp only [*]))) ⟨?_, rfl, rfl⟩)
  all_goals (simp only [beforeB, Cl.pc, *]; try rfl)
theorem k75 (a : Option Addr) (c : Nat) (l : List Ba) (n : Int) (h : RdG 7 Ba.cs F M (.slice a l.length c) l) (hp : ptrsB l = true) :
    CallsA Tryz.prog 75 [.slice a l.length c, .int .i64 n] F M (Same F M (.bool (knownB l (n - 1)))) := by
  refine callsA_of hm Tryz.func75 e75 (Nat.le_of_ble_eq_true rfl) ?_
  rw [there_known hp]
  have hl := h.1
  by_cases h0 : l.length = 0
  · have e0 : (l.length : Int) = 0 := by omega
    simp only [c75, go_sem, reduceCtorEq, reduceIte, Nat.reduceEqDiff, e0]
    exact endK_same ⟨by simp [h0], rfl, rfl⟩
  have hi : l.length - 1 < l.length := by omega
  have e0 : ¬ (l.length : Int) = 0 := by omega
  have ew : IntKind.i64.wrap ((l.length : Int) - 1) = ((l.length - 1 : Nat) : Int) := by rw [w64 (by omega) (by omega)]; omega
  have hi0 : (0 : Int) ≤ ((l.length - 1 : Nat) : Int) := by omega
  have hil : ((l.length - 1 : Nat) : Int) < l.length := by omega
  obtain ⟨b, o, cs, rfl, hb, d1, d2⟩ := RdG.at h hi
  obtain ⟨d3, _⟩ := ba_row d1 d2
  have eg : (l.getLast?.map (·.b)).getD 0 = l[l.length - 1].b := by
    rw [List.getLast?_eq_getElem?, List.getElem?_eq_getElem hi]; rfl
  generalize l[l.length - 1] = x at *
  rw [eg]
  simp only [c75, go_sem, reduceCtorEq, reduceIte, Nat.reduceEqDiff, e0, ew, hi0, hil, Int.toNat_natCast, Nat.add_zero, hb, d3]
  exact endK_same ⟨by simp [h0], rfl, rfl⟩
end Go.Proofs.Tryz.K
namespace Go.Proofs.Tryz.K
open Go Go.Ax Go.Proofs.Tryz.S
set_option maxRecDepth 100000
set_option linter.unusedSimpArgs false
set_option linter.unusedVariables false
set_option maxHeartbeats 4000000
variable (F : Fz) (M : Hp)
def ixEn (l : List En) (p : En → Bool) (F0 : Fz) (M0 : Hp) (i : Nat) (σ : Env) (F : Fz) (M : Hp) : Prop :=
  F0 = F ∧ M0 = M ∧ Ax.look σ 8 = some (.int .i64 i) ∧ (l.take i).any p = false
theorem k118 (ad : Option Addr) (cap : Nat) (l : List En) (g : Nat) (ca : List Value) (p : En → Bool) (h : RdG 3 En.cs F M (.slice ad l.length cap) l)
    (hp : ∀ v ∈ l, CallsA Tryz.prog g ([v.val] ++ ca) F M (Same F M (.bool (p v)))) :
    CallsA Tryz.prog 118 [.slice ad l.length cap, .func (.func g) #[] ca.toArray] F M fun r F' M' => F' = F ∧ M' = M ∧ ((l.any p = false ∧ r = .int .i64 (-1)) ∨ ∃ i : Nat, r = .int .i64 i ∧ ∃ hi : i < l.length, p l[i] = true ∧ (l.take i).any p = false) := by
  refine callsA_of hm Tryz.func118 e118 (Nat.le_of_ble_eq_true rfl) ?_
  simp only [c118, go_sem, reduceCtorEq, Int.reduceNeg]
  refine loop_up l.length (ixEn l p F M) ⟨rfl, rfl, (by simp only [go_sem, *] <;> rfl), rfl⟩ ?_
  rintro i σ F' M' hi hs ⟨rfl, rfl, h8, ha⟩
  have s0 := hs 0 rfl
  have s1 := hs 1 rfl
  have s7 := hs 7 rfl
  simp only [go_sem, reduceCtorEq, Nat.reduceEqDiff] at s0 s1 s7
  clear hs
  by_cases hil : (i : Int) < l.length
  · have hi0 : (0 : Int) ≤ i := by omega
    have hil' : i < l.length := by omega
    have hle := h.1
    have ei : IntKind.i64.wrap ((i : Int) + 1) = i + 1 := w64 (by omega) (by omega)
    have t1 := List.take_succ_eq_append_getElem hil'
    have hfin : p l[i] = true → (l.any p = false ∧ Value.int .i64 (i : Int) = .int .i64 (-1)) ∨ ∃ j : Nat, Value.int .i64 (i : Int) = .int .i64 j ∧ ∃ hi : j < l.length, p l[j] = true ∧ (l.take j).any p = false := fun hv => .inr ⟨i, rfl, hil', hv, ha⟩
    obtain ⟨b, o, cs, rfl, hb, d1, d2⟩ := RdG.at h hil'
    have hq := hp l[i] (List.getElem_mem _)
    generalize l[i] = v at *
    simp only [go_sem, reduceCtorEq, reduceIte, Nat.reduceEqDiff, Int.reduceNeg, s0, s1, s7, h8, hil, hi0, Int.toNat_natCast, hb, d1, d2]
    refine callK_same hq ?_
    cases hv : p v
    · simp only [go_sem, reduceIte, Nat.reduceEqDiff, Int.reduceNeg, h8, ei]
      exact ⟨hil', rfl, rfl, (by simp only [go_sem, *] <;> rfl), by rw [t1, List.any_append, ha]; simp [hv]⟩
    · simp only [go_sem, Nat.reduceEqDiff, Int.reduceNeg]
      exact endK_same ⟨rfl, rfl, hfin hv⟩
  · rw [List.take_of_length_le (by omega)] at ha
    simp only [go_sem, reduceIte, Int.reduceNeg, s7, h8, hil]
    exact endK_same ⟨rfl, rfl, .inl ⟨ha, rfl⟩⟩
theorem k83 (ad : Option Addr) (cap : Nat) (l : List En) (g : Nat) (ca : List Value) (p : En → Bool) (h : RdG 3 En.cs F M (.slice ad l.length cap) l)
    (hp : ∀ v ∈ l, CallsA Tryz.prog g ([v.val] ++ ca) F M (Same F M (.bool (p v)))) :
    CallsA Tryz.prog 83 [.slice ad l.length cap, .func (.func g) #[] ca.toArray] F M (Same F M (.bool (l.any p))) := by
  refine callsA_of hm Tryz.func83 e83 (Nat.le_of_ble_eq_true rfl) ?_
  simp only [c83, go_sem, reduceCtorEq, Nat.reduceEqDiff]
  refine callK_of (k118 F M ad cap l g ca p h hp) ?_
  rintro r G M' ⟨hG, hM, hz⟩
  rw [hG, hM]
  refine ⟨(fun h => by cases h), ?_⟩
  rcases hz with ⟨hz, rfl⟩ | ⟨i, rfl, hi, hz, _⟩
  · simp only [go_sem, reduceIte, Int.reduceLE, Int.reduceNeg]
    exact endK_same ⟨by rw [hz], rfl, rfl⟩
  · have : l.any p = true := List.any_eq_true.2 ⟨_, List.getElem_mem hi, hz⟩
    have hi0 : (0 : Int) ≤ i := by omega
    simp only [go_sem, reduceIte, hi0]
    exact endK_same ⟨by rw [this], rfl, rfl⟩
theorem k120 (p : Pg) (sa : Option Addr) (sc : Nat) (sz : List Int) (c : Cl) (hs : intR F M sa sc sz) (hsz : ∀ b, 0 ≤ szAt sz b ∧ szAt sz b ≤ 32) (hp : p.ptr = 2 ∨ p.ptr = 4) (h : c.rd F M) :
    CallsA Tryz.prog 120 [p.val, .slice sa sz.length sc, c.val] F M (Same F M (.bool (cellB p.ptr sz c.pc))) := by
  refine callsA_of hm Tryz.func120 e120 (Nat.le_of_ble_eq_true rfl) ?_
  have hsl := hs.1
  have ew : IntKind.i64.wrap ((sz.length : Int) - 1) = sz.length - 1 := w64 (by omega) (by omega)
  simp only [c120, go_sem, Nat.reduceAdd]
  intro r3 hF3 hM3
  simp only [go_sem, reduceCtorEq, Nat.reduceEqDiff]
  intro r5 hF5 hM5
  simp only [upd_none2] at hM5
  have h5 : c.rd F ((M.upd r3 ⟨p.cs, 28, 7⟩).upd r5 ⟨c.cs, 87, 10⟩) := RdG.new (RdG.new h hF3 hM3) hF5 (by simp only [upd_none2, not_false_eq_true, and_self, *])
  have k1 := k141 F _ c h5
  have k2 := k142 F _ c.lA c.lC c.l ((sz.length : Int) - 1) h5
  cases hc : contentB c.pc
  · simp only [go_sem, reduceIte, Nat.reduceEqDiff]
    refine callK_same k1 ?_
    rw [hc]
    simp only [go_sem, reduceIte, Nat.reduceEqDiff]
    all_goals (refine endK_keep (M := M) (by repeat' first | exact Keep.refl _ | (refine Keep.new ?_ (by simp only [*]))) ⟨?_, rfl, rfl⟩)
    simp [cellB, hc]
  have hk : c.k = 0 ∨ c.k = 11 ∨ isS c.k = true := content_kind hc
  obtain ⟨n1, n4⟩ := spanK_in hp hk
  have k3 := k87 F ((M.upd r3 ⟨p.cs, 28, 7⟩).upd r5 ⟨c.cs, 87, 10⟩) p.big p.ptr c.k hk
  have hR : cellB p.ptr sz c.pc = ((decide (1 ≤ c.b) && decide (c.b < sz.length)) && decide (0 ≤ c.p) && knownB c.l ((sz.length : Int) - 1) && decide (c.p.tmod (spanK p.ptr c.k) = 0) && decide (c.p ≤ szAt sz c.b - spanK p.ptr c.k)) := by
    unfold cellB; rw [hc]; rfl
  rw [hR]
  have en : ¬ spanK p.ptr c.k = 0 := by omega
  have ez := hsz c.b
  have ew2 : IntKind.i64.wrap (szAt sz c.b - spanK p.ptr c.k) = szAt sz c.b - spanK p.ptr c.k := w64 (by omega) (by omega)
  rw [hc] at k1
  generalize spanK p.ptr c.k = n at *
  by_cases hb : 1 ≤ c.b ∧ c.b < sz.length
  rotate_left
  · clear k2 k3 h5 h hs hsz hk hR hc
    repeat' first
    | simp only [go_sem, reduceCtorEq, reduceIte, Nat.reduceEqDiff, Nat.reduceAdd, Nat.add_zero, *]
    | (with_reducible first | apply cD | apply cN | apply cB | apply cO | apply tD | apply fD | apply tN | apply fN | apply tB | apply fB | apply tO | apply fO) <;> intro hc
    | (intro rx hFx hMx; (try simp only [upd_none2] at hMx))
      | with_reducible refine callK_same k1 ?_
    all_goals try (exfalso; omega)
    all_goals (refine endK_keep (M := M) (by repeat' first | exact Keep.refl _ | (refine Keep.new ?_ (by simp only [*]))) ⟨?_, rfl, rfl⟩)
    all_goals clear k1
    all_goals (refine congrArg Value.bool ?_; first | rfl | ((try simp only [Bool.and_eq_true, Bool.or_eq_true, decide_eq_true_eq, Bool.and_eq_false_iff, Bool.or_eq_false_iff, decide_eq_false_iff_not, Bool.not_eq_true', Bool.not_eq_false', Bool.and_eq_false_imp] at *); rw [Bool.eq_iff_iff]; (try simp [*]); (try first | omega | (intros; omega) | (intros; exfalso; omega) | (simp_all; done) | (simp_all; omega))))
  obtain ⟨i, hi⟩ := Int.eq_ofNat_of_zero_le (by omega : 0 ≤ c.b)
  have hil : i < sz.length := by omega
  have hi0 : (0 : Int) ≤ i := by omega
  have hil' : (i : Int) < sz.length := by omega
  obtain ⟨b, o, cs, rfl, hb', d1⟩ := Ax.int_at hs hil
  have es := szAt_get hil
  rw [hi] at ez ew2
  rw [es] at ez ew2
  obtain ⟨hb1, hb2⟩ := hb
  have e1 : ¬ c.b < 1 := by omega
  have e2 : ¬ (sz.length : Int) ≤ c.b := by omega
  have hR2 : ((decide (1 ≤ c.b) && decide (c.b < sz.length)) && decide (0 ≤ c.p) && knownB c.l ((sz.length : Int) - 1) && decide (c.p.tmod n = 0) && decide (c.p ≤ szAt sz c.b - n)) = (decide (0 ≤ c.p) && knownB c.l ((sz.length : Int) - 1) && decide (c.p.tmod n = 0) && decide (c.p ≤ sz[i] - n)) := by
    rw [decide_eq_true hb1, decide_eq_true hb2, hi, es]; rfl
  rw [hR2]
  generalize sz[i] = z at *
  rw [hi] at e1 e2
  clear hR hR2 hsz hs h h5 hb1 hb2 es hk hc ez
  repeat' first
    | simp only [go_sem, reduceCtorEq, reduceIte, Nat.reduceEqDiff, Nat.reduceAdd, Nat.reduceLeDiff, blk_upd_known, Option.isSome_some, Int.toNat_natCast, Nat.add_zero, *]
    | (with_reducible first | apply cD | apply cN | apply cB | apply cO | apply tD | apply fD | apply tN | apply fN | apply tB | apply fB | apply tO | apply fO) <;> intro hc
    | (intro rx hFx hMx; (try simp only [upd_none2] at hMx))
    | with_reducible refine callK_same k1 ?_
    | with_reducible refine callK_same k2 ?_
    | with_reducible refine callK_same k3 ?_
  all_goals (refine endK_keep (M := M) (by repeat' first | exact Keep.refl _ | (refine Keep.new ?_ (by simp only [*]))) ⟨?_, rfl, rfl⟩)
  all_goals clear k1 k2 k3
  all_goals (refine congrArg Value.bool ?_; first | rfl | ((try simp only [Bool.and_eq_true, Bool.or_eq_true, decide_eq_true_eq, Bool.and_eq_false_iff, Bool.or_eq_false_iff, decide_eq_false_iff_not, Bool.not_eq_true', Bool.not_eq_false', Bool.and_eq_false_imp] at *); rw [Bool.eq_iff_iff]; (try simp [*]); (try first | omega | (intros; omega) | (intros; exfalso; omega) | (simp_all; done) | (simp_all; omega))))
theorem k119 (n : Int) : CallsA Tryz.prog 119 [.int .i64 n] F M (Same F M (.bool (!inB n))) := by
  refine callsA_of hm Tryz.func119 e119 (Nat.le_of_ble_eq_true rfl) ?_
  simp only [c119, go_sem, reduceCtorEq, reduceIte]
  repeat' first
    | simp only [go_sem, reduceCtorEq, reduceIte, Nat.reduceEqDiff, *]
    | (with_reducible first | apply cD | apply cN | apply cB | apply cO | apply tD | apply fD | apply tN | apply fN | apply tB | apply fB | apply tO | apply fO) <;> intro hc
    | (intro rx hFx hMx; (try simp only [upd_none2] at hMx))
  all_goals (refine endK_keep (M := M) (by repeat' first | exact Keep.refl _ | (refine Keep.new ?_ (by simp only [*]))) ⟨?_, rfl, rfl⟩)
  all_goals (refine congrArg Value.bool ?_; first | rfl | ((try simp only [Bool.and_eq_true, Bool.or_eq_true, decide_eq_true_eq, Bool.and_eq_false_iff, Bool.or_eq_false_iff, decide_eq_false_iff_not, Bool.not_eq_true', Bool.not_eq_false', Bool.and_eq_false_imp] at *); rw [Bool.eq_iff_iff]; (try simp [inB, *]); (try first | omega | (intros; omega) | (intros; exfalso; omega) | (simp_all; done) | (simp_all; omega))))
def envI (p : Pg) (e : En) (F : Fz) (M1 : Hp) (i : Nat) (σ : Env) (F' : Fz) (M' : Hp) : Prop :=
  F = F' ∧ Keep M1 M' ∧ Old F M' ∧ Ax.look σ 39 = some (.int .i64 i) ∧ cellsUp p.ptr (sizesL p) e.pe.cells i = true
theorem k85 (p : Pg) (e : En) (hp : p.rd F) (hold : Old F M) (hc : progC p = true) (h : e.rd F M) (hfe : e.cells.length ≤ 100000 ∧ e.news.length ≤ 100000) : CallsA Tryz.prog 85 [p.val, e.val] F M (Same F M (.bool (envB p e.pe))) := by
  refine callsA_of hm Tryz.func85 e85 (Nat.le_of_ble_eq_true rfl) ?_
  have hfew := hp.few
  have hl1 := h.cells.1
  have hl2 := h.news.1
  have hpre := progC_pre hc
  have hsl := sizes_len p
  simp only [c85, go_sem]
  intro r2 hF2 hM2
  simp only [go_sem, reduceCtorEq, Nat.reduceEqDiff]
  intro r3 hF3 hM3
  simp only [upd_none2] at hM3
  have old3 : Old F ((M.upd r2 ⟨p.cs, 28, 7⟩).upd r3 ⟨e.cs, 38, 3⟩) := (by repeat' first | assumption | (refine Old.upd ?_ (by assumption)))
  have f2 : ((M.upd r2 ⟨p.cs, 28, 7⟩).upd r3 ⟨e.cs, 38, 3⟩) r2 = some ⟨p.cs, 28, 7⟩ := by rw [Hp.upd_ne' hM3.1.2]; exact Hp.upd_same _ _ _
  have f3 : ((M.upd r2 ⟨p.cs, 28, 7⟩).upd r3 ⟨e.cs, 38, 3⟩) r3 = some ⟨e.cs, 38, 3⟩ := Hp.upd_same _ _ _
  have kp3 : Keep M ((M.upd r2 ⟨p.cs, 28, 7⟩).upd r3 ⟨e.cs, 38, 3⟩) := (by repeat' first | exact Keep.refl _ | (refine Keep.new ?_ (by simp only [*])))
  generalize (M.upd r2 ⟨p.cs, 28, 7⟩).upd r3 ⟨e.cs, 38, 3⟩ = M1 at *
  have h1 := h.keep kp3 old3
  have b2 := blk_M (F := F) f2
  have b3 := blk_M (F := F) f3
  clear hM2 hM3 hF2 hF3
  have no : ∀ v : Bool, envB p e.pe = v → ∀ M', Keep M1 M' → endK F M' (Same F M (.bool (envB p e.pe))) (.bool v) := fun v h M' k => endK_keep (kp3.trans k) ⟨by rw [h], rfl, rfl⟩
  have hlen : e.pe.cells.length = e.cells.length := by simp [En.pe]
  by_cases hno : e.no = true
  · have ew : IntKind.i64.wrap ((e.cells.length : Int) + e.news.length) = e.cells.length + e.news.length := w64 (by omega) (by omega)
    simp only [go_sem, reduceIte, Nat.reduceEqDiff, b3, hno, ew]
    refine no _ ?_ _ (Keep.refl _)
    have : e.pe.no = true := hno
    unfold envB
    rw [if_pos this, hlen]
    show (decide (e.cells.length = 0) && decide (e.news.length = 0)) = _
    by_cases h0 : e.cells.length = 0
    · by_cases h1 : e.news.length = 0
      · simp [h0, h1]
      · simp [h0, h1]
    · have : ¬ (e.cells.length : Int) + e.news.length = 0 := by omega
      simp [h0, this]
  have hno' : e.no = false := by simpa using hno
  have hR : envB p e.pe = (decide (e.cells.length ≤ 200) && decide (e.news.length = p.news.length) && e.news.all inB && cellsUp p.ptr (sizesL p) e.pe.cells e.cells.length) := by
    have : ¬ e.pe.no = true := hno
    unfold envB
    rw [if_neg this, hlen]; rfl
  by_cases h200 : (200 : Int) < e.cells.length
  · have : ¬ e.cells.length ≤ 200 := by omega
    simp only [go_sem, reduceIte, Nat.reduceEqDiff, b3, hno', h200]
    exact no _ (by rw [hR]; simp [this]) _ (Keep.refl _)
  have h200' : e.cells.length ≤ 200 := by omega
  by_cases hnn : (e.news.length : Int) = p.news.length
  rotate_left
  · have : ¬ e.news.length = p.news.length := by omega
    simp only [go_sem, reduceCtorEq, reduceIte, Nat.reduceEqDiff, b2, b3, hno', h200, hnn]
    exact no _ (by rw [hR]; simp [this]) _ (Keep.refl _)
  have hnn' : e.news.length = p.news.length := by omega
  rw [decide_eq_true h200', decide_eq_true hnn'] at hR
  have kn := k58 F M1 e.newsA e.newsC e.news _ [] (fun v => !inB v) h1.news (fun v _ => k119 F M1 v)
  have e9 : (e.news.any fun v => !inB v) = !e.news.all inB := (List.not_all_eq_any_not).symm
  rw [e9] at kn
  simp only [go_sem, reduceCtorEq, reduceIte, Nat.reduceEqDiff, b2, b3, hno', h200, hnn]
  refine callK_same kn ?_
  cases hall : e.news.all inB
  · simp only [go_sem]
    exact no _ (by rw [hR, hall]; simp) _ (Keep.refl _)
  rw [hall, Bool.true_and, Bool.true_and] at hR
  simp only [go_sem, reduceIte, Nat.reduceEqDiff, b2]
  refine callK_of (k105 F M1 p hp old3) ?_
  rintro u G M2 hq
  obtain ⟨hG, le, kq, oq, aq, cq, rfl, rdq⟩ := hq.le intC_len (by omega)
  rw [hG]
  refine ⟨(fun h => by cases h), ?_⟩
  have old2 := oq old3
  have h2 := h1.keep kq old2
  have b2' := blk_M (F := F) (kq _ _ f2)
  have b3' := blk_M (F := F) (kq _ _ f3)
  have g2 := kq _ _ f2
  have g3 := kq _ _ f3
  clear le oq hq hG e9 kn h1 old3
  simp only [go_sem, Nat.reduceEqDiff, b3']
  refine loop_up e.cells.length (envI p e F M2) ⟨rfl, Keep.refl _, old2, (by simp only [go_sem, *] <;> rfl), rfl⟩ ?_
  rintro i σ F' M3 hi hs ⟨rfl, kp, old, q39, he⟩
  have q2 := hs 2 rfl
  have q3 := hs 3 rfl
  have q5 := hs 5 rfl
  have q37 := hs 37 rfl
  have q38 := hs 38 rfl
  simp only [go_sem, Nat.reduceEqDiff] at q2 q3 q5 q37 q38
  clear hs
  by_cases hil : (i : Int) < e.cells.length
  rotate_left
  · have hx : i = e.cells.length := by omega
    simp only [go_sem, reduceIte, q38, q39, hil]
    exact no _ (by rw [hR, ← hx, he]; rfl) _ (kq.trans kp)
  have hi0 : (0 : Int) ≤ i := by omega
  have hi1 : i < e.cells.length := by omega
  have ei : IntKind.i64.wrap ((i : Int) + 1) = i + 1 := w64 (by omega) (by omega)
  obtain ⟨b, o, cs, ea, hb, rows⟩ := (h2.cells.keep kp old).rows (by omega)
  obtain ⟨d1, d2⟩ := rows i hi1
  have rz := rdq.keep kp old
  have hci : e.cells[i].rd F M3 := RdG.keep (h2.ptrs _ (List.getElem_mem hi1)) kp old
  have hup : upAt p.ptr (sizesL p) e.pe.cells i = (cellB p.ptr (sizesL p) e.cells[i].pc && (decide (i = 0) || prevOk e.pe.cells i e.cells[i].pc)) := by
    have : e.pe.cells[i]? = some e.cells[i].pc := by simp [En.pe, List.getElem?_eq_getElem hi1]
    exact upAt_get this
  have hno2 : upAt p.ptr (sizesL p) e.pe.cells i = false → envB p e.pe = false := fun h => by rw [hR, cellsUp_no hi1 h]; rfl
  have hpr : ∀ hi2 : 0 < i, ∃ y : Cl, (cs.drop (o + (i - 1) * 10)).take 10 = y.cs ∧ o + (i - 1) * 10 + 10 ≤ cs.length ∧ prevOk e.pe.cells i e.cells[i].pc = beforeB y.pc e.cells[i].pc := fun hi2 => by
    have hi3 : i - 1 < e.cells.length := by omega
    obtain ⟨d3, d4⟩ := rows (i - 1) hi3
    exact ⟨e.cells[i - 1], d4, d3, prevOk_get (by simp [En.pe, List.getElem?_eq_getElem hi3])⟩
  clear rows
  generalize e.cells[i] = x at *
  have no3 : upAt p.ptr (sizesL p) e.pe.cells i = false → ∀ M', Keep M3 M' → endK F M' (Same F M (.bool (envB p e.pe))) (.bool false) := fun h M' k => no _ (hno2 h) _ ((kq.trans kp).trans k)
  have yes : upAt p.ptr (sizesL p) e.pe.cells i = true → ∀ σ' M', Keep M3 M' → Old F M' → Ax.look σ' 39 = some (.int .i64 ((i + 1 : Nat) : Int)) → Nxt (envI p e F M2) e.cells.length i σ' F M' :=
    fun h σ' M' k o e39 => ⟨hi1, rfl, kp.trans k, o, e39, by rw [cellsUp_succ, he, h]; rfl⟩
  rw [hup] at no3 yes
  have g2' := kp _ _ g2
  have g3' := kp _ _ g3
  clear hup hno2 he hR no
  simp only [go_sem, reduceIte, Nat.reduceEqDiff, Nat.reduceAdd, q37, q38, q39, hil, hi0, ea, Int.toNat_natCast, hb, d1, d2]
  intro r7 hF7 hM7
  have n2 := ne_of_none hM7 g2'
  have n3 := ne_of_none hM7 g3'
  have nb := ne_of_blk hb hF7 hM7
  have kp7 : Keep M3 (M3.upd r7 ⟨x.cs, 87, 10⟩) := (Keep.refl M3).new hM7
  have old7 : Old F (M3.upd r7 ⟨x.cs, 87, 10⟩) := old.upd hF7
  have g2'' := kp7 _ _ g2'
  have g3'' := kp7 _ _ g3'
  have b2'' := blk_M (F := F) g2''
  have b3'' := blk_M (F := F) g3''
  have b7 := blk_M (F := F) (Hp.upd_same M3 r7 ⟨x.cs, 87, 10⟩)
  have kc := k120 F _ p _ _ _ x (rz.keep kp7 old7) (sizes_in hc) hpre.1 (RdG.keep hci kp7 old7)
  have hb7 := blk_keep hb kp7 old7
  simp only [setH, Hp.upd_upd, go_sem, Nat.reduceEqDiff, Nat.reduceAdd]
  generalize M3.upd r7 ⟨x.cs, 87, 10⟩ = M7 at *
  simp only [go_sem, reduceIte, Nat.reduceEqDiff, q2, q5, b2'', b7]
  refine callK_same kc ?_
  cases hcb : cellB p.ptr (sizesL p) x.pc
  · simp only [go_sem, reduceIte, Nat.reduceEqDiff]
    exact no3 (by rw [hcb]; rfl) _ kp7
  rw [hcb, Bool.true_and] at no3 yes
  by_cases hz : (0 : Int) < i
  rotate_left
  · have hz' : i = 0 := by omega
    simp only [go_sem, reduceCtorEq, reduceIte, Nat.reduceEqDiff, q39, hz, ei]
    exact yes (by rw [hz']; rfl) _ _ kp7 old7 (by simp only [go_sem, Nat.reduceMul, Int.reduceAdd, *] <;> rfl)
  have hz' : 0 < i := by omega
  have hz0 : ¬ i = 0 := by omega
  obtain ⟨y, d3, d4, hy⟩ := hpr hz'
  rw [hy, decide_eq_false hz0, Bool.false_or] at no3 yes
  have ej : IntKind.i64.wrap ((i : Int) - 1) = ((i - 1 : Nat) : Int) := by rw [w64 (by omega) (by omega)]; omega
  have hj0 : (0 : Int) ≤ ((i - 1 : Nat) : Int) := by omega
  have hjl : ((i - 1 : Nat) : Int) < e.cells.length := by omega
  simp only [go_sem, reduceIte, Nat.reduceEqDiff, q3, hz, b3'', b7, ej, hj0, hjl, ea, Int.toNat_natCast, hb7, d3, d4]
  refine callK_same (k121 F M7 y x) ?_
  have ho := ord_before y.pc x.pc
  cases hbf : beforeB y.pc x.pc
  · have : (0 : Int) ≤ ordV y.pc x.pc := by rw [hbf] at ho; simpa using ho
    simp only [go_sem, reduceCtorEq, reduceIte, Nat.reduceEqDiff, this]
    exact no3 hbf _ kp7
  · have : ¬ (0 : Int) ≤ ordV y.pc x.pc := by rw [hbf] at ho; simpa using ho
    simp only [go_sem, reduceCtorEq, reduceIte, Nat.reduceEqDiff, this, q39, ei]
    exact yes hbf _ _ kp7 old7 (by simp only [go_sem, *] <;> rfl)
theorem k84 (p : Pg) (e : En) (r2 : Nat) (e2 : Ent) (h2 : M r2 = some e2) (c2 : e2.cells = p.cs) (hp : p.rd F) (hold : Old F M) (hc : progC p = true) (h : e.rd F M) (hfe : e.cells.length ≤ 100000 ∧ e.news.length ≤ 100000) :
    CallsA Tryz.prog 84 [e.val, .pointer (some ⟨r2, 0, none⟩)] F M (Same F M (.bool (!envB p e.pe))) := by
  refine callsA_of hm Tryz.func84 e84 (Nat.le_of_ble_eq_true rfl) ?_
  have b2 := blk_M (F := F) h2
  rw [c2] at b2
  simp only [c84, go_sem]
  intro r3 hF3 hM3
  have n2 := ne_of_none hM3 h2
  simp only [go_sem, reduceCtorEq, reduceIte, Nat.reduceEqDiff, n2, b2]
  refine callK_same (k85 F _ p e hp (hold.upd hF3) hc (h.new hF3 hM3) hfe) ?_
  simp only [go_sem]
  all_goals (refine endK_keep (M := M) (by repeat' first | exact Keep.refl _ | (refine Keep.new ?_ (by simp only [*]))) ⟨?_, rfl, rfl⟩)
  rfl
theorem k44 (p : Pg) (a : Option Addr) (c : Nat) (l : List En) (hp : p.rd F) (hold : Old F M) (hl : RdG 3 En.cs F M (.slice a l.length c) l) (h : ∀ e ∈ l, e.rd F M) (hfe : ∀ e ∈ l, e.cells.length ≤ 100000 ∧ e.news.length ≤ 100000) :
    CallsA Tryz.prog 44 [p.val, .slice a l.length c] F M (Same F M (.bool (progC p && l.all fun e => envB p e.pe))) := by
  refine callsA_of hm Tryz.func44 e44 (Nat.le_of_ble_eq_true rfl) ?_
  simp only [c44, go_sem]
  intro r2 hF2 hM2
  have old2 := hold.upd (e := ⟨p.cs, 28, 7⟩) hF2
  simp only [go_sem, reduceIte, Nat.reduceEqDiff]
  refine callK_same (k27 F _ p hp old2) ?_
  cases hc : progC p
  · simp only [go_sem, reduceCtorEq, reduceIte, Nat.reduceEqDiff]
    all_goals (refine endK_keep (M := M) (by repeat' first | exact Keep.refl _ | (refine Keep.new ?_ (by simp only [*]))) ⟨?_, rfl, rfl⟩)
    rfl
  have kc := k83 F (M.upd r2 ⟨p.cs, 28, 7⟩) a c l _ [.pointer (some ⟨r2, 0, none⟩)] (fun e => !envB p e.pe) (hl.new hF2 hM2) (fun e he => k84 F _ p e r2 _ (Hp.upd_same _ _ _) rfl hp old2 hc ((h e he).new hF2 hM2) (hfe e he))
  have e9 : (l.any fun e => !envB p e.pe) = !l.all fun e => envB p e.pe := (List.not_all_eq_any_not).symm
  rw [e9] at kc
  simp only [go_sem, reduceCtorEq, Nat.reduceEqDiff]
  refine callK_same kc ?_
  simp only [go_sem, reduceIte, Nat.reduceEqDiff]
  all_goals (refine endK_keep (M := M) (by repeat' first | exact Keep.refl _ | (refine Keep.new ?_ (by simp only [*]))) ⟨?_, rfl, rfl⟩)
  simp
end Go.Proofs.Tryz.K
