/- Parts B5: the machine's runs of small codes, contracts of functions, plain facts. -/
import Derived.Test.YtjmgdglhhiccoaaGreatB4
namespace Go.Proofs.Tryz.K
open Go Go.Ax Go.Proofs.Tryz.S
set_option maxRecDepth 100000
set_option linter.unusedSimpArgs false
set_option linter.unusedVariables false
set_option maxHeartbeats 4000000
variable (F : Fz) (M : Hp)
theorem k48 (op : Int) : CallsA Tryz.prog 48 [.int .i64 op] F M (Same F M (.int .i64 (manyV op))) := by
  refine callsA_of hm Tryz.func48 e48 (Nat.le_of_ble_eq_true rfl) ?_
  simp only [c48, go_sem, reduceCtorEq, reduceIte]
  repeat' first
    | simp only [go_sem, reduceCtorEq, reduceIte, Nat.reduceEqDiff, *]
    | (with_reducible first | apply cD | apply cN | apply cB | apply cO | apply tD | apply fD | apply tN | apply fN | apply tB | apply fB | apply tO | apply fO) <;> intro hc
    | (intro rx hFx hMx; (try simp only [upd_none2] at hMx))
    | refine callK_same (k33 _ _ _ _ _) ?_
  all_goals (refine endK_keep (M := M) (by repeat' first | exact Keep.refl _ | (refine Keep.new ?_ (by simp only [*]))) ⟨?_, rfl, rfl⟩)
  all_goals simp_all [manyV]
theorem k49 (k : Int) : CallsA Tryz.prog 49 [.int .i64 k] F M (Same F M (.bool (decide (0 < wK k)))) := by
  refine callsA_of hm Tryz.func49 e49 (Nat.le_of_ble_eq_true rfl) ?_
  simp only [c49, go_sem, reduceCtorEq]
  repeat' first
    | simp only [go_sem, reduceIte, *]
    | (with_reducible first | apply cD | apply cN | apply cB | apply cO | apply tD | apply fD | apply tN | apply fN | apply tB | apply fB | apply tO | apply fO) <;> intro hc
    | (intro rx hFx hMx; (try simp only [upd_none2] at hMx))
    | refine callK_same (k51 _ _ _) ?_
  all_goals (refine endK_keep (M := M) (by repeat' first | exact Keep.refl _ | (refine Keep.new ?_ (by simp only [*]))) ⟨?_, rfl, rfl⟩)
  all_goals rfl
theorem k22 (big : Bool) (ptr : Int) : CallsA Tryz.prog 22 [.agg #[.bool big, .int .i64 ptr]] F M (Same F M (.bool (decide (ptr = 2) || decide (ptr = 4)))) := by
  refine callsA_of hm Tryz.func22 e22 (Nat.le_of_ble_eq_true rfl) ?_
  simp only [c22, go_sem, Nat.reduceAdd]
  repeat' first
    | simp only [go_sem, reduceCtorEq, reduceIte, Nat.reduceEqDiff, Int.reduceEq, *]
    | (with_reducible first | apply cD | apply cN | apply cB | apply cO | apply tD | apply fD | apply tN | apply fN | apply tB | apply fB | apply tO | apply fO) <;> intro hc
    | (intro rx hFx hMx; (try simp only [upd_none2] at hMx))
  all_goals (refine endK_keep (M := M) (by repeat' first | exact Keep.refl _ | (refine Keep.new ?_ (by simp only [*]))) ⟨?_, rfl, rfl⟩)
  all_goals simp_all
def sizeK (ptr k : Int) : Int := if k = 7 then ptr else (wK k).tdiv 8
theorem k77 (big : Bool) (ptr k : Int) : CallsA Tryz.prog 77 [.agg #[.bool big, .int .i64 ptr], .int .i64 k] F M (Same F M (.int .i64 (sizeK ptr k))) := by
  refine callsA_of hm Tryz.func77 e77 (Nat.le_of_ble_eq_true rfl) ?_
  have hw : 0 ≤ wK k ∧ wK k ≤ 32 := by
    unfold wK ofW
    split
    · split
      · omega
      split <;> omega
    · omega
  have hd : IntKind.i64.wrap ((wK k).tdiv 8) = (wK k).tdiv 8 := by
    rw [Int.tdiv_eq_ediv_of_nonneg hw.1]
    exact w64 (by omega) (by omega)
  simp only [c77, go_sem, Nat.reduceAdd]
  repeat' first
    | simp only [go_sem, reduceCtorEq, reduceIte, Nat.reduceEqDiff, Int.reduceEq, *]
    | (with_reducible first | apply cD | apply cN | apply cB | apply cO | apply tD | apply fD | apply tN | apply fN | apply tB | apply fB | apply tO | apply fO) <;> intro hc
    | (intro rx hFx hMx; (try simp only [upd_none2] at hMx))
    | refine callK_same (k51 _ _ _) ?_
  all_goals (refine endK_keep (M := M) (by repeat' first | exact Keep.refl _ | (refine Keep.new ?_ (by simp only [*]))) ⟨?_, rfl, rfl⟩)
  all_goals simp_all [sizeK]
theorem k125 (big : Bool) (ptr k : Int) (hk : isS k = true) : CallsA Tryz.prog 125 [.agg #[.bool big, .int .i64 ptr], .int .i64 k] F M (Same F M (.int .i64 (sizeK ptr k))) := by
  refine callsA_of hm Tryz.func125 e125 (Nat.le_of_ble_eq_true rfl) ?_
  have hw : 0 ≤ ofW k ∧ ofW k ≤ 32 := by
    unfold ofW
    split
    · omega
    split <;> omega
  have hd : IntKind.i64.wrap ((ofW k).tdiv 8) = (ofW k).tdiv 8 := by
    rw [Int.tdiv_eq_ediv_of_nonneg hw.1]
    exact w64 (by omega) (by omega)
  have hkk : k = 7 ∨ isK k = true := by
    simp [isS, isK] at hk ⊢; omega
  by_cases h7 : k = 7
  · simp only [c125, go_sem, Nat.reduceAdd]
    repeat' first
    | simp only [go_sem, reduceCtorEq, reduceIte, Nat.reduceEqDiff, *]
    | (with_reducible first | apply cD | apply cN | apply cB | apply cO | apply tD | apply fD | apply tN | apply fN | apply tB | apply fB | apply tO | apply fO) <;> intro hc
    | (intro rx hFx hMx; (try simp only [upd_none2] at hMx))
    all_goals (refine endK_keep (M := M) (by repeat' first | exact Keep.refl _ | (refine Keep.new ?_ (by simp only [*]))) ⟨?_, rfl, rfl⟩)
    all_goals simp_all [sizeK]
  · have hk6 : isK k = true := by simpa [h7] using hkk
    simp only [c125, go_sem, Nat.reduceAdd]
    repeat' first
    | simp only [go_sem, reduceCtorEq, reduceIte, Nat.reduceEqDiff, Int.reduceEq, *]
    | (with_reducible first | apply cD | apply cN | apply cB | apply cO | apply tD | apply fD | apply tN | apply fN | apply tB | apply fB | apply tO | apply fO) <;> intro hc
    | (intro rx hFx hMx; (try simp only [upd_none2] at hMx))
      | refine callK_same (k112 _ _ _ hk6) ?_
    all_goals (refine endK_keep (M := M) (by repeat' first | exact Keep.refl _ | (refine Keep.new ?_ (by simp only [*]))) ⟨?_, rfl, rfl⟩)
    all_goals simp_all [sizeK, wK]
theorem k53 (p : Pg) (e k : Int) (hp : p.rd F) (hold : Old F M) : CallsA Tryz.prog 53 [p.val, .int .i64 e, .int .i64 k] F M (Same F M (.bool (ofEB p.exprs e k))) := by
  refine callsA_of hm Tryz.func53 e53 (Nat.le_of_ble_eq_true rfl) ?_
  have hl := hp.few.2.2.1
  have ew : IntKind.i64.wrap ((p.exprs.length : Int) - 1) = p.exprs.length - 1 := w64 (by omega) (by omega)
  by_cases hn : numB e ((p.exprs.length : Int) - 1) = true
  · have hn' := hn
    simp only [numB, Bool.and_eq_true, decide_eq_true_eq] at hn'
    obtain ⟨i, rfl⟩ := Int.eq_ofNat_of_zero_le hn'.1
    have hi : i < p.exprs.length := by omega
    have hi0 : (0 : Int) ≤ i := by omega
    have hil : (i : Int) < p.exprs.length := by omega
    have hil1 : (i : Int) ≤ p.exprs.length - 1 := by omega
    simp only [c53, go_sem, Nat.reduceAdd]
    intro r3 hF3 hM3
    obtain ⟨b, o, cs, ea, hb, d1, d2, d3⟩ := xp_at F (M.upd r3 ⟨p.cs, 28, 7⟩) hp (hold.upd hF3) hi
    have hk : kindAt p.exprs i = p.exprs[i].kind := by
      unfold kindAt
      rw [Int.toNat_natCast, List.getElem?_eq_getElem hi]; rfl
    generalize p.exprs[i].kind = q at *
    simp only [go_sem, reduceCtorEq, reduceIte, Nat.reduceEqDiff, ew]
    refine callK_same (k32 _ _ _ _) ?_
    simp only [go_sem, reduceCtorEq, reduceIte, Nat.reduceEqDiff, hi0, hil, hil1, ea, Int.toNat_natCast, hb, d3]
    refine endK_keep (M := M) ((Keep.refl M).new hM3) ⟨?_, rfl, rfl⟩
    simp [ofEB, hn, hk]
  · simp only [c53, go_sem, Nat.reduceAdd]
    intro r3 hF3 hM3
    simp only [go_sem, reduceCtorEq, reduceIte, Nat.reduceEqDiff, ew]
    refine callK_same (k32 _ _ _ _) ?_
    have hn' : (decide (0 ≤ e) && decide (e ≤ (p.exprs.length : Int) - 1)) = false := by simpa [numB] using hn
    simp only [go_sem, hn']
    refine endK_keep (M := M) ((Keep.refl M).new hM3) ⟨?_, rfl, rfl⟩
    simp [ofEB, hn]
theorem k39 (a1 a2 : Option Addr) (c1 c2 : Nat) (l1 l2 : List Int) (h1 : intR F M a1 c1 l1) (h2 : intR F M a2 c2 l2) :
    CallsA Tryz.prog 39 [.slice a1 l1.length c1, .slice a2 l2.length c2] F M (Same F M (.bool (decide (l1 = l2)))) := by
  refine callsA_of hm Tryz.func39 e39 (Nat.le_of_ble_eq_true rfl) ?_
  have hm := h1.1
  by_cases hlen : (l1.length : Int) = l2.length
  rotate_left
  · simp only [c39, go_sem, reduceCtorEq, reduceIte, Nat.reduceEqDiff, hlen]
    exact endK_same ⟨by rw [decide_eq_false (by rintro rfl; exact hlen rfl)], rfl, rfl⟩
  simp only [c39, go_sem, reduceCtorEq, reduceIte, Nat.reduceEqDiff, hlen]
  refine loop_up l1.length (fun i σ F' M' => F = F' ∧ M = M' ∧ Ax.look σ 5 = some (.int .i64 i) ∧ l1.take i = l2.take i) ⟨rfl, rfl, (by simp only [go_sem, *] <;> rfl), by simp⟩ ?_
  rintro i σ F' M' hi hs ⟨rfl, rfl, h5, he⟩
  have s0 := hs 0 rfl
  have s1 := hs 1 rfl
  by_cases hil : (i : Int) < l2.length
  rotate_left
  · have : l1 = l2 := by
      rw [List.take_of_length_le (by omega), List.take_of_length_le (by omega)] at he
      exact he
    repeat' first
    | simp only [go_sem, reduceCtorEq, reduceIte, Nat.reduceEqDiff, *]
    | (with_reducible first | apply cD | apply cN | apply cB | apply cO | apply tD | apply fD | apply tN | apply fN | apply tB | apply fB | apply tO | apply fO) <;> intro hc
    | (intro rx hFx hMx; (try simp only [upd_none2] at hMx))
    all_goals (refine endK_keep (M := M) (by repeat' first | exact Keep.refl _ | (refine Keep.new ?_ (by simp only [*]))) ⟨?_, rfl, rfl⟩)
    simp []
  have hi0 : (0 : Int) ≤ i := by omega
  have hi1 : i < l1.length := by omega
  have hi2 : i < l2.length := by omega
  have ei : IntKind.i64.wrap ((i : Int) + 1) = i + 1 := w64 (by omega) (by omega)
  obtain ⟨b, o, cs, rfl, hb, d1⟩ := int_at h1 hi1
  obtain ⟨b', o', cs', rfl, hb', d2⟩ := int_at h2 hi2
  have t1 := List.take_succ_eq_append_getElem hi1
  have t2 := List.take_succ_eq_append_getElem hi2
  have hne : ¬ l1[i] = l2[i] → ¬ l1 = l2 := by
    rintro h rfl; exact h rfl
  generalize l1[i] = x at *
  generalize l2[i] = y at *
  by_cases hxy : x = y
  · simp only [go_sem, reduceCtorEq, reduceIte, Nat.reduceEqDiff, s0, s1, h5, hlen, hil, hi0, Int.toNat_natCast, hb, hb', d1, d2, hxy, ei]
    exact ⟨hi1, rfl, rfl, (by simp only [go_sem, *] <;> rfl), by rw [t1, t2, he, hxy]⟩
  · simp only [go_sem, reduceCtorEq, reduceIte, Nat.reduceEqDiff, s0, s1, h5, hlen, hil, hi0, Int.toNat_natCast, hb, hb', d1, d2, hxy]
    exact endK_same ⟨by rw [decide_eq_false (hne hxy)], rfl, rfl⟩
theorem k54 (s t : Sm) (h1 : intR F M s.ba s.bc s.body) (h2 : intR F M s.ea s.ec s.els) (h3 : intR F M t.ba t.bc t.body) (h4 : intR F M t.ea t.ec t.els) :
    CallsA Tryz.prog 54 [s.val, t.val] F M (Same F M (.bool (decide (s.op = t.op) && decide (s.to = t.to) && decide (s.kind = t.kind) && decide (s.e = t.e) && decide (s.n = t.n) && decide (s.body = t.body) && decide (s.els = t.els)))) := by
  refine callsA_of hm Tryz.func54 e54 (Nat.le_of_ble_eq_true rfl) ?_
  simp only [c54, go_sem]
  intro r2 hF2 hM2
  simp only [go_sem, reduceCtorEq, Nat.reduceEqDiff]
  intro r3 hF3 hM3
  simp only [upd_none2] at hM3
  have b1 := (h1.new hF2 hM2 (e := ⟨s.cs, 74, 7⟩)).new hF3 (by simp only [upd_none2, not_false_eq_true, and_self, *]) (e := ⟨t.cs, 74, 7⟩)
  have b2 := (h2.new hF2 hM2 (e := ⟨s.cs, 74, 7⟩)).new hF3 (by simp only [upd_none2, not_false_eq_true, and_self, *]) (e := ⟨t.cs, 74, 7⟩)
  have b3 := (h3.new hF2 hM2 (e := ⟨s.cs, 74, 7⟩)).new hF3 (by simp only [upd_none2, not_false_eq_true, and_self, *]) (e := ⟨t.cs, 74, 7⟩)
  have b4 := (h4.new hF2 hM2 (e := ⟨s.cs, 74, 7⟩)).new hF3 (by simp only [upd_none2, not_false_eq_true, and_self, *]) (e := ⟨t.cs, 74, 7⟩)
  repeat' first
    | simp only [go_sem, reduceCtorEq, reduceIte, Nat.reduceEqDiff, blk_upd_known, Option.isSome_some, Nat.add_zero, *]
    | (with_reducible first | apply cD | apply cN | apply cB | apply cO | apply tD | apply fD | apply tN | apply fN | apply tB | apply fB | apply tO | apply fO) <;> intro hc
    | (intro rx hFx hMx; (try simp only [upd_none2] at hMx))
    | refine callK_same (k39 _ _ _ _ _ _ _ _ b1 b3) ?_
    | refine callK_same (k39 _ _ _ _ _ _ _ _ b2 b4) ?_
  all_goals (refine endK_keep (M := M) (by repeat' first | exact Keep.refl _ | (refine Keep.new ?_ (by simp only [*]))) ⟨?_, rfl, rfl⟩)
  all_goals simp_all
theorem k23 (a : Option Addr) (c : Nat) (l : List Int) (most : Int) (h : intR F M a c l) (h0 : 0 ≤ most) (h100 : most ≤ 100) :
    CallsA Tryz.prog 23 [.slice a l.length c, .int .i64 most] F M (Same F M (.bool (sizesB l most.toNat))) := by
  refine callsA_of hm Tryz.func23 e23 (Nat.le_of_ble_eq_true rfl) ?_
  have hl := h.1
  simp only [c23, go_sem]
  refine loop_up l.length (fun i σ F' M' => F = F' ∧ M = M' ∧ Ax.look σ 5 = some (.int .i64 i) ∧ (l.take i).all sizeB = true) ⟨rfl, rfl, (by simp only [go_sem, *] <;> rfl), by simp⟩ ?_
  rintro i σ F' M' hi hs ⟨rfl, rfl, h5, he⟩
  have s0 := hs 0 rfl
  have s1 := hs 1 rfl
  by_cases hil : (i : Int) < l.length
  rotate_left
  · simp only [go_sem, reduceCtorEq, reduceIte, Nat.reduceEqDiff, s0, s1, h5, hil]
    refine endK_same ⟨?_, rfl, rfl⟩
    rw [List.take_of_length_le (by omega)] at he
    simp only [sizesB, he, Bool.and_true]
    congr 1
    exact decide_eq_decide.2 (by omega)
  have hi0 : (0 : Int) ≤ i := by omega
  have hi1 : i < l.length := by omega
  have ei : IntKind.i64.wrap ((i : Int) + 1) = i + 1 := w64 (by omega) (by omega)
  obtain ⟨b, o, cs, rfl, hb, d1⟩ := int_at h hi1
  have t1 := List.take_succ_eq_append_getElem hi1
  have hno : sizeB l[i] = false → l.all sizeB = false := fun h => by
    rw [List.all_eq_false]; exact ⟨_, List.getElem_mem hi1, by simp [h]⟩
  generalize l[i] = x at *
  by_cases him : (i : Int) ≤ most
  rotate_left
  · simp only [go_sem, reduceCtorEq, reduceIte, Nat.reduceEqDiff, s0, s1, h5, hil, him]
    refine endK_same ⟨?_, rfl, rfl⟩
    have e1 : ¬ (l.length : Int) ≤ most := by omega
    have e2 : ¬ l.length ≤ most.toNat := by omega
    simp [sizesB, e1, e2]
  simp only [go_sem, reduceCtorEq, reduceIte, Nat.reduceEqDiff, s0, s1, h5, hil, hi0, him, Int.toNat_natCast, hb, d1]
  refine callK_same (k33 _ _ x 1 32) ?_
  cases hx : sizeB x
  · have hx' : (decide (1 ≤ x) && decide (x ≤ 32)) = false := hx
    simp only [go_sem, hx']
    exact endK_same ⟨by simp [sizesB, hno hx], rfl, rfl⟩
  · have hx' : (decide (1 ≤ x) && decide (x ≤ 32)) = true := hx
    simp only [go_sem, reduceIte, Nat.reduceEqDiff, hx', h5, ei]
    exact ⟨hi1, rfl, rfl, (by simp only [go_sem, *] <;> rfl), by rw [t1, List.all_append, he]; simp [hx]⟩
theorem wK_le (k : Int) : 0 ≤ wK k ∧ wK k ≤ 62 := by
  unfold wK ofW
  split
  · split
    · omega
    split <;> omega
  · omega
theorem manyV_lits : manyV 1 = 0 ∧ manyV 2 = 0 ∧ manyV 3 = 1 ∧ manyV 4 = 1 ∧ manyV 5 = 1 ∧ manyV 6 = 1 ∧ manyV 7 = 1 ∧ manyV 18 = 2 ∧ manyV 19 = 2 ∧ manyV 20 = 2 ∧ manyV 21 = 2 ∧ manyV 22 = 2 := by decide
theorem k24 (p : Pg) (i : Nat) (hp : p.rd F) (hold : Old F M) (hi : i < p.exprs.length) :
    CallsA Tryz.prog 24 [p.val, .int .i64 i] F M (Same F M (.bool (exprR p.vars.length p.exprs i p.exprs[i]))) := by
  refine callsA_of hm Tryz.func24 e24 (Nat.le_of_ble_eq_true rfl) ?_
  have hfew := hp.few
  have ew : IntKind.i64.wrap ((i : Int) - 1) = i - 1 := w64 (by omega) (by omega)
  have hi0 : (0 : Int) ≤ i := by omega
  have hil : (i : Int) < p.exprs.length := by omega
  simp only [c24, go_sem]
  intro r2 hF2 hM2
  obtain ⟨b, o, cs, ea, hb, rows⟩ := (hp.exprs M hold).rows (by omega)
  obtain ⟨d1, d2⟩ := rows i hi
  have kinds : ∀ j : Nat, j < i → cs[o + j * 5 + 1]? = some (.int .i64 (kindAt p.exprs j)) := fun j hj => by
    have hk : kindAt p.exprs j = p.exprs[j].kind := by
      unfold kindAt
      rw [Int.toNat_natCast, List.getElem?_eq_getElem (by omega)]; rfl
    rw [hk]
    exact (Xp.row (rows j (by omega)).2).2.1
  clear rows
  generalize p.exprs[i] = x at *
  simp only [go_sem, reduceCtorEq, reduceIte, Nat.reduceEqDiff, Nat.reduceAdd, hi0, hil, ea, Int.toNat_natCast, hb, d1, d2, ne_of_blk hb hF2 hM2]
  intro r5 hF5 hM5
  simp only [upd_none2] at hM5
  have hw := wK_le x.kind
  have hw0 := hw.1
  have hw1 := hw.2
  have fa : numB x.a ((i : Int) - 1) = true → 0 ≤ x.a ∧ x.a < p.exprs.length ∧ cs[o + x.a.toNat * 5 + 1]? = some (.int .i64 (kindAt p.exprs x.a)) := fun h => by
    simp only [numB, Bool.and_eq_true, decide_eq_true_eq] at h
    have := kinds x.a.toNat (by omega)
    rw [Int.toNat_of_nonneg h.1] at this
    exact ⟨h.1, by omega, this⟩
  have fb : numB x.b ((i : Int) - 1) = true → 0 ≤ x.b ∧ x.b < p.exprs.length ∧ cs[o + x.b.toNat * 5 + 1]? = some (.int .i64 (kindAt p.exprs x.b)) := fun h => by
    simp only [numB, Bool.and_eq_true, decide_eq_true_eq] at h
    have := kinds x.b.toNat (by omega)
    rw [Int.toNat_of_nonneg h.1] at this
    exact ⟨h.1, by omega, this⟩
  have keyA : ∀ (q : Prop), (numB x.a ((i : Int) - 1) = true → 0 ≤ x.a → x.a < p.exprs.length → cs[o + x.a.toNat * 5 + 1]? = some (.int .i64 (kindAt p.exprs x.a)) → q) → (numB x.a ((i : Int) - 1) = false → q) → q := fun q h1 h2 => by
    cases h : numB x.a ((i : Int) - 1)
    · exact h2 h
    · obtain ⟨a1, a2, a3⟩ := fa h; exact h1 h a1 a2 a3
  have keyB : ∀ (q : Prop), (numB x.b ((i : Int) - 1) = true → 0 ≤ x.b → x.b < p.exprs.length → cs[o + x.b.toNat * 5 + 1]? = some (.int .i64 (kindAt p.exprs x.b)) → q) → (numB x.b ((i : Int) - 1) = false → q) → q := fun q h1 h2 => by
    cases h : numB x.b ((i : Int) - 1)
    · exact h2 h
    · obtain ⟨a1, a2, a3⟩ := fb h; exact h1 h a1 a2 a3
  have kN : ∀ F M (n m : Int), CallsA Tryz.prog 32 [.int .i64 n, .int .i64 m] F M (Same F M (.bool (numB n m))) := fun F M n m => k32 F M n m
  clear kinds fa fb hw hfew hold hp
  have em := manyV_lits
  obtain ⟨op, kind, n, a, b'⟩ := x
  by_cases hop : (decide (1 ≤ op) && decide (op ≤ 22)) = true
  rotate_left
  · have hop' : (decide (1 ≤ op) && decide (op ≤ 22)) = false := by simpa using hop
    clear keyA keyB
    repeat' first
    | simp only [go_sem, Nat.reduceEqDiff, Nat.reduceAdd, Nat.add_zero, *]
    | (with_reducible first | apply cD | apply cN | apply cB | apply cO | apply tD | apply fD | apply tN | apply fN | apply tB | apply fB | apply tO | apply fO) <;> intro hc
    | (intro rx hFx hMx; (try simp only [upd_none2] at hMx))
      | refine callK_same (k33 _ _ _ _ _) ?_
    all_goals (refine endK_keep (M := M) (by repeat' first | exact Keep.refl _ | (refine Keep.new ?_ (by simp only [*]))) ⟨?_, rfl, rfl⟩)
    all_goals simp only [exprR, hop', Bool.false_and]
  have hop' := hop
  simp only [Bool.and_eq_true, decide_eq_true_eq] at hop'
  have e7 : wK 7 = 0 := rfl
  rcases ops22 hop'.1 hop'.2 with rfl | rfl | rfl | rfl | rfl | rfl | rfl | e | rfl | rfl | rfl | rfl | rfl
  · clear hop hop' keyA keyB
    repeat' first
    | simp only [go_sem, reduceCtorEq, reduceIte, Nat.reduceEqDiff, Nat.reduceAdd, Int.reduceLT, Int.reduceLE, Nat.add_zero, *]
    | (with_reducible first | apply cD | apply cN | apply cB | apply cO | apply tD | apply fD | apply tN | apply fN | apply tB | apply fB | apply tO | apply fO) <;> intro hc
    | (intro rx hFx hMx; (try simp only [upd_none2] at hMx))
      | refine callK_same (k33 _ _ _ _ _) ?_
      | refine callK_same (k48 _ _ _) ?_
      | refine callK_same (kN _ _ _ _) ?_
      | refine callK_same (k49 _ _ _) ?_
      | refine callK_same (k51 _ _ _) ?_
      | refine callK_same (k52 _ _ _) ?_
      | refine callK_same (k50 _ _ _ _ hw0 hw1) ?_
    all_goals (refine endK_keep (M := M) (by repeat' first | exact Keep.refl _ | (refine Keep.new ?_ (by simp only [*]))) ⟨?_, rfl, rfl⟩)
    all_goals clear kN d1 d2 hb hF2 hM2 hF5 hM5
    all_goals (simp [exprR, bodyX, *]; done)
  · clear hop hop' keyA keyB
    repeat' first
    | simp only [go_sem, reduceCtorEq, reduceIte, Nat.reduceEqDiff, Nat.reduceAdd, Int.reduceLT, Int.reduceLE, Int.reduceEq, blk_upd_known, Option.isSome_some, Nat.add_zero, *]
    | (with_reducible first | apply cD | apply cN | apply cB | apply cO | apply tD | apply fD | apply tN | apply fN | apply tB | apply fB | apply tO | apply fO) <;> intro hc
    | (intro rx hFx hMx; (try simp only [upd_none2] at hMx))
      | refine callK_same (k33 _ _ _ _ _) ?_
      | refine callK_same (k48 _ _ _) ?_
      | refine callK_same (kN _ _ _ _) ?_
      | refine callK_same (k49 _ _ _) ?_
      | refine callK_same (k51 _ _ _) ?_
      | refine callK_same (k52 _ _ _) ?_
      | refine callK_same (k50 _ _ _ _ hw0 hw1) ?_
    all_goals (refine endK_keep (M := M) (by repeat' first | exact Keep.refl _ | (refine Keep.new ?_ (by simp only [*]))) ⟨?_, rfl, rfl⟩)
    all_goals clear kN d1 d2 hb hF2 hM2 hF5 hM5
    all_goals (simp [exprR, bodyX, *]; done)
  · clear hop hop' keyB
    refine keyA _ (fun na a0 a1 ak => ?_) (fun na => ?_) <;> clear keyA
    all_goals (
      repeat' first
    | simp only [go_sem, reduceCtorEq, reduceIte, Nat.reduceEqDiff, Nat.reduceAdd, Int.reduceLT, Int.reduceLE, Int.reduceEq, blk_upd_known, Option.isSome_some, Nat.add_zero, *]
    | (with_reducible first | apply cD | apply cN | apply cB | apply cO | apply tD | apply fD | apply tN | apply fN | apply tB | apply fB | apply tO | apply fO) <;> intro hc
    | (intro rx hFx hMx; (try simp only [upd_none2] at hMx))
        | refine callK_same (k33 _ _ _ _ _) ?_
        | refine callK_same (k48 _ _ _) ?_
        | refine callK_same (kN _ _ _ _) ?_
        | refine callK_same (k49 _ _ _) ?_
        | refine callK_same (k51 _ _ _) ?_
        | refine callK_same (k52 _ _ _) ?_
        | refine callK_same (k50 _ _ _ _ hw0 hw1) ?_
      all_goals (refine endK_keep (M := M) (by repeat' first | exact Keep.refl _ | (refine Keep.new ?_ (by simp only [*]))) ⟨?_, rfl, rfl⟩)
      all_goals clear kN d1 d2 hb hF2 hM2 hF5 hM5
      all_goals (simp [exprR, bodyX, kA, *]; done))
  · clear hop hop' keyB
    refine keyA _ (fun na a0 a1 ak => ?_) (fun na => ?_) <;> clear keyA
    all_goals (
      repeat' first
    | simp only [go_sem, reduceCtorEq, reduceIte, Nat.reduceEqDiff, Nat.reduceAdd, Int.reduceLT, Int.reduceLE, Int.reduceEq, blk_upd_known, Option.isSome_some, Nat.add_zero, *]
    | (with_reducible first | apply cD | apply cN | apply cB | apply cO | apply tD | apply fD | apply tN | apply fN | apply tB | apply fB | apply tO | apply fO) <;> intro hc
    | (intro rx hFx hMx; (try simp only [upd_none2] at hMx))
        | refine callK_same (k33 _ _ _ _ _) ?_
        | refine callK_same (k48 _ _ _) ?_
        | refine callK_same (kN _ _ _ _) ?_
        | refine callK_same (k49 _ _ _) ?_
        | refine callK_same (k51 _ _ _) ?_
        | refine callK_same (k52 _ _ _) ?_
        | refine callK_same (k50 _ _ _ _ hw0 hw1) ?_
      all_goals (refine endK_keep (M := M) (by repeat' first | exact Keep.refl _ | (refine Keep.new ?_ (by simp only [*]))) ⟨?_, rfl, rfl⟩)
      all_goals clear kN d1 d2 hb hF2 hM2 hF5 hM5
      all_goals (simp [exprR, bodyX, kA, *]; done))
  · clear hop hop' keyB
    refine keyA _ (fun na a0 a1 ak => ?_) (fun na => ?_) <;> clear keyA
    all_goals (
      repeat' first
    | simp only [go_sem, reduceCtorEq, reduceIte, Nat.reduceEqDiff, Nat.reduceAdd, Int.reduceLT, Int.reduceLE, Int.reduceEq, blk_upd_known, Option.isSome_some, Nat.add_zero, *]
    | (with_reducible first | apply cD | apply cN | apply cB | apply cO | apply tD | apply fD | apply tN | apply fN | apply tB | apply fB | apply tO | apply fO) <;> intro hc
    | (intro rx hFx hMx; (try simp only [upd_none2] at hMx))
        | refine callK_same (k33 _ _ _ _ _) ?_
        | refine callK_same (k48 _ _ _) ?_
        | refine callK_same (kN _ _ _ _) ?_
        | refine callK_same (k49 _ _ _) ?_
        | refine callK_same (k51 _ _ _) ?_
        | refine callK_same (k52 _ _ _) ?_
        | refine callK_same (k50 _ _ _ _ hw0 hw1) ?_
      all_goals (refine endK_keep (M := M) (by repeat' first | exact Keep.refl _ | (refine Keep.new ?_ (by simp only [*]))) ⟨?_, rfl, rfl⟩)
      all_goals clear kN d1 d2 hb hF2 hM2 hF5 hM5
      all_goals (simp [exprR, bodyX, kA, *]; done))
  · clear hop hop' keyB
    refine keyA _ (fun na a0 a1 ak => ?_) (fun na => ?_) <;> clear keyA
    all_goals (
      repeat' first
    | simp only [go_sem, reduceCtorEq, reduceIte, Nat.reduceEqDiff, Nat.reduceAdd, Int.reduceLT, Int.reduceLE, Int.reduceEq, blk_upd_known, Option.isSome_some, Nat.add_zero, *]
    | (with_reducible first | apply cD | apply cN | apply cB | apply cO | apply tD | apply fD | apply tN | apply fN | apply tB | apply fB | apply tO | apply fO) <;> intro hc
    | (intro rx hFx hMx; (try simp only [upd_none2] at hMx))
        | refine callK_same (k33 _ _ _ _ _) ?_
        | refine callK_same (k48 _ _ _) ?_
        | refine callK_same (kN _ _ _ _) ?_
        | refine callK_same (k49 _ _ _) ?_
        | refine callK_same (k51 _ _ _) ?_
        | refine callK_same (k52 _ _ _) ?_
        | refine callK_same (k50 _ _ _ _ hw0 hw1) ?_
      all_goals (refine endK_keep (M := M) (by repeat' first | exact Keep.refl _ | (refine Keep.new ?_ (by simp only [*]))) ⟨?_, rfl, rfl⟩)
      all_goals clear kN d1 d2 hb hF2 hM2 hF5 hM5
      all_goals (simp [exprR, bodyX, kA, *]; done))
  · clear hop hop' keyB
    refine keyA _ (fun na a0 a1 ak => ?_) (fun na => ?_) <;> clear keyA
    all_goals (
      repeat' first
    | simp only [go_sem, reduceCtorEq, reduceIte, Nat.reduceEqDiff, Nat.reduceAdd, Int.reduceLT, Int.reduceLE, Int.reduceEq, blk_upd_known, Option.isSome_some, Nat.add_zero, *]
    | (with_reducible first | apply cD | apply cN | apply cB | apply cO | apply tD | apply fD | apply tN | apply fN | apply tB | apply fB | apply tO | apply fO) <;> intro hc
    | (intro rx hFx hMx; (try simp only [upd_none2] at hMx))
        | refine callK_same (k33 _ _ _ _ _) ?_
        | refine callK_same (k48 _ _ _) ?_
        | refine callK_same (kN _ _ _ _) ?_
        | refine callK_same (k49 _ _ _) ?_
        | refine callK_same (k51 _ _ _) ?_
        | refine callK_same (k52 _ _ _) ?_
        | refine callK_same (k50 _ _ _ _ hw0 hw1) ?_
      all_goals (refine endK_keep (M := M) (by repeat' first | exact Keep.refl _ | (refine Keep.new ?_ (by simp only [*]))) ⟨?_, rfl, rfl⟩)
      all_goals clear kN d1 d2 hb hF2 hM2 hF5 hM5
      all_goals (simp [exprR, bodyX, kA, *]; done))
  · have em2 : manyV op = 2 := by unfold manyV; rw [if_neg (by omega), if_neg (by omega)]
    have n1 : ¬ op = 1 := by omega
    have n2 : ¬ op = 2 := by omega
    have n3 : ¬ op = 3 := by omega
    have n4 : ¬ op = 4 := by omega
    have n5 : ¬ op = 5 := by omega
    have n6 : ¬ op = 6 := by omega
    have n7 : ¬ op = 7 := by omega
    have n18 : ¬ op = 18 := by omega
    have n19 : ¬ op = 19 := by omega
    have n20 : ¬ op = 20 := by omega
    have n21 : ¬ op = 21 := by omega
    have n22 : ¬ op = 22 := by omega
    have l1 := hop'.1
    have l2 := hop'.2
    clear e
    clear hop hop'
    refine keyA _ (fun na a0 a1 ak => keyB _ (fun nb b0 b1 bk => ?_) (fun nb => ?_)) (fun na => ?_) <;> clear keyA keyB
    all_goals (
      repeat' first
    | simp only [go_sem, reduceCtorEq, reduceIte, Nat.reduceEqDiff, Nat.reduceAdd, Int.reduceLT, blk_upd_known, Option.isSome_some, Nat.add_zero, *]
    | (with_reducible first | apply cD | apply cN | apply cB | apply cO | apply tD | apply fD | apply tN | apply fN | apply tB | apply fB | apply tO | apply fO) <;> intro hc
    | (intro rx hFx hMx; (try simp only [upd_none2] at hMx))
        | refine callK_same (k33 _ _ _ _ _) ?_
        | refine callK_same (k48 _ _ _) ?_
        | refine callK_same (kN _ _ _ _) ?_
        | refine callK_same (k49 _ _ _) ?_
        | refine callK_same (k51 _ _ _) ?_
        | refine callK_same (k52 _ _ _) ?_
        | refine callK_same (k50 _ _ _ _ hw0 hw1) ?_
      all_goals (refine endK_keep (M := M) (by repeat' first | exact Keep.refl _ | (refine Keep.new ?_ (by simp only [*]))) ⟨?_, rfl, rfl⟩)
      all_goals clear kN d1 d2 hb hF2 hM2 hF5 hM5
      all_goals (simp [exprR, bodyX, kA, kB, *]; done))
  · clear hop hop'
    refine keyA _ (fun na a0 a1 ak => keyB _ (fun nb b0 b1 bk => ?_) (fun nb => ?_)) (fun na => ?_) <;> clear keyA keyB
    all_goals (
      repeat' first
    | simp only [go_sem, reduceCtorEq, reduceIte, Nat.reduceEqDiff, Nat.reduceAdd, Int.reduceLT, Int.reduceLE, Int.reduceEq, blk_upd_known, Option.isSome_some, Nat.add_zero, *]
    | (with_reducible first | apply cD | apply cN | apply cB | apply cO | apply tD | apply fD | apply tN | apply fN | apply tB | apply fB | apply tO | apply fO) <;> intro hc
    | (intro rx hFx hMx; (try simp only [upd_none2] at hMx))
        | refine callK_same (k33 _ _ _ _ _) ?_
        | refine callK_same (k48 _ _ _) ?_
        | refine callK_same (kN _ _ _ _) ?_
        | refine callK_same (k49 _ _ _) ?_
        | refine callK_same (k51 _ _ _) ?_
        | refine callK_same (k52 _ _ _) ?_
        | refine callK_same (k50 _ _ _ _ hw0 hw1) ?_
      all_goals (refine endK_keep (M := M) (by repeat' first | exact Keep.refl _ | (refine Keep.new ?_ (by simp only [*]))) ⟨?_, rfl, rfl⟩)
      all_goals clear kN d1 d2 hb hF2 hM2 hF5 hM5
      all_goals (simp [exprR, bodyX, kA, kB, *]; done))
  · clear hop hop'
    refine keyA _ (fun na a0 a1 ak => keyB _ (fun nb b0 b1 bk => ?_) (fun nb => ?_)) (fun na => ?_) <;> clear keyA keyB
    all_goals (
      repeat' first
    | simp only [go_sem, reduceCtorEq, reduceIte, Nat.reduceEqDiff, Nat.reduceAdd, Int.reduceLT, Int.reduceLE, Int.reduceEq, blk_upd_known, Option.isSome_some, Nat.add_zero, *]
    | (with_reducible first | apply cD | apply cN | apply cB | apply cO | apply tD | apply fD | apply tN | apply fN | apply tB | apply fB | apply tO | apply fO) <;> intro hc
    | (intro rx hFx hMx; (try simp only [upd_none2] at hMx))
        | refine callK_same (k33 _ _ _ _ _) ?_
        | refine callK_same (k48 _ _ _) ?_
        | refine callK_same (kN _ _ _ _) ?_
        | refine callK_same (k49 _ _ _) ?_
        | refine callK_same (k51 _ _ _) ?_
        | refine callK_same (k52 _ _ _) ?_
        | refine callK_same (k50 _ _ _ _ hw0 hw1) ?_
      all_goals (refine endK_keep (M := M) (by repeat' first | exact Keep.refl _ | (refine Keep.new ?_ (by simp only [*]))) ⟨?_, rfl, rfl⟩)
      all_goals clear kN d1 d2 hb hF2 hM2 hF5 hM5
      all_goals (simp [exprR, bodyX, kA, kB, *]; done))
  · clear hop hop'
    refine keyA _ (fun na a0 a1 ak => keyB _ (fun nb b0 b1 bk => ?_) (fun nb => ?_)) (fun na => ?_) <;> clear keyA keyB
    all_goals (
      repeat' first
    | simp only [go_sem, reduceCtorEq, reduceIte, Nat.reduceEqDiff, Nat.reduceAdd, Int.reduceLT, Int.reduceLE, Int.reduceEq, blk_upd_known, Option.isSome_some, Nat.add_zero, *]
    | (with_reducible first | apply cD | apply cN | apply cB | apply cO | apply tD | apply fD | apply tN | apply fN | apply tB | apply fB | apply tO | apply fO) <;> intro hc
    | (intro rx hFx hMx; (try simp only [upd_none2] at hMx))
        | refine callK_same (k33 _ _ _ _ _) ?_
        | refine callK_same (k48 _ _ _) ?_
        | refine callK_same (kN _ _ _ _) ?_
        | refine callK_same (k49 _ _ _) ?_
        | refine callK_same (k51 _ _ _) ?_
        | refine callK_same (k52 _ _ _) ?_
        | refine callK_same (k50 _ _ _ _ hw0 hw1) ?_
      all_goals (refine endK_keep (M := M) (by repeat' first | exact Keep.refl _ | (refine Keep.new ?_ (by simp only [*]))) ⟨?_, rfl, rfl⟩)
      all_goals clear kN d1 d2 hb hF2 hM2 hF5 hM5
      all_goals (simp [exprR, bodyX, kA, kB, *]; done))
  · clear hop hop'
    refine keyA _ (fun na a0 a1 ak => keyB _ (fun nb b0 b1 bk => ?_) (fun nb => ?_)) (fun na => ?_) <;> clear keyA keyB
    all_goals (
      repeat' first
    | simp only [go_sem, reduceCtorEq, reduceIte, Nat.reduceEqDiff, Nat.reduceAdd, Int.reduceLT, Int.reduceLE, Int.reduceEq, blk_upd_known, Option.isSome_some, Nat.add_zero, *]
    | (with_reducible first | apply cD | apply cN | apply cB | apply cO | apply tD | apply fD | apply tN | apply fN | apply tB | apply fB | apply tO | apply fO) <;> intro hc
    | (intro rx hFx hMx; (try simp only [upd_none2] at hMx))
        | refine callK_same (k33 _ _ _ _ _) ?_
        | refine callK_same (k48 _ _ _) ?_
        | refine callK_same (kN _ _ _ _) ?_
        | refine callK_same (k49 _ _ _) ?_
        | refine callK_same (k51 _ _ _) ?_
        | refine callK_same (k52 _ _ _) ?_
        | refine callK_same (k50 _ _ _ _ hw0 hw1) ?_
      all_goals (refine endK_keep (M := M) (by repeat' first | exact Keep.refl _ | (refine Keep.new ?_ (by simp only [*]))) ⟨?_, rfl, rfl⟩)
      all_goals clear kN d1 d2 hb hF2 hM2 hF5 hM5
      all_goals (simp [exprR, bodyX, kA, kB, *]; done))
  · clear hop hop'
    refine keyA _ (fun na a0 a1 ak => keyB _ (fun nb b0 b1 bk => ?_) (fun nb => ?_)) (fun na => ?_) <;> clear keyA keyB
    all_goals (
      repeat' first
    | simp only [go_sem, reduceCtorEq, reduceIte, Nat.reduceEqDiff, Nat.reduceAdd, Int.reduceLT, Int.reduceLE, Int.reduceEq, blk_upd_known, Option.isSome_some, Nat.add_zero, *]
    | (with_reducible first | apply cD | apply cN | apply cB | apply cO | apply tD | apply fD | apply tN | apply fN | apply tB | apply fB | apply tO | apply fO) <;> intro hc
    | (intro rx hFx hMx; (try simp only [upd_none2] at hMx))
        | refine callK_same (k33 _ _ _ _ _) ?_
        | refine callK_same (k48 _ _ _) ?_
        | refine callK_same (kN _ _ _ _) ?_
        | refine callK_same (k49 _ _ _) ?_
        | refine callK_same (k51 _ _ _) ?_
        | refine callK_same (k52 _ _ _) ?_
        | refine callK_same (k50 _ _ _ _ hw0 hw1) ?_
      all_goals (refine endK_keep (M := M) (by repeat' first | exact Keep.refl _ | (refine Keep.new ?_ (by simp only [*]))) ⟨?_, rfl, rfl⟩)
      all_goals clear kN d1 d2 hb hF2 hM2 hF5 hM5
      all_goals (simp [exprR, bodyX, kA, kB, *]; done))
end Go.Proofs.Tryz.K
namespace Go.Proofs.Tryz.K
open Go Go.Ax Go.Proofs.Tryz.S
set_option maxRecDepth 100000
set_option linter.unusedSimpArgs false
set_option linter.unusedVariables false
set_option maxHeartbeats 4000000
variable (F : Fz) (M : Hp)
theorem k25 (p : Pg) (s : Sm) (hp : p.rd F) (hold : Old F M) (hs1 : intR F M s.ba s.bc s.body) (hs2 : intR F M s.ea s.ec s.els) :
    CallsA Tryz.prog 25 [p.val, s.val] F M (Same F M (.bool (stmtR p.vars.length p.news.length p.exprs s))) := by
  refine callsA_of hm Tryz.func25 e25 (Nat.le_of_ble_eq_true rfl) ?_
  have hfew := hp.few
  have ew1 : IntKind.i64.wrap ((p.vars.length : Int) + 1) = p.vars.length + 1 := w64 (by omega) (by omega)
  have ew2 : IntKind.i64.wrap ((p.vars.length : Int) + p.news.length) = p.vars.length + p.news.length := w64 (by omega) (by omega)
  simp only [c25, go_sem]
  intro r2 hF2 hM2
  simp only [go_sem, reduceCtorEq, Nat.reduceEqDiff]
  intro r3 hF3 hM3
  simp only [upd_none2] at hM3
  simp only [go_sem, reduceIte, Nat.reduceEqDiff, Nat.reduceAdd, Nat.reduceLeDiff]
  intro r5 hF5 hM5
  simp only [upd_none2] at hM5
  clear hfew
  by_cases n1 : s.op = 1
  · simp only [setH, go_sem, reduceIte, Nat.reduceEqDiff, Nat.reduceAdd, Nat.reduceLeDiff, hM3, hM5, n1]
    repeat' first
    | simp only [go_sem, reduceCtorEq, reduceIte, Nat.reduceEqDiff, Nat.reduceAdd, blk_upd_known, Option.isSome_some, *]
    | (with_reducible first | apply cD | apply cN | apply cB | apply cO | apply tD | apply fD | apply tN | apply fN | apply tB | apply fB | apply tO | apply fO) <;> intro hc
    | (intro rx hFx hMx; (try simp only [upd_none2] at hMx))
      | simp only [setH, go_sem, reduceCtorEq, reduceIte, Nat.reduceEqDiff, Nat.reduceAdd, Nat.reduceLeDiff, Nat.reduceMul, Int.reduceLT, Int.reduceLE, Int.reduceAdd, Int.reduceSub, Int.reduceMul, Int.reduceNeg, Int.reduceToNat, Int.reduceEq, *]
      | refine callK_same (k53 _ _ p _ _ hp (by repeat' first | assumption | (refine Old.upd ?_ (by assumption)))) ?_
      | refine callK_same (k52 _ _ _) ?_
      | refine callK_same (k49 _ _ _) ?_
      | refine callK_same (k33 _ _ _ _ _) ?_
      | refine callK_same (k54 _ _ s ⟨1, s.to, s.kind, s.e, 0, none, 0, [], none, 0, []⟩ (hs1.keep (by repeat' first | exact Keep.refl _ | (refine Keep.new ?_ (by simp only [*]))) (by repeat' first | assumption | (refine Old.upd ?_ (by assumption)))) (hs2.keep (by repeat' first | exact Keep.refl _ | (refine Keep.new ?_ (by simp only [*]))) (by repeat' first | assumption | (refine Old.upd ?_ (by assumption)))) rdG_nil rdG_nil) ?_
    all_goals (refine endK_keep (M := M) (by repeat' first | exact Keep.refl _ | (refine Keep.new ?_ (by simp only [*]))) ⟨?_, rfl, rfl⟩)
    all_goals simp [stmtR, bareTo, bareKind, bareE, bareN, *]
  by_cases n2 : s.op = 2
  · simp only [setH, go_sem, reduceIte, Nat.reduceEqDiff, Nat.reduceAdd, Nat.reduceLeDiff, Int.reduceEq, hM3, hM5, n2]
    repeat' first
    | simp only [go_sem, reduceCtorEq, reduceIte, Nat.reduceEqDiff, Nat.reduceAdd, blk_upd_known, Option.isSome_some, *]
    | (with_reducible first | apply cD | apply cN | apply cB | apply cO | apply tD | apply fD | apply tN | apply fN | apply tB | apply fB | apply tO | apply fO) <;> intro hc
    | (intro rx hFx hMx; (try simp only [upd_none2] at hMx))
      | simp only [setH, go_sem, reduceCtorEq, reduceIte, Nat.reduceEqDiff, Nat.reduceAdd, Nat.reduceLeDiff, Nat.reduceMul, Int.reduceLT, Int.reduceLE, Int.reduceAdd, Int.reduceSub, Int.reduceMul, Int.reduceNeg, Int.reduceToNat, Int.reduceEq, *]
      | refine callK_same (k53 _ _ p _ _ hp (by repeat' first | assumption | (refine Old.upd ?_ (by assumption)))) ?_
      | refine callK_same (k52 _ _ _) ?_
      | refine callK_same (k49 _ _ _) ?_
      | refine callK_same (k33 _ _ _ _ _) ?_
      | refine callK_same (k54 _ _ s ⟨2, s.to, s.kind, 0, 0, none, 0, [], none, 0, []⟩ (hs1.keep (by repeat' first | exact Keep.refl _ | (refine Keep.new ?_ (by simp only [*]))) (by repeat' first | assumption | (refine Old.upd ?_ (by assumption)))) (hs2.keep (by repeat' first | exact Keep.refl _ | (refine Keep.new ?_ (by simp only [*]))) (by repeat' first | assumption | (refine Old.upd ?_ (by assumption)))) rdG_nil rdG_nil) ?_
    all_goals (refine endK_keep (M := M) (by repeat' first | exact Keep.refl _ | (refine Keep.new ?_ (by simp only [*]))) ⟨?_, rfl, rfl⟩)
    all_goals simp [stmtR, bareTo, bareKind, bareE, bareN, *]
  by_cases n3 : s.op = 3
  · simp only [setH, go_sem, reduceIte, Nat.reduceEqDiff, Nat.reduceAdd, Nat.reduceLeDiff, Int.reduceEq, hM3, hM5, n3]
    repeat' first
    | simp only [go_sem, reduceCtorEq, reduceIte, Nat.reduceEqDiff, Nat.reduceAdd, blk_upd_known, Option.isSome_some, *]
    | (with_reducible first | apply cD | apply cN | apply cB | apply cO | apply tD | apply fD | apply tN | apply fN | apply tB | apply fB | apply tO | apply fO) <;> intro hc
    | (intro rx hFx hMx; (try simp only [upd_none2] at hMx))
      | simp only [setH, go_sem, reduceCtorEq, reduceIte, Nat.reduceEqDiff, Nat.reduceAdd, Nat.reduceLeDiff, Nat.reduceMul, Int.reduceLT, Int.reduceLE, Int.reduceAdd, Int.reduceSub, Int.reduceMul, Int.reduceNeg, Int.reduceToNat, Int.reduceEq, *]
      | refine callK_same (k53 _ _ p _ _ hp (by repeat' first | assumption | (refine Old.upd ?_ (by assumption)))) ?_
      | refine callK_same (k52 _ _ _) ?_
      | refine callK_same (k49 _ _ _) ?_
      | refine callK_same (k33 _ _ _ _ _) ?_
      | refine callK_same (k54 _ _ s ⟨3, s.to, 0, 0, s.n, none, 0, [], none, 0, []⟩ (hs1.keep (by repeat' first | exact Keep.refl _ | (refine Keep.new ?_ (by simp only [*]))) (by repeat' first | assumption | (refine Old.upd ?_ (by assumption)))) (hs2.keep (by repeat' first | exact Keep.refl _ | (refine Keep.new ?_ (by simp only [*]))) (by repeat' first | assumption | (refine Old.upd ?_ (by assumption)))) rdG_nil rdG_nil) ?_
    all_goals (refine endK_keep (M := M) (by repeat' first | exact Keep.refl _ | (refine Keep.new ?_ (by simp only [*]))) ⟨?_, rfl, rfl⟩)
    all_goals simp [stmtR, bareTo, bareKind, bareE, bareN, *]
  by_cases n4 : s.op = 4
  · simp only [setH, go_sem, reduceIte, Nat.reduceEqDiff, Nat.reduceAdd, Nat.reduceLeDiff, Int.reduceEq, hM3, hM5, n4]
    repeat' first
    | simp only [go_sem, reduceCtorEq, reduceIte, Nat.reduceEqDiff, Nat.reduceAdd, blk_upd_known, Option.isSome_some, *]
    | (with_reducible first | apply cD | apply cN | apply cB | apply cO | apply tD | apply fD | apply tN | apply fN | apply tB | apply fB | apply tO | apply fO) <;> intro hc
    | (intro rx hFx hMx; (try simp only [upd_none2] at hMx))
      | simp only [setH, go_sem, reduceCtorEq, reduceIte, Nat.reduceEqDiff, Nat.reduceAdd, Nat.reduceLeDiff, Nat.reduceMul, Int.reduceLT, Int.reduceLE, Int.reduceAdd, Int.reduceSub, Int.reduceMul, Int.reduceNeg, Int.reduceToNat, Int.reduceEq, *]
      | refine callK_same (k53 _ _ p _ _ hp (by repeat' first | assumption | (refine Old.upd ?_ (by assumption)))) ?_
      | refine callK_same (k52 _ _ _) ?_
      | refine callK_same (k49 _ _ _) ?_
      | refine callK_same (k33 _ _ _ _ _) ?_
      | refine callK_same (k54 _ _ s ⟨4, 0, 0, s.e, 0, none, 0, [], none, 0, []⟩ (hs1.keep (by repeat' first | exact Keep.refl _ | (refine Keep.new ?_ (by simp only [*]))) (by repeat' first | assumption | (refine Old.upd ?_ (by assumption)))) (hs2.keep (by repeat' first | exact Keep.refl _ | (refine Keep.new ?_ (by simp only [*]))) (by repeat' first | assumption | (refine Old.upd ?_ (by assumption)))) rdG_nil rdG_nil) ?_
    all_goals (refine endK_keep (M := M) (by repeat' first | exact Keep.refl _ | (refine Keep.new ?_ (by simp only [*]))) ⟨?_, rfl, rfl⟩)
    all_goals simp [stmtR, bareTo, bareKind, bareE, bareN, *]
  by_cases n5 : s.op = 5
  · simp only [setH, go_sem, reduceIte, Nat.reduceEqDiff, Nat.reduceAdd, Nat.reduceLeDiff, Int.reduceEq, hM3, hM5, n5]
    repeat' first
    | simp only [go_sem, reduceCtorEq, reduceIte, Nat.reduceEqDiff, Nat.reduceAdd, blk_upd_known, Option.isSome_some, *]
    | (with_reducible first | apply cD | apply cN | apply cB | apply cO | apply tD | apply fD | apply tN | apply fN | apply tB | apply fB | apply tO | apply fO) <;> intro hc
    | (intro rx hFx hMx; (try simp only [upd_none2] at hMx))
      | simp only [setH, go_sem, reduceCtorEq, reduceIte, Nat.reduceEqDiff, Nat.reduceAdd, Nat.reduceLeDiff, Nat.reduceMul, Int.reduceLT, Int.reduceLE, Int.reduceAdd, Int.reduceSub, Int.reduceMul, Int.reduceNeg, Int.reduceToNat, Int.reduceEq, *]
      | refine callK_same (k53 _ _ p _ _ hp (by repeat' first | assumption | (refine Old.upd ?_ (by assumption)))) ?_
      | refine callK_same (k52 _ _ _) ?_
      | refine callK_same (k49 _ _ _) ?_
      | refine callK_same (k33 _ _ _ _ _) ?_
      | refine callK_same (k54 _ _ s ⟨5, 0, 0, s.e, 0, s.ba, s.bc, s.body, s.ea, s.ec, s.els⟩ (hs1.keep (by repeat' first | exact Keep.refl _ | (refine Keep.new ?_ (by simp only [*]))) (by repeat' first | assumption | (refine Old.upd ?_ (by assumption)))) (hs2.keep (by repeat' first | exact Keep.refl _ | (refine Keep.new ?_ (by simp only [*]))) (by repeat' first | assumption | (refine Old.upd ?_ (by assumption)))) (hs1.keep (by repeat' first | exact Keep.refl _ | (refine Keep.new ?_ (by simp only [*]))) (by repeat' first | assumption | (refine Old.upd ?_ (by assumption)))) (hs2.keep (by repeat' first | exact Keep.refl _ | (refine Keep.new ?_ (by simp only [*]))) (by repeat' first | assumption | (refine Old.upd ?_ (by assumption))))) ?_
    all_goals (refine endK_keep (M := M) (by repeat' first | exact Keep.refl _ | (refine Keep.new ?_ (by simp only [*]))) ⟨?_, rfl, rfl⟩)
    all_goals simp [stmtR, bareTo, bareKind, bareE, bareN, *]
  by_cases n6 : s.op = 6
  · simp only [setH, go_sem, reduceIte, Nat.reduceEqDiff, Nat.reduceAdd, Nat.reduceLeDiff, Int.reduceEq, hM3, hM5, n6]
    repeat' first
    | simp only [go_sem, reduceCtorEq, reduceIte, Nat.reduceEqDiff, Nat.reduceAdd, blk_upd_known, Option.isSome_some, *]
    | (with_reducible first | apply cD | apply cN | apply cB | apply cO | apply tD | apply fD | apply tN | apply fN | apply tB | apply fB | apply tO | apply fO) <;> intro hc
    | (intro rx hFx hMx; (try simp only [upd_none2] at hMx))
      | simp only [setH, go_sem, reduceCtorEq, reduceIte, Nat.reduceEqDiff, Nat.reduceAdd, Nat.reduceLeDiff, Nat.reduceMul, Int.reduceLT, Int.reduceLE, Int.reduceAdd, Int.reduceSub, Int.reduceMul, Int.reduceNeg, Int.reduceToNat, Int.reduceEq, *]
      | refine callK_same (k53 _ _ p _ _ hp (by repeat' first | assumption | (refine Old.upd ?_ (by assumption)))) ?_
      | refine callK_same (k52 _ _ _) ?_
      | refine callK_same (k49 _ _ _) ?_
      | refine callK_same (k33 _ _ _ _ _) ?_
      | refine callK_same (k54 _ _ s ⟨6, 0, 0, s.e, 0, s.ba, s.bc, s.body, none, 0, []⟩ (hs1.keep (by repeat' first | exact Keep.refl _ | (refine Keep.new ?_ (by simp only [*]))) (by repeat' first | assumption | (refine Old.upd ?_ (by assumption)))) (hs2.keep (by repeat' first | exact Keep.refl _ | (refine Keep.new ?_ (by simp only [*]))) (by repeat' first | assumption | (refine Old.upd ?_ (by assumption)))) (hs1.keep (by repeat' first | exact Keep.refl _ | (refine Keep.new ?_ (by simp only [*]))) (by repeat' first | assumption | (refine Old.upd ?_ (by assumption)))) rdG_nil) ?_
    all_goals (refine endK_keep (M := M) (by repeat' first | exact Keep.refl _ | (refine Keep.new ?_ (by simp only [*]))) ⟨?_, rfl, rfl⟩)
    all_goals simp [stmtR, bareTo, bareKind, bareE, bareN, *]
  by_cases n7 : s.op = 7
  · simp only [setH, go_sem, reduceIte, Nat.reduceEqDiff, Nat.reduceAdd, Int.reduceEq, hM5, n7]
    repeat' first
    | simp only [go_sem, reduceIte, Nat.reduceEqDiff, *]
    | (with_reducible first | apply cD | apply cN | apply cB | apply cO | apply tD | apply fD | apply tN | apply fN | apply tB | apply fB | apply tO | apply fO) <;> intro hc
    | (intro rx hFx hMx; (try simp only [upd_none2] at hMx))
      | simp only [setH, go_sem, reduceCtorEq, reduceIte, Nat.reduceEqDiff, Nat.reduceAdd, Nat.reduceLeDiff, Nat.reduceMul, Int.reduceLT, Int.reduceLE, Int.reduceAdd, Int.reduceSub, Int.reduceMul, Int.reduceNeg, Int.reduceToNat, Int.reduceEq, *]
      | refine callK_same (k53 _ _ p _ _ hp (by repeat' first | assumption | (refine Old.upd ?_ (by assumption)))) ?_
      | refine callK_same (k52 _ _ _) ?_
      | refine callK_same (k49 _ _ _) ?_
      | refine callK_same (k33 _ _ _ _ _) ?_
      | refine callK_same (k54 _ _ s ⟨7, 0, 0, 0, 0, none, 0, [], none, 0, []⟩ (hs1.keep (by repeat' first | exact Keep.refl _ | (refine Keep.new ?_ (by simp only [*]))) (by repeat' first | assumption | (refine Old.upd ?_ (by assumption)))) (hs2.keep (by repeat' first | exact Keep.refl _ | (refine Keep.new ?_ (by simp only [*]))) (by repeat' first | assumption | (refine Old.upd ?_ (by assumption)))) rdG_nil rdG_nil) ?_
    all_goals (refine endK_keep (M := M) (by repeat' first | exact Keep.refl _ | (refine Keep.new ?_ (by simp only [*]))) ⟨?_, rfl, rfl⟩)
    all_goals simp [stmtR, bareTo, bareKind, bareE, bareN, *]
  have h : ¬ (1 ≤ s.op ∧ s.op ≤ 7) := by omega
  simp only [setH, go_sem, reduceIte, Nat.reduceEqDiff, Nat.reduceAdd, hM5, n1, n2, n3, n4, n5, n6, n7]
  all_goals (refine endK_keep (M := M) (by repeat' first | exact Keep.refl _ | (refine Keep.new ?_ (by simp only [*]))) ⟨?_, rfl, rfl⟩)
  simp only [stmtR, h, if_false]
end Go.Proofs.Tryz.K
namespace Go.Ax
open Go
set_option linter.unusedVariables false
set_option linter.unusedSimpArgs false
theorem condK_cut {P : Program} {a b : SC} {Q : Post} {σ : Env} {F : Fz} {M : Hp} {o : Option Value} (I : Env → Fz → Hp → Prop) (h : condK P a b (cutQ (At I) Q) σ F M o)
    (hn : ∀ σ' F' M', Stay (a.defs ++ b.defs) σ σ' → I σ' F' M' → Q .n σ' F' M') : condK P a b Q σ F M o := by
  obtain ⟨t, h1, h2, h3⟩ := h
  refine ⟨t, h1, fun ht => ?_, fun ht => ?_⟩
  · refine W_mono (fun x σ2 F2 M2 hx => ?_) (W_stay (h2 ht))
    cases x with
    | n => exact hn _ _ _ (hx.1.mono (by intros; simp [*])) hx.2.h
    | r => exact hx.2
    | e j => exact hx.2
  · refine W_mono (fun x σ2 F2 M2 hx => ?_) (W_stay (h3 ht))
    cases x with
    | n => exact hn _ _ _ (hx.1.mono (by intros; simp [*])) hx.2.h
    | r => exact hx.2
    | e j => exact hx.2
theorem rowR.endK {α : Type} {sz : Nat} {f : α → List Value} {e : TypeId} {l : List α} {F F' : Fz} {M M3 M4 : Hp} {u : Value} (h : rowR sz f e l F M3 u F' M4) (kp : Keep M M3) : endK F' M4 (rowR sz f e l F M) u := by
  obtain ⟨rfl, h⟩ := h
  rcases h with ⟨h1, h2, rfl⟩ | ⟨g, cap, h1, h2, h3, h4, rfl⟩
  · exact endK_keep kp ⟨rfl, .inl ⟨h1, h2, rfl⟩⟩
  · exact endK_keep kp.both ⟨rfl, .inr ⟨g, cap, h1, kp.free h2, h3, h4, rfl⟩⟩
theorem MineG.one {α : Type} {sz : Nat} {f : α → List Value} {e : TypeId} {F : Fz} {M0 M : Hp} {r : Nat} {x : α} (hF : F r = none) (h0 : M0 r = none) (hx : (f x).length = sz) : MineG sz f e F M0 (M.upd r ⟨f x, e, sz⟩) (.slice (some ⟨r, 0, none⟩) 1 1) [x] :=
  ⟨.inr ⟨r, 1, rfl, hF, by rw [Hp.upd_same]; simp, by simp, by decide⟩, fun g n c h => by cases h; exact h0⟩
def sizesL (p : Pg) : List Int := [0] ++ p.vars ++ p.news
end Go.Ax
namespace Go.Proofs.Tryz.K
open Go Go.Ax Go.Proofs.Tryz.S
set_option maxRecDepth 100000
set_option linter.unusedSimpArgs false
set_option linter.unusedVariables false
set_option maxHeartbeats 4000000
theorem len_set {xs : List Value} {n z : Nat} {v : Value} (h : xs.length = n) (hz : z < n) : (xs.take (z * 1) ++ [v] ++ xs.drop (z * 1 + 1)).length = n := by
  simp; omega
structure SeatI (p : Pg) (r0 ri rl rn : Nat) (seen : Int) (made : List Int) (br : Bool) (M : Hp) : Prop where
  f0 : M r0 = some ⟨[.bool p.big, .int .i64 p.ptr, .slice p.vA p.vars.length p.vC, .slice p.nA p.news.length p.nC, .slice p.eA p.exprs.length p.eC, .slice p.sA p.stmts.length p.sC, .slice p.mA p.main.length p.mC,
    .slice (some ⟨ri, 0, none⟩) p.stmts.length p.stmts.length, .slice (some ⟨rl, 0, none⟩) p.stmts.length p.stmts.length, .int .i64 seen, .slice (some ⟨rn, 0, none⟩) p.news.length p.news.length, .bool br], 108, 12⟩
  fi : ∃ xs, xs.length = p.stmts.length ∧ M ri = some ⟨xs, 3, p.stmts.length * 1⟩
  fl : ∃ xs, xs.length = p.stmts.length ∧ M rl = some ⟨xs, 4, p.stmts.length * 1⟩
  fn : ∃ nw : List Bool, nw.length = p.news.length ∧ M rn = some ⟨nw.map Value.bool, 4, p.news.length * 1⟩ ∧ ∀ j, j < p.news.length → nw[j]? = some (decide ((j : Int) + p.vars.length + 1 ∈ made))
  ne : ((¬ r0 = ri ∧ ¬ r0 = rl ∧ ¬ r0 = rn ∧ ¬ ri = rl ∧ ¬ ri = rn ∧ ¬ rl = rn) ∧ (¬ ri = r0 ∧ ¬ rl = r0 ∧ ¬ rn = r0 ∧ ¬ rl = ri ∧ ¬ rn = ri ∧ ¬ rn = rl))
theorem SeatI.new {p : Pg} {r0 ri rl rn : Nat} {seen : Int} {made : List Int} {br : Bool} {M : Hp} (s : SeatI p r0 ri rl rn seen made br M) {r : Nat} {e : Ent} (hr : M r = none) : SeatI p r0 ri rl rn seen made br (M.upd r e) := by
  have k : ∀ b x, M b = some x → (M.upd r e) b = some x := (Keep.refl M).new hr
  obtain ⟨xs, h1, h2⟩ := s.fi
  obtain ⟨ys, h3, h4⟩ := s.fl
  obtain ⟨nw, h5, h6, h7⟩ := s.fn
  exact ⟨k _ _ s.f0, ⟨xs, h1, k _ _ h2⟩, ⟨ys, h3, k _ _ h4⟩, ⟨nw, h5, k _ _ h6, h7⟩, s.ne⟩
def FrS (r0 ri rl rn : Nat) (M M' : Hp) : Prop := ∀ r x, M r = some x → (¬ r = r0 ∧ ¬ r = ri ∧ ¬ r = rl ∧ ¬ r = rn) → M' r = some x
theorem FrS.refl {r0 ri rl rn : Nat} (M : Hp) : FrS r0 ri rl rn M M := fun _ _ h _ => h
theorem FrS.trans {r0 ri rl rn : Nat} {A B C : Hp} (h : FrS r0 ri rl rn A B) (k : FrS r0 ri rl rn B C) : FrS r0 ri rl rn A C := fun r x hr hn => k r x (h r x hr hn) hn
theorem FrS.new {r0 ri rl rn : Nat} {A B : Hp} (h : FrS r0 ri rl rn A B) {r : Nat} {e : Ent} (hr : B r = none) : FrS r0 ri rl rn A (B.upd r e) := fun b x hb hn => (Keep.refl B).new hr _ _ (h b x hb hn)
theorem FrS.own {r0 ri rl rn : Nat} {A B : Hp} (h : FrS r0 ri rl rn A B) {r : Nat} {e : Ent} (hr : r = r0 ∨ r = ri ∨ r = rl ∨ r = rn) : FrS r0 ri rl rn A (B.upd r e) := fun b x hb hn => by
  rw [Hp.upd_ne' (by rintro rfl; omega)]; exact h b x hb hn
theorem SeatI.set0 {p : Pg} {r0 ri rl rn : Nat} {seen : Int} {made : List Int} {br : Bool} {M : Hp} (s : SeatI p r0 ri rl rn seen made br M) (seen' : Int) (br' : Bool) :
    SeatI p r0 ri rl rn seen' made br' (M.upd r0 ⟨[.bool p.big, .int .i64 p.ptr, .slice p.vA p.vars.length p.vC, .slice p.nA p.news.length p.nC, .slice p.eA p.exprs.length p.eC, .slice p.sA p.stmts.length p.sC, .slice p.mA p.main.length p.mC,
    .slice (some ⟨ri, 0, none⟩) p.stmts.length p.stmts.length, .slice (some ⟨rl, 0, none⟩) p.stmts.length p.stmts.length, .int .i64 seen', .slice (some ⟨rn, 0, none⟩) p.news.length p.news.length, .bool br'], 108, 12⟩) := by
  have ne := s.ne
  exact ⟨Hp.upd_same _ _ _, by simpa only [Hp.upd_ne' ne.2.1] using s.fi, by simpa only [Hp.upd_ne' ne.2.2.1] using s.fl, by simpa only [Hp.upd_ne' ne.2.2.2.1] using s.fn, ne⟩
theorem SeatI.seti {p : Pg} {r0 ri rl rn : Nat} {seen : Int} {made : List Int} {br : Bool} {M : Hp} (s : SeatI p r0 ri rl rn seen made br M) {xs : List Value} (h : xs.length = p.stmts.length) :
    SeatI p r0 ri rl rn seen made br (M.upd ri ⟨xs, 3, p.stmts.length * 1⟩) := by
  have ne := s.ne
  exact ⟨by rw [Hp.upd_ne' ne.1.1]; exact s.f0, ⟨xs, h, Hp.upd_same _ _ _⟩, by simpa only [Hp.upd_ne' ne.2.2.2.2.1] using s.fl, by simpa only [Hp.upd_ne' ne.2.2.2.2.2.1] using s.fn, ne⟩
theorem SeatI.setl {p : Pg} {r0 ri rl rn : Nat} {seen : Int} {made : List Int} {br : Bool} {M : Hp} (s : SeatI p r0 ri rl rn seen made br M) {xs : List Value} (h : xs.length = p.stmts.length) :
    SeatI p r0 ri rl rn seen made br (M.upd rl ⟨xs, 4, p.stmts.length * 1⟩) := by
  have ne := s.ne
  exact ⟨by rw [Hp.upd_ne' ne.1.2.1]; exact s.f0, by simpa only [Hp.upd_ne' ne.1.2.2.2.1] using s.fi, ⟨xs, h, Hp.upd_same _ _ _⟩, by simpa only [Hp.upd_ne' ne.2.2.2.2.2.2] using s.fn, ne⟩
theorem SeatI.setn {p : Pg} {r0 ri rl rn : Nat} {seen : Int} {made : List Int} {br : Bool} {M : Hp} (s : SeatI p r0 ri rl rn seen made br M) {nw : List Bool} (h : nw.length = p.news.length) (made' : List Int) (h2 : ∀ j, j < p.news.length → nw[j]? = some (decide ((j : Int) + p.vars.length + 1 ∈ made'))) :
    SeatI p r0 ri rl rn seen made' br (M.upd rn ⟨nw.map Value.bool, 4, p.news.length * 1⟩) := by
  have ne := s.ne
  exact ⟨by rw [Hp.upd_ne' ne.1.2.2.1]; exact s.f0, by simpa only [Hp.upd_ne' ne.1.2.2.2.2.1] using s.fi, by simpa only [Hp.upd_ne' ne.1.2.2.2.2.2] using s.fl, ⟨nw, h, Hp.upd_same _ _ _, h2⟩, ne⟩
def seatQ (p : Pg) (r0 ri rl rn : Nat) (k : Nat) (l : List Int) (lp : Bool) (q : Sq) (br : Bool) (F : Fz) (M : Hp) (u : Value) (F' : Fz) (M' : Hp) : Prop :=
  F' = F ∧ FrS r0 ri rl rn M M' ∧ Old F M' ∧ ∃ (last seen : Int) (made : List Int) (br' : Bool), u = .int .i64 last ∧ SeatI p r0 ri rl rn seen made br' M' ∧
    if br = true then br' = true else match seatR p.stmts k l lp q with
      | none => br' = true
      | some q' => br' = false ∧ last = q'.last ∧ seen = q'.seen ∧ made = q'.made
def seatW (p : Pg) (r0 ri rl rn : Nat) (k : Nat) (l : List Int) (lp : Bool) (q : Sq) (F : Fz) (M : Hp) (i : Nat) (σ : Env) (F' : Fz) (M' : Hp) : Prop :=
  F = F' ∧ FrS r0 ri rl rn M M' ∧ Old F M' ∧ Ax.look σ 11 = some (.int .i64 i) ∧ ∃ (last seen : Int) (made : List Int) (br : Bool), Ax.look σ 4 = some (.int .i64 last) ∧ SeatI p r0 ri rl rn seen made br M' ∧
    if br = true then seatR p.stmts (k + 1) l lp q = none else ∃ q' : Sq, last = q'.last ∧ seen = q'.seen ∧ made = q'.made ∧ -1 ≤ q'.last ∧ (q'.seen : Int) ≤ q'.last + 1 ∧ q'.last < p.stmts.length ∧ seatR p.stmts (k + 1) l lp q = (l.drop i).foldlM (seatStep p.stmts (seatR p.stmts k) lp) q'
def seatM (p : Pg) (r0 ri rl rn : Nat) (lp : Bool) (q' : Sq) (y : Sm) (r12 : Nat) (F : Fz) (M : Hp) (σ' : Env) (F' : Fz) (M' : Hp) : Prop :=
  F = F' ∧ ∃ made5, SeatI p r0 ri rl rn (q'.seen + 1) made5 false M' ∧ FrS r0 ri rl rn M M' ∧ Old F M' ∧ M' r12 = some ⟨y.cs, 74, 7⟩ ∧ made5 = (if y.op = 3 then y.n :: q'.made else q'.made) ∧ ¬ (y.op = 3 ∧ (lp = true ∨ y.n ∈ q'.made))
def madeIn (p : Pg) : Prop := ∀ s ∈ p.stmts, s.op = 3 → (p.vars.length : Int) < s.n ∧ s.n ≤ p.vars.length + p.news.length
theorem k55 (p : Pg) (hm3 : madeIn p) : ∀ (k : Nat), k ≤ 6 → ∀ (F : Fz) (M : Hp) (la : Option Addr) (lc : Nat) (l : List Int) (lp : Bool) (q : Sq) (br : Bool) (seen : Int) (made : List Int) (last : Int) (r0 ri rl rn : Nat), p.rd F → Old F M → (∀ M, Old F M → intR F M la lc l) → l.length ≤ 2500 →
    SeatI p r0 ri rl rn seen made br M → (br = false → last = q.last ∧ seen = q.seen ∧ made = q.made ∧ -1 ≤ q.last ∧ (q.seen : Int) ≤ q.last + 1 ∧ q.last < p.stmts.length) →
    CallsA Tryz.prog 55 [.pointer (some ⟨r0, 0, none⟩), .slice la l.length lc, .int .i64 (6 - k), .bool lp, .int .i64 last] F M (seatQ p r0 ri rl rn k l lp q br F M) := by
  intro k
  induction k with
  | zero =>
    intro hk F M la lc l lp q br seen made last r0 ri rl rn hp hold hl hll s hq
    refine callsA_of hm Tryz.func55 e55 (Nat.le_of_ble_eq_true rfl) ?_
    have e6 : (5 : Int) < 6 - ((0 : Nat) : Int) := by omega
    have f0 := s.f0
    by_cases h0 : (0 : Int) < l.length
    · have hne : ¬ l = [] := by rintro rfl; simp at h0
      simp only [c55, go_sem, reduceCtorEq, reduceIte, Nat.reduceEqDiff, Nat.reduceAdd, Int.reduceLT, Int.reduceSub, h0, f0]
      simp only [setH]
      have s' := s.set0 seen true
      have old' := hold.upd (e := ⟨[.bool p.big, .int .i64 p.ptr, .slice p.vA p.vars.length p.vC, .slice p.nA p.news.length p.nC, .slice p.eA p.exprs.length p.eC, .slice p.sA p.stmts.length p.sC, .slice p.mA p.main.length p.mC,
    .slice (some ⟨ri, 0, none⟩) p.stmts.length p.stmts.length, .slice (some ⟨rl, 0, none⟩) p.stmts.length p.stmts.length, .int .i64 seen, .slice (some ⟨rn, 0, none⟩) p.news.length p.news.length, .bool true], 108, 12⟩) (hold.free f0)
      have fr' : FrS r0 ri rl rn M (M.upd r0 ⟨[.bool p.big, .int .i64 p.ptr, .slice p.vA p.vars.length p.vC, .slice p.nA p.news.length p.nC, .slice p.eA p.exprs.length p.eC, .slice p.sA p.stmts.length p.sC, .slice p.mA p.main.length p.mC,
    .slice (some ⟨ri, 0, none⟩) p.stmts.length p.stmts.length, .slice (some ⟨rl, 0, none⟩) p.stmts.length p.stmts.length, .int .i64 seen, .slice (some ⟨rn, 0, none⟩) p.news.length p.news.length, .bool true], 108, 12⟩) := (FrS.refl M).own (.inl rfl)
      generalize M.upd r0 _ = M1 at s' old' fr' ⊢
      have f0' := s'.f0
      have b0 := blk_M (F := F) f0'
      refine loop_out ?_
      simp only [go_sem, reduceCtorEq, reduceIte, Nat.reduceEqDiff, b0, h0]
      refine endK_same ⟨rfl, fr', old', last, seen, made, true, rfl, s', ?_⟩
      split
      · rfl
      · simp [seatR, hne]
    · have hnil : l = [] := lenN h0
      subst hnil
      have b0 := blk_M (F := F) f0
      simp only [c55, go_sem, reduceCtorEq, reduceIte, Nat.reduceEqDiff, Nat.reduceAdd, Int.reduceLT, Int.reduceSub]
      refine loop_out ?_
      simp only [go_sem, reduceCtorEq, reduceIte, Nat.reduceEqDiff, Int.reduceLT]
      refine endK_same ⟨rfl, FrS.refl _, hold, last, seen, made, br, rfl, s, ?_⟩
      split
      · assumption
      · rename_i hb
        have hb' : br = false := by simpa using hb
        obtain ⟨h1, h2, h3, _⟩ := hq hb'
        simp only [seatR, if_true]
        exact ⟨hb', h1, h2, h3⟩
  | succ k ih =>
    intro hk F M la lc l lp q br seen made last r0 ri rl rn hp hold hl hll s hq
    refine callsA_of hm Tryz.func55 e55 (Nat.le_of_ble_eq_true rfl) ?_
    have hfew := hp.few
    have ek : (6 : Int) - ((k + 1 : Nat) : Int) = 5 - k := by omega
    have e6 : ¬ (5 : Int) < 5 - k := by omega
    have f0 := s.f0
    have b0 := blk_M (F := F) f0
    rw [ek]
    simp only [c55, go_sem, reduceCtorEq, reduceIte, Nat.reduceEqDiff, Nat.reduceAdd, e6]
    cases br
    rotate_left
    · refine loop_out ?_
      by_cases h0 : (0 : Int) < l.length
      · simp only [go_sem, reduceCtorEq, reduceIte, Nat.reduceEqDiff, b0, h0]
        exact endK_same ⟨rfl, FrS.refl _, hold, last, seen, made, true, rfl, s, by simp⟩
      · simp only [go_sem, reduceCtorEq, reduceIte, Nat.reduceEqDiff, h0]
        exact endK_same ⟨rfl, FrS.refl _, hold, last, seen, made, true, rfl, s, by simp⟩
    obtain ⟨q1, q2, q3, q4, q5, q6⟩ := hq rfl
    refine loop_up l.length (seatW p r0 ri rl rn k l lp q F M) ⟨rfl, FrS.refl _, hold, (by simp only [go_sem, *] <;> rfl), last, seen, made, false, (by simp only [go_sem, reduceCtorEq, Nat.reduceEqDiff, *] <;> rfl), s, q, q1, q2, q3, q4, q5, q6, rfl⟩ ?_
    clear q1 q2 q3 q4 q5 q6 hq f0 b0 s
    rintro i σ F' M1 hiN hs ⟨rfl, fr, old, h11, last', seen', made', br', h4, s, hw⟩
    have s0 := hs 0 rfl
    have s1 := hs 1 rfl
    have s2 := hs 2 rfl
    have s3 := hs 3 rfl
    clear hs
    simp only [go_sem, reduceCtorEq, Nat.reduceEqDiff] at s0 s1 s2 s3
    have f0 := s.f0
    have b0 := blk_M (F := F) f0
    by_cases hil : (i : Int) < l.length
    rotate_left
    · simp only [go_sem, reduceCtorEq, reduceIte, Nat.reduceEqDiff, s1, h4, h11, hil]
      refine endK_same ⟨rfl, fr, old, last', seen', made', br', rfl, s, ?_⟩
      simp only [Bool.false_eq_true, if_false]
      cases br'
      · simp only [Bool.false_eq_true, if_false] at hw
        obtain ⟨q', h1, h2, h3, _, _, _, h⟩ := hw
        have : l.drop i = [] := List.drop_eq_nil_of_le (by omega)
        rw [this] at h
        rw [h]
        exact ⟨rfl, h1, h2, h3⟩
      · simp only [if_true] at hw
        rw [hw]
    cases br'
    rotate_left
    · simp only [if_true] at hw
      simp only [go_sem, reduceCtorEq, reduceIte, Nat.reduceEqDiff, s0, s1, h4, h11, hil, b0]
      refine endK_same ⟨rfl, fr, old, last', seen', made', true, rfl, s, ?_⟩
      simp only [Bool.false_eq_true, if_false, hw]
    simp only [Bool.false_eq_true, if_false] at hw
    obtain ⟨q', rfl, rfl, rfl, g1, g2, g3, hw⟩ := hw
    have hi0 : (0 : Int) ≤ i := by omega
    have hi1 : i < l.length := by omega
    have ei : IntKind.i64.wrap ((i : Int) + 1) = i + 1 := w64 (by omega) (by omega)
    have es : IntKind.i64.wrap ((q'.seen : Int) + 1) = q'.seen + 1 := w64 (by omega) (by omega)
    have ed : IntKind.i64.wrap (5 - (k : Int) + 1) = 6 - k := by rw [w64 (by omega) (by omega)]; omega
    obtain ⟨b, o, cs, ea, hb, d1⟩ := int_at (hl M1 old) hi1
    rw [List.drop_eq_getElem_cons hi1, List.foldlM_cons] at hw
    generalize l[i] = x at *
    rw [ea] at s1
    have stop : ¬ (q'.last < x ∧ x < p.stmts.length) → seatR p.stmts (k + 1) l lp q = none := fun h => by
      rw [hw]; unfold seatStep; rw [if_neg h]; rfl
    by_cases hx1 : x ≤ q'.last
    · simp only [go_sem, reduceCtorEq, reduceIte, Nat.reduceEqDiff, Nat.reduceAdd, s0, s1, h4, h11, hil, b0, hi0, Int.toNat_natCast, hb, d1, hx1, f0]
      simp only [setH]
      refine endK_same ⟨rfl, fr.own (.inl rfl), old.upd (old.free f0), _, _, _, true, rfl, s.set0 q'.seen true, ?_⟩
      rw [if_neg (by simp), stop (by omega)]
    by_cases hx2 : (p.stmts.length : Int) ≤ x
    · simp only [go_sem, reduceCtorEq, reduceIte, Nat.reduceEqDiff, Nat.reduceAdd, s0, s1, h4, h11, hil, b0, hi0, Int.toNat_natCast, hb, d1, hx1, hx2, f0]
      simp only [setH]
      refine endK_same ⟨rfl, fr.own (.inl rfl), old.upd (old.free f0), _, _, _, true, rfl, s.set0 q'.seen true, ?_⟩
      rw [if_neg (by simp), stop (by omega)]
    have hxl : q'.last < x ∧ x < p.stmts.length := by omega
    clear stop
    obtain ⟨z, rfl⟩ := Int.eq_ofNat_of_zero_le (by omega : (0 : Int) ≤ x)
    have hz : z < p.stmts.length := by omega
    have hz0 : (0 : Int) ≤ z := by omega
    have hzl : (z : Int) < p.stmts.length := by omega
    obtain ⟨b', o', cs', ea', hb', d1', d2', d3', d4'⟩ := sm_at hp old hz
    have hbody := bodyAt_get hz
    have hels := elsAt_get hz
    have hop : opAt p.stmts z = p.stmts[z].op := by unfold opAt; rw [List.getElem?_eq_getElem hz]; rfl
    have hn : nAt p.stmts z = p.stmts[z].n := by unfold nAt; rw [List.getElem?_eq_getElem hz]; rfl
    have hbd := hp.bodies _ (List.getElem_mem hz)
    have hbf := hfew.2.2.2.2.2 _ (List.getElem_mem hz)
    have hm3' := hm3 _ (List.getElem_mem hz)
    generalize p.stmts[z] = y at *
    obtain ⟨xs, x1, x2⟩ := s.fi
    obtain ⟨ys, y1, y2⟩ := s.fl
    obtain ⟨nw, w1, w2, w3⟩ := s.fn
    have ne := s.ne
    have hxz : z * 1 + 1 ≤ xs.length := by omega
    have hyz : z * 1 + 1 ≤ ys.length := by omega
    simp only [go_sem, reduceCtorEq, reduceIte, Nat.reduceEqDiff, s0, s1, h4, h11, hil, b0, hi0, Int.toNat_natCast, hb, d1, hx1, hx2]
    simp only [go_sem, reduceIte, Nat.reduceAdd, Int.toNat_natCast, ea', hz0, hzl, hb', d1', d2']
    intro r12 hF12 hM12
    have n0 := ne_of_none hM12 f0
    have ni := ne_of_none hM12 x2
    have nl := ne_of_none hM12 y2
    have nn := ne_of_none hM12 w2
    have hr12 : ¬ r12 = r0 ∧ ¬ r12 = ri ∧ ¬ r12 = rl ∧ ¬ r12 = rn := ⟨n0.2, ni.2, nl.2, nn.2⟩
    simp only [setH, Hp.upd_upd, go_sem, reduceCtorEq, reduceIte, Nat.reduceEqDiff, Nat.reduceAdd, Nat.reduceLeDiff, s0, s2, s3, b0, n0, ni, nl, ne, f0, x2, y2, Int.toNat_natCast, hz0, hzl, hxz, hyz, es]
    have l1 := len_set (v := .int .i64 (5 - k)) x1 hz
    have l2 := len_set (v := .bool lp) y1 hz
    have s5 := (((s.new (e := ⟨y.cs, 74, 7⟩) hM12).seti l1).setl l2).set0 (q'.seen + 1) false
    have fr5 := (((fr.new (e := ⟨y.cs, 74, 7⟩) hM12).own (r := ri) (e := ⟨xs.take (z * 1) ++ [.int .i64 (5 - k)] ++ xs.drop (z * 1 + 1), 3, p.stmts.length * 1⟩) (.inr (.inl rfl))).own (r := rl) (e := ⟨ys.take (z * 1) ++ [.bool lp] ++ ys.drop (z * 1 + 1), 4, p.stmts.length * 1⟩) (.inr (.inr (.inl rfl)))).own (r := r0) (e := ⟨[.bool p.big, .int .i64 p.ptr, .slice p.vA p.vars.length p.vC, .slice p.nA p.news.length p.nC, .slice p.eA p.exprs.length p.eC, .slice p.sA p.stmts.length p.sC, .slice p.mA p.main.length p.mC, .slice (some ⟨ri, 0, none⟩) p.stmts.length p.stmts.length, .slice (some ⟨rl, 0, none⟩) p.stmts.length p.stmts.length, .int .i64 (q'.seen + 1), .slice (some ⟨rn, 0, none⟩) p.news.length p.news.length, .bool false], 108, 12⟩) (.inl rfl)
    have old5 := (((old.upd (e := ⟨y.cs, 74, 7⟩) hF12).upd (r := ri) (e := ⟨xs.take (z * 1) ++ [.int .i64 (5 - k)] ++ xs.drop (z * 1 + 1), 3, p.stmts.length * 1⟩) (old.free x2)).upd (r := rl) (e := ⟨ys.take (z * 1) ++ [.bool lp] ++ ys.drop (z * 1 + 1), 4, p.stmts.length * 1⟩) (old.free y2)).upd (r := r0) (e := ⟨[.bool p.big, .int .i64 p.ptr, .slice p.vA p.vars.length p.vC, .slice p.nA p.news.length p.nC, .slice p.eA p.exprs.length p.eC, .slice p.sA p.stmts.length p.sC, .slice p.mA p.main.length p.mC, .slice (some ⟨ri, 0, none⟩) p.stmts.length p.stmts.length, .slice (some ⟨rl, 0, none⟩) p.stmts.length p.stmts.length, .int .i64 (q'.seen + 1), .slice (some ⟨rn, 0, none⟩) p.news.length p.news.length, .bool false], 108, 12⟩) (old.free f0)
    have f12 : ((((M1.upd r12 ⟨y.cs, 74, 7⟩).upd ri ⟨xs.take (z * 1) ++ [.int .i64 (5 - k)] ++ xs.drop (z * 1 + 1), 3, p.stmts.length * 1⟩).upd rl ⟨ys.take (z * 1) ++ [.bool lp] ++ ys.drop (z * 1 + 1), 4, p.stmts.length * 1⟩).upd r0 ⟨[.bool p.big, .int .i64 p.ptr, .slice p.vA p.vars.length p.vC, .slice p.nA p.news.length p.nC, .slice p.eA p.exprs.length p.eC, .slice p.sA p.stmts.length p.sC, .slice p.mA p.main.length p.mC, .slice (some ⟨ri, 0, none⟩) p.stmts.length p.stmts.length, .slice (some ⟨rl, 0, none⟩) p.stmts.length p.stmts.length, .int .i64 (q'.seen + 1), .slice (some ⟨rn, 0, none⟩) p.news.length p.news.length, .bool false], 108, 12⟩) r12 = some ⟨y.cs, 74, 7⟩ := by
      rw [Hp.upd_ne' hr12.1, Hp.upd_ne' hr12.2.2.1, Hp.upd_ne' hr12.2.1]; exact Hp.upd_same _ _ _
    generalize M1.upd r12 _ = Mx at s5 fr5 old5 f12 ⊢
    generalize (((Mx.upd ri _).upd rl _).upd r0 _) = M5 at s5 fr5 old5 f12 ⊢
    clear n0 ni nl nn hF12 hM12 l1 l2 x1 x2 y1 y2 w1 w2 w3 hxz hyz hb' d1' d2' d3' d4' hb d1 f0 b0 fr old s xs ys nw Mx
    refine condK_cut (seatM p r0 ri rl rn lp q' y r12 F M) ?_ ?_
    · have f0 := s5.f0
      have b0 := blk_M (F := F) f0
      have b12 := blk_M (F := F) f12
      by_cases h3 : y.op = 3
      rotate_left
      · simp only [go_sem, h3]
        exact ⟨rfl, q'.made, s5, fr5, old5, f12, by simp [h3], by simp [h3]⟩
      obtain ⟨nl1, nl2⟩ := hm3' h3
      obtain ⟨j, hj⟩ := Int.eq_ofNat_of_zero_le (by omega : (0 : Int) ≤ y.n - p.vars.length - 1)
      have hjl : j < p.news.length := by omega
      have hj0 : (0 : Int) ≤ j := by omega
      have hjl' : (j : Int) < p.news.length := by omega
      have en1 : IntKind.i64.wrap (y.n - p.vars.length) = y.n - p.vars.length := w64 (by omega) (by omega)
      have en2 : IntKind.i64.wrap (y.n - p.vars.length - 1) = j := by rw [w64 (by omega) (by omega)]; exact hj
      obtain ⟨nw, w1, w2, w3⟩ := s5.fn
      have bn := blk_M (F := F) w2
      have hstop : (lp = true ∨ y.n ∈ q'.made) → seatR p.stmts (k + 1) l lp q = none := fun h => by
        rw [hw]; unfold seatStep; rw [if_pos hxl, Int.toNat_natCast, hop, hn, if_pos ⟨h3, h⟩]; rfl
      cases lp
      rotate_left
      · simp only [setH, go_sem, reduceCtorEq, reduceIte, Nat.reduceEqDiff, Nat.reduceAdd, s0, s3, b0, b12, h3, en1, en2, f0]
        refine endK_same ⟨rfl, fr5.own (.inl rfl), old5.upd (old5.free f0), _, _, _, true, rfl, s5.set0 (q'.seen + 1) true, ?_⟩
        rw [if_neg (by simp), hstop (.inl rfl)]
      have hwj : (nw.map Value.bool)[j * 1]? = some (.bool (decide (y.n ∈ q'.made))) := by
        rw [Nat.mul_one, List.getElem?_map, w3 j hjl]
        have : (j : Int) + p.vars.length + 1 = y.n := by omega
        rw [this]; rfl
      by_cases hmd : y.n ∈ q'.made
      · simp only [setH, go_sem, reduceCtorEq, reduceIte, Nat.reduceEqDiff, Nat.reduceAdd, s0, s3, b0, b12, bn, h3, en1, en2, f0, hj0, hjl', Int.toNat_natCast, hwj, hmd]
        refine endK_same ⟨rfl, fr5.own (.inl rfl), old5.upd (old5.free f0), _, _, _, true, rfl, s5.set0 (q'.seen + 1) true, ?_⟩
        rw [if_neg (by simp), hstop (.inr hmd)]
      · have hjn : j * 1 + 1 ≤ (nw.map Value.bool).length := by rw [List.length_map]; omega
        have gset : (nw.map Value.bool).take (j * 1) ++ [Value.bool true] ++ (nw.map Value.bool).drop (j * 1 + 1) = (nw.set j true).map Value.bool := bol_set (by omega)
        simp only [setH, go_sem, reduceCtorEq, reduceIte, Nat.reduceEqDiff, s0, s3, b0, b12, bn, h3, en1, en2, hj0, hjl', Int.toNat_natCast, hwj, hmd, w2, hjn, gset]
        refine ⟨rfl, y.n :: q'.made, s5.setn (by rw [List.length_set]; exact w1) _ ?_, fr5.own (.inr (.inr (.inr rfl))), old5.upd (old5.free w2), by rw [Hp.upd_ne' hr12.2.2.2]; exact f12, by simp [h3], by simp [hmd]⟩
        intro i' hi'
        by_cases hij : i' = j
        · subst hij
          rw [List.getElem?_set_self (by omega)]
          have : (i' : Int) + p.vars.length + 1 = y.n := by omega
          simp [this]
        · rw [List.getElem?_set_ne (fun e => hij e.symm), w3 i' hi']
          have : ¬ (i' : Int) + p.vars.length + 1 = y.n := by omega
          simp [this]
    clear s5 fr5 old5 f12
    rintro σ' F' M5 hs ⟨rfl, made5, s5, fr5, old5, f12, hmade, hno⟩
    have t0 := hs 0 rfl
    have t1 := hs 1 rfl
    have t2 := hs 2 rfl
    have t3 := hs 3 rfl
    have t4 := hs 4 rfl
    have t11 := hs 11 rfl
    have t12 := hs 12 rfl
    clear hs
    simp only [go_sem, reduceCtorEq, Nat.reduceEqDiff, s0, s1, s2, s3, h11] at t0 t1 t2 t3 t4 t11 t12
    have hw' : seatR p.stmts (k + 1) l lp q = (seatR p.stmts k y.body (lp || decide (y.op = 6)) ⟨z, q'.seen + 1, made5⟩).bind fun a => (seatR p.stmts k y.els lp a).bind fun a => List.foldlM (seatStep p.stmts (seatR p.stmts k) lp) a (l.drop (i + 1)) := by
      rw [hw]; unfold seatStep; rw [if_pos hxl, Int.toNat_natCast, hop, hn, hbody, hels, if_neg hno, ← hmade]
      cases seatR p.stmts k y.body (lp || decide (y.op = 6)) ⟨z, q'.seen + 1, made5⟩ <;> rfl
    clear hw hno hmade hop hn hbody hels
    have b12 := blk_M (F := F) f12
    have fin : ∀ (σ' : Env) (M8 : Hp) (last8 seen8 : Int) (made8 : List Int) (br8 : Bool), FrS r0 ri rl rn M M8 → Old F M8 → SeatI p r0 ri rl rn seen8 made8 br8 M8 →
        (if br8 = true then seatR p.stmts (k + 1) l lp q = none else ∃ q8 : Sq, last8 = q8.last ∧ seen8 = q8.seen ∧ made8 = q8.made ∧ -1 ≤ q8.last ∧ (q8.seen : Int) ≤ q8.last + 1 ∧ q8.last < p.stmts.length ∧ seatR p.stmts (k + 1) l lp q = (l.drop (i + 1)).foldlM (seatStep p.stmts (seatR p.stmts k) lp) q8) →
        Ax.look σ' 11 = some (.int .i64 ((i + 1 : Nat) : Int)) → Ax.look σ' 4 = some (.int .i64 last8) → Nxt (seatW p r0 ri rl rn k l lp q F M) l.length i σ' F M8 :=
      fun σ' M8 last8 seen8 made8 br8 f o s8 h e11 e4 => ⟨hi1, rfl, f, o, e11, last8, seen8, made8, br8, e4, s8, h⟩
    obtain ⟨lp', hlp⟩ : ∃ b, b = (lp || decide (y.op = 6)) := ⟨_, rfl⟩
    rw [← hlp] at hw'
    have call1 := ih (by omega) F M5 y.ba y.bc y.body lp' ⟨z, q'.seen + 1, made5⟩ false (q'.seen + 1) made5 z r0 ri rl rn hp old5 (fun M o => (hbd M o).1) hbf.1 s5 (fun _ => ⟨rfl, by simp, rfl, by simp only []; omega, by simp only [Int.natCast_add, Int.cast_ofNat_Int]; omega, by simp only []; omega⟩)
    cases lp
    all_goals
      first | have e : lp' = decide (y.op = 6) := hlp | have e : lp' = true := hlp
      rw [e] at call1 hw'
      clear hlp e lp'
      simp only [go_sem, reduceCtorEq, reduceIte, Nat.reduceEqDiff, t0, t2, t3, t4, t12, b12, ed]
      refine callK_of call1 ?_
      clear call1
      rintro u G M7 ⟨hG, fr7, old7, last7, seen7, made7, br7, rfl, s7, hres⟩
      rw [hG]
      refine ⟨(fun h => by cases h), ?_⟩
      rw [if_neg (by simp)] at hres
      have f127 := fr7 _ _ f12 hr12
      have b127 := blk_M (F := F) f127
      generalize hR : seatR p.stmts k y.body _ ⟨z, q'.seen + 1, made5⟩ = R at hres hw'
      cases R with
      | none =>
        simp only [] at hres
        subst hres
        simp only [Option.bind_none] at hw'
        simp only [go_sem, reduceCtorEq, reduceIte, Nat.reduceEqDiff, t0, t2, t3, t12, b127, ed]
        refine callK_of (ih (by omega) F M7 y.ea y.ec y.els _ q' true seen7 made7 last7 r0 ri rl rn hp old7 (fun M o => (hbd M o).2) hbf.2 s7 (fun h => by cases h)) ?_
        rintro u G M8 ⟨hG, fr8, old8, last8, seen8, made8, br8, rfl, s8, hres8⟩
        rw [hG]
        refine ⟨(fun h => by cases h), ?_⟩
        simp only [if_true] at hres8
        subst hres8
        simp only [go_sem, reduceIte, Nat.reduceEqDiff, t11, ei]
        exact fin _ M8 last8 seen8 made8 true ((fr5.trans fr7).trans fr8) old8 s8 (by simp only [if_true]; exact hw') (by simp only [go_sem, *] <;> rfl) (by simp only [go_sem, Nat.reduceEqDiff, *] <;> rfl)
      | some q7 =>
        obtain ⟨j1, j2, j3, j4, _⟩ := seatR_seatC p.stmts k _ _ _ _ hR
        simp only [Int.natCast_add, Int.cast_ofNat_Int] at j1 j2 j3 j4
        have j5 := j4 (by omega)
        simp only [] at hres
        obtain ⟨rfl, rfl, rfl, rfl⟩ := hres
        simp only [Option.bind_some] at hw'
        simp only [go_sem, reduceCtorEq, reduceIte, Nat.reduceEqDiff, t0, t2, t3, t12, b127, ed]
        refine callK_of (ih (by omega) F M7 y.ea y.ec y.els _ q7 false q7.seen q7.made q7.last r0 ri rl rn hp old7 (fun M o => (hbd M o).2) hbf.2 s7 (fun _ => ⟨rfl, rfl, rfl, by omega, by omega, j5⟩)) ?_
        rintro u G M8 ⟨hG, fr8, old8, last8, seen8, made8, br8, rfl, s8, hres8⟩
        rw [hG]
        refine ⟨(fun h => by cases h), ?_⟩
        rw [if_neg (by simp)] at hres8
        simp only [go_sem, reduceIte, Nat.reduceEqDiff, t11, ei]
        generalize hR2 : seatR p.stmts k y.els _ q7 = R2 at hres8 hw'
        cases R2 with
        | none =>
          simp only [] at hres8
          subst hres8
          exact fin _ M8 last8 seen8 made8 true ((fr5.trans fr7).trans fr8) old8 s8 (by simp only [if_true]; exact hw') (by simp only [go_sem, *] <;> rfl) (by simp only [go_sem, Nat.reduceEqDiff, *] <;> rfl)
        | some q8 =>
          obtain ⟨i1, i2, i3, i4, _⟩ := seatR_seatC p.stmts k _ _ _ _ hR2
          have i5 := i4 j5
          simp only [] at hres8
          obtain ⟨rfl, rfl, rfl, rfl⟩ := hres8
          exact fin _ M8 q8.last q8.seen q8.made false ((fr5.trans fr7).trans fr8) old8 s8 (by rw [if_neg (by simp)]; exact ⟨q8, rfl, rfl, rfl, by omega, by omega, i5, hw'⟩) (by simp only [go_sem, *] <;> rfl) (by simp only [go_sem, Nat.reduceEqDiff, *] <;> rfl)
end Go.Proofs.Tryz.K
namespace Go.Proofs.Tryz.K
open Go Go.Ax Go.Proofs.Tryz.S
set_option maxRecDepth 100000
set_option linter.unusedSimpArgs false
set_option linter.unusedVariables false
set_option maxHeartbeats 4000000
variable (F : Fz) (M : Hp)
theorem k26 (p : Pg) (hp : p.rd F) (hold : Old F M) (hm3 : madeIn p) : CallsA Tryz.prog 26 [p.val] F M (fun u F' M' => F' = F ∧ M' = M ∧ ∃ w, u = .tuple #[w, .bool (standR p.stmts p.main)]) := by
  refine callsA_of hm Tryz.func26 e26 (Nat.le_of_ble_eq_true rfl) ?_
  have hfew := hp.few
  simp only [c26, go_sem, Int.reduceNeg]
  intro r1 hF1 hM1
  simp only [go_sem, reduceIte, Nat.reduceEqDiff, Int.reduceNeg]
  refine msK_of (Nat.le_refl _) (by simp only [maxLen]; omega) (by omega) ?_
  intro ri hFi hMi
  simp only [upd_none2] at hMi
  simp only [go_sem, Nat.reduceEqDiff, Int.reduceNeg]
  refine msK_of (Nat.le_refl _) (by simp only [maxLen]; omega) (by omega) ?_
  intro rl hFl hMl
  simp only [upd_none2] at hMl
  simp only [go_sem, Nat.reduceEqDiff, Int.reduceNeg]
  refine msK_of (Nat.le_refl _) (by simp only [maxLen]; omega) (by omega) ?_
  intro rn hFn hMn
  simp only [upd_none2] at hMn
  simp only [go_sem, reduceIte, Nat.reduceEqDiff, Nat.reduceAdd, Nat.reduceLeDiff, Int.reduceNeg, Pg.cs]
  intro r0 hF0 hM0
  simp only [upd_none2] at hM0
  simp only [go_sem, Nat.reduceEqDiff, Int.reduceNeg, hM0, hMn, hMl, hMi]
  have s0 : SeatI p r0 ri rl rn 0 [] false (((((M.upd r1 ⟨[.bool p.big, .int .i64 p.ptr, .slice p.vA p.vars.length p.vC, .slice p.nA p.news.length p.nC, .slice p.eA p.exprs.length p.eC, .slice p.sA p.stmts.length p.sC, .slice p.mA p.main.length p.mC], 28, 7⟩).upd ri ⟨(List.replicate p.stmts.length [Value.int .i64 0]).flatten, 3, p.stmts.length * 1⟩).upd rl ⟨(List.replicate p.stmts.length [Value.bool false]).flatten, 4, p.stmts.length * 1⟩).upd rn ⟨(List.replicate p.news.length [Value.bool false]).flatten, 4, p.news.length * 1⟩).upd r0
      ⟨[.bool p.big, .int .i64 p.ptr, .slice p.vA p.vars.length p.vC, .slice p.nA p.news.length p.nC, .slice p.eA p.exprs.length p.eC, .slice p.sA p.stmts.length p.sC, .slice p.mA p.main.length p.mC,
    .slice (some ⟨ri, 0, none⟩) p.stmts.length p.stmts.length, .slice (some ⟨rl, 0, none⟩) p.stmts.length p.stmts.length, .int .i64 0, .slice (some ⟨rn, 0, none⟩) p.news.length p.news.length, .bool false], 108, 12⟩) := by
    refine ⟨Hp.upd_same _ _ _, ⟨_, ?_, by simp only [Hp.upd_ne', Hp.upd_same, hM0, hMn, hMl, not_false_eq_true]; rfl⟩, ⟨_, ?_, by simp only [Hp.upd_ne', Hp.upd_same, hM0, hMn, not_false_eq_true]; rfl⟩, ⟨List.replicate p.news.length false, by simp, by simp only [Hp.upd_ne', Hp.upd_same, hM0, not_false_eq_true, bol_zero], fun j hj => by simp [hj]⟩, by simp only [hM0, hMn, hMl, not_false_eq_true, and_self]⟩
    · simp
    · simp
  have old0 : Old F (((((M.upd r1 ⟨[.bool p.big, .int .i64 p.ptr, .slice p.vA p.vars.length p.vC, .slice p.nA p.news.length p.nC, .slice p.eA p.exprs.length p.eC, .slice p.sA p.stmts.length p.sC, .slice p.mA p.main.length p.mC], 28, 7⟩).upd ri ⟨(List.replicate p.stmts.length [Value.int .i64 0]).flatten, 3, p.stmts.length * 1⟩).upd rl ⟨(List.replicate p.stmts.length [Value.bool false]).flatten, 4, p.stmts.length * 1⟩).upd rn ⟨(List.replicate p.news.length [Value.bool false]).flatten, 4, p.news.length * 1⟩).upd r0
      ⟨[.bool p.big, .int .i64 p.ptr, .slice p.vA p.vars.length p.vC, .slice p.nA p.news.length p.nC, .slice p.eA p.exprs.length p.eC, .slice p.sA p.stmts.length p.sC, .slice p.mA p.main.length p.mC,
    .slice (some ⟨ri, 0, none⟩) p.stmts.length p.stmts.length, .slice (some ⟨rl, 0, none⟩) p.stmts.length p.stmts.length, .int .i64 0, .slice (some ⟨rn, 0, none⟩) p.news.length p.news.length, .bool false], 108, 12⟩) := (by repeat' first | assumption | (refine Old.upd ?_ (by assumption)))
  have call := k55 p hm3 6 (by omega) F _ p.mA p.mC p.main false ⟨-1, 0, []⟩ false 0 [] (-1) r0 ri rl rn hp old0 hp.main hfew.2.2.2.2.1 s0 (fun _ => ⟨rfl, rfl, rfl, by decide, by decide, by simp only []; omega⟩)
  have m1 : ∀ b x, M b = some x → (¬ b = r0 ∧ ¬ b = ri ∧ ¬ b = rl ∧ ¬ b = rn) ∧ (((((M.upd r1 ⟨[.bool p.big, .int .i64 p.ptr, .slice p.vA p.vars.length p.vC, .slice p.nA p.news.length p.nC, .slice p.eA p.exprs.length p.eC, .slice p.sA p.stmts.length p.sC, .slice p.mA p.main.length p.mC], 28, 7⟩).upd ri ⟨(List.replicate p.stmts.length [Value.int .i64 0]).flatten, 3, p.stmts.length * 1⟩).upd rl ⟨(List.replicate p.stmts.length [Value.bool false]).flatten, 4, p.stmts.length * 1⟩).upd rn ⟨(List.replicate p.news.length [Value.bool false]).flatten, 4, p.news.length * 1⟩).upd r0
      ⟨[.bool p.big, .int .i64 p.ptr, .slice p.vA p.vars.length p.vC, .slice p.nA p.news.length p.nC, .slice p.eA p.exprs.length p.eC, .slice p.sA p.stmts.length p.sC, .slice p.mA p.main.length p.mC,
    .slice (some ⟨ri, 0, none⟩) p.stmts.length p.stmts.length, .slice (some ⟨rl, 0, none⟩) p.stmts.length p.stmts.length, .int .i64 0, .slice (some ⟨rn, 0, none⟩) p.news.length p.news.length, .bool false], 108, 12⟩) b = some x := fun b x hb => by
    have hn : ∀ r, M r = none → ¬ b = r := fun r hr e => by rw [e, hr] at hb; cases hb
    have n0 := hn r0 hM0.2.2.2.2
    have n1 := hn r1 hM1
    have ni := hn ri hMi.2
    have nl := hn rl hMl.2.2
    have nn := hn rn hMn.2.2.2
    exact ⟨⟨n0, ni, nl, nn⟩, by simp only [Hp.upd_ne', n0, n1, ni, nl, nn, not_false_eq_true]; exact hb⟩
  have f1 : (((((M.upd r1 ⟨[.bool p.big, .int .i64 p.ptr, .slice p.vA p.vars.length p.vC, .slice p.nA p.news.length p.nC, .slice p.eA p.exprs.length p.eC, .slice p.sA p.stmts.length p.sC, .slice p.mA p.main.length p.mC], 28, 7⟩).upd ri ⟨(List.replicate p.stmts.length [Value.int .i64 0]).flatten, 3, p.stmts.length * 1⟩).upd rl ⟨(List.replicate p.stmts.length [Value.bool false]).flatten, 4, p.stmts.length * 1⟩).upd rn ⟨(List.replicate p.news.length [Value.bool false]).flatten, 4, p.news.length * 1⟩).upd r0
      ⟨[.bool p.big, .int .i64 p.ptr, .slice p.vA p.vars.length p.vC, .slice p.nA p.news.length p.nC, .slice p.eA p.exprs.length p.eC, .slice p.sA p.stmts.length p.sC, .slice p.mA p.main.length p.mC,
    .slice (some ⟨ri, 0, none⟩) p.stmts.length p.stmts.length, .slice (some ⟨rl, 0, none⟩) p.stmts.length p.stmts.length, .int .i64 0, .slice (some ⟨rn, 0, none⟩) p.news.length p.news.length, .bool false], 108, 12⟩) r1 = some ⟨[.bool p.big, .int .i64 p.ptr, .slice p.vA p.vars.length p.vC, .slice p.nA p.news.length p.nC, .slice p.eA p.exprs.length p.eC, .slice p.sA p.stmts.length p.sC, .slice p.mA p.main.length p.mC], 28, 7⟩ := by
    simp only [Hp.upd_ne', Hp.upd_same, hM0, hMn, hMl, hMi, not_false_eq_true]
  have n1 : ¬ r1 = r0 ∧ ¬ r1 = ri ∧ ¬ r1 = rl ∧ ¬ r1 = rn := by simp only [hM0, hMn, hMl, hMi, not_false_eq_true, and_self]
  refine callK_of call ?_
  clear call
  rintro u G M7 ⟨hG, fr7, old7, last7, seen7, made7, br7, rfl, s7, hres⟩
  rw [hG]
  refine ⟨(fun h => by cases h), ?_⟩
  have kp : Keep M M7 := fun b x hb => fr7 _ _ (m1 b x hb).2 (m1 b x hb).1
  have b1 := blk_M (F := F) (fr7 _ _ f1 n1)
  have b0 := blk_M (F := F) s7.f0
  clear fr7 m1 f1 s0 old0
  rw [if_neg (by simp)] at hres
  unfold standR
  cases hR : seatR p.stmts 6 p.main false ⟨-1, 0, []⟩ with
  | none =>
    rw [hR] at hres
    simp only [] at hres
    subst hres
    simp only [go_sem, reduceCtorEq, reduceIte, Nat.reduceEqDiff, b0]
    exact endK_keep kp ⟨rfl, rfl, _, rfl⟩
  | some q =>
    rw [hR] at hres
    simp only [] at hres
    obtain ⟨rfl, rfl, rfl, rfl⟩ := hres
    simp only [go_sem, reduceIte, Nat.reduceEqDiff, b0, b1]
    refine endK_keep kp ⟨rfl, rfl, .pointer (some ⟨r0, 0, none⟩), ?_⟩
    have : decide (q.seen = p.stmts.length) = decide ((q.seen : Int) = p.stmts.length) := decide_eq_decide.2 (by omega)
    rw [this]
theorem made_of {p : Pg} (h : p.stmts.all (stmtR p.vars.length p.news.length p.exprs) = true) : madeIn p := by
  intro s hs h3
  have := List.all_eq_true.1 h s hs
  simp [stmtR, h3] at this
  omega
theorem k6 (p : Pg) (hp : p.rd F) (hold : Old F M) : CallsA Tryz.prog 6 [p.val] F M (Same F M (.bool (progR p))) := by
  refine callsA_of hm Tryz.func6 e6 (Nat.le_of_ble_eq_true rfl) ?_
  have hfew := hp.few
  simp only [c6, go_sem]
  intro r1 hF1 hM1
  have old1 := hold.upd (e := ⟨p.cs, 28, 7⟩) hF1
  have f1 : (M.upd r1 ⟨p.cs, 28, 7⟩) r1 = some ⟨p.cs, 28, 7⟩ := Hp.upd_same _ _ _
  have hv := hp.vars _ old1
  have hn := hp.news _ old1
  have ks1 := k23 F _ p.vA p.vC p.vars 4 hv (by decide) (by decide)
  have ks2 := k23 F _ p.nA p.nC p.news 2 hn (by decide) (by decide)
  have kp1 : Keep M (M.upd r1 ⟨p.cs, 28, 7⟩) := (Keep.refl M).new hM1
  generalize M.upd r1 ⟨p.cs, 28, 7⟩ = M1 at *
  have b1 := blk_M (F := F) f1
  have no : ∀ v : Bool, (progR p = v) → endK F M1 (Same F M (.bool (progR p))) (.bool v) := fun v h => endK_keep kp1 ⟨by rw [h], rfl, rfl⟩
  simp only [go_sem, reduceIte, Nat.reduceEqDiff, Nat.reduceLeDiff, b1]
  refine callK_same (k22 _ _ p.big p.ptr) ?_
  cases h1 : (decide (p.ptr = 2) || decide (p.ptr = 4))
  · simp only [go_sem, reduceIte, Nat.reduceEqDiff]
    exact no _ (by unfold progR; rw [h1]; rfl)
  simp only [go_sem, Nat.reduceEqDiff, b1]
  refine callK_same ks1 ?_
  have e4 : Int.toNat 4 = 4 := rfl
  have e2 : Int.toNat 2 = 2 := rfl
  rw [e4]
  cases h2 : sizesB p.vars 4
  · simp only [go_sem, reduceCtorEq, reduceIte, Nat.reduceEqDiff]
    exact no _ (by unfold progR; rw [h1, h2]; rfl)
  simp only [go_sem, reduceCtorEq, reduceIte, Nat.reduceEqDiff, b1]
  refine callK_same ks2 ?_
  rw [e2]
  cases h3 : sizesB p.news 2
  · simp only [go_sem, reduceCtorEq, reduceIte, Nat.reduceEqDiff]
    exact no _ (by unfold progR; rw [h1, h2, h3]; rfl)
  by_cases h4 : (120 : Int) < p.exprs.length
  · have : ¬ p.exprs.length ≤ 120 := by omega
    simp only [go_sem, reduceCtorEq, reduceIte, Nat.reduceEqDiff, b1, h4]
    exact no _ (by unfold progR; rw [h1, h2, h3, decide_eq_false this]; rfl)
  by_cases h5 : (40 : Int) < p.stmts.length
  · have : ¬ p.stmts.length ≤ 40 := by omega
    simp only [go_sem, reduceCtorEq, reduceIte, Nat.reduceEqDiff, b1, h4, h5]
    exact no _ (by unfold progR; rw [h1, h2, h3, decide_eq_false this]; simp)
  have h4' : p.exprs.length ≤ 120 := by omega
  have h5' : p.stmts.length ≤ 40 := by omega
  have hR : progR p = (exprsR p.vars.length p.exprs p.exprs.length && (p.stmts.all (stmtR p.vars.length p.news.length p.exprs) && standR p.stmts p.main)) := by
    unfold progR; rw [h1, h2, h3, decide_eq_true h4', decide_eq_true h5']; simp [Bool.and_assoc]
  simp only [go_sem, reduceCtorEq, reduceIte, Nat.reduceEqDiff, b1, h4, h5]
  clear ks1 ks2 hv hn
  refine loop_up p.exprs.length (fun i σ' F' M' => F = F' ∧ M1 = M' ∧ Ax.look σ' 3 = some (.int .i64 i) ∧ exprsR p.vars.length p.exprs i = true) ⟨rfl, rfl, (by simp only [go_sem, *] <;> rfl), rfl⟩ ?_
  rintro i σ F' M' hi hs ⟨rfl, rfl, q3, he⟩
  have q1 := hs 1 rfl
  simp only [go_sem, Nat.reduceEqDiff] at q1
  clear hs
  by_cases hil : (i : Int) < p.exprs.length
  · have hi1 : i < p.exprs.length := by omega
    have ei : IntKind.i64.wrap ((i : Int) + 1) = i + 1 := w64 (by omega) (by omega)
    have hsucc := exprsR_succ p.vars.length p.exprs hi1
    simp only [go_sem, reduceIte, Nat.reduceEqDiff, b1, q1, q3, hil]
    refine callK_same (k24 F M1 p i hp old1 hi1) ?_
    cases hx : exprR p.vars.length p.exprs i p.exprs[i]
    · simp only [go_sem]
      refine no _ ?_
      have : exprsR p.vars.length p.exprs p.exprs.length = false := by
        unfold exprsR
        rw [List.all_eq_false]
        exact ⟨i, by simpa using hi1, by rw [List.getElem?_eq_getElem hi1]; simp [hx]⟩
      rw [hR, this]; rfl
    · simp only [go_sem, reduceIte, Nat.reduceEqDiff, q3, ei]
      exact ⟨hi1, rfl, rfl, (by simp only [go_sem, *] <;> rfl), by rw [hsucc, he, hx]; rfl⟩
  have hx : exprsR p.vars.length p.exprs p.exprs.length = true := by
    have : i = p.exprs.length := by omega
    rw [← this]; exact he
  rw [hx, Bool.true_and] at hR
  simp only [go_sem, reduceIte, Nat.reduceEqDiff, b1, q1, q3, hil]
  clear he q3 hil
  refine loop_up p.stmts.length (fun i σ' F' M' => F = F' ∧ M1 = M' ∧ Ax.look σ' 4 = some (.int .i64 i) ∧ (p.stmts.take i).all (stmtR p.vars.length p.news.length p.exprs) = true) ⟨rfl, rfl, (by simp only [go_sem, *] <;> rfl), rfl⟩ ?_
  rintro i σ' F' M' hi hs ⟨rfl, rfl, q4, he⟩
  have q1' := hs 1 rfl
  simp only [go_sem, Nat.reduceEqDiff, q1] at q1'
  clear hs
  by_cases hil : (i : Int) < p.stmts.length
  · have hi0 : (0 : Int) ≤ i := by omega
    have hi1 : i < p.stmts.length := by omega
    have ei : IntKind.i64.wrap ((i : Int) + 1) = i + 1 := w64 (by omega) (by omega)
    obtain ⟨b, o, cs, ea, hb, d1, d2, _⟩ := sm_at hp old1 hi1
    have t1 := List.take_succ_eq_append_getElem hi1
    have hmem := List.getElem_mem hi1
    generalize p.stmts[i] = x at *
    obtain ⟨hb1, hb2⟩ := hp.bodies x hmem M1 old1
    simp only [go_sem, reduceIte, Nat.reduceEqDiff, b1, q1', q4, hil, hi0, ea, Int.toNat_natCast, hb, d1, d2]
    refine callK_same (k25 F M1 p x hp old1 hb1 hb2) ?_
    cases hx2 : stmtR p.vars.length p.news.length p.exprs x
    · simp only [go_sem]
      refine no _ ?_
      have : p.stmts.all (stmtR p.vars.length p.news.length p.exprs) = false := by
        rw [List.all_eq_false]; exact ⟨x, hmem, by simp [hx2]⟩
      rw [hR, this]; rfl
    · simp only [go_sem, reduceIte, Nat.reduceEqDiff, q4, ei]
      exact ⟨hi1, rfl, rfl, (by simp only [go_sem, *] <;> rfl), by rw [t1, List.all_append, he]; simp [hx2]⟩
  have hst : p.stmts.all (stmtR p.vars.length p.news.length p.exprs) = true := by
    rw [List.take_of_length_le (by omega)] at he; exact he
  rw [hst, Bool.true_and] at hR
  simp only [go_sem, reduceIte, Nat.reduceEqDiff, b1, q1', q4, hil]
  refine callK_of (k26 F M1 p hp old1 (made_of hst)) ?_
  rintro u G M2 ⟨hG, hM2, w, rfl⟩
  rw [hG, hM2]
  refine ⟨(fun h => by cases h), ?_⟩
  simp only [go_sem, Nat.reduceEqDiff]
  exact no _ hR
theorem k61 (p : Pg) (s : Sm) (r1 : Nat) (e1 : Ent) (h1 : M r1 = some e1) (c1 : e1.cells = p.cs) (hp : p.rd F) (hold : Old F M) :
    CallsA Tryz.prog 61 [s.val, .pointer (some ⟨r1, 0, none⟩)] F M (Same F M (.bool (!stmtB p.vars.length p.news.length p.exprs s))) := by
  refine callsA_of hm Tryz.func61 e61 (Nat.le_of_ble_eq_true rfl) ?_
  have b1 := blk_M (F := F) h1
  rw [c1] at b1
  simp only [c61, go_sem]
  intro r2 hF2 hM2
  have n1 := ne_of_none hM2 h1
  simp only [go_sem, reduceCtorEq, reduceIte, Nat.reduceEqDiff, b1, n1]
  refine callK_same (k62 _ _ p s hp (hold.upd hF2)) ?_
  simp only [go_sem]
  exact endK_drop hM2 (endK_same ⟨rfl, rfl, rfl⟩)
theorem k27 (p : Pg) (hp : p.rd F) (hold : Old F M) : CallsA Tryz.prog 27 [p.val] F M (Same F M (.bool (progC p))) := by
  refine callsA_of hm Tryz.func27 e27 (Nat.le_of_ble_eq_true rfl) ?_
  have hfew := hp.few
  simp only [c27, go_sem]
  intro r1 hF1 hM1
  simp only [go_sem, reduceIte, Nat.reduceEqDiff, Nat.reduceAdd]
  intro r3 hF3 hM3
  simp only [upd_none2] at hM3
  have old3 : Old F ((M.upd r1 ⟨p.cs, 28, 7⟩).upd r3 ⟨p.cs, 111, 7⟩) := (by repeat' first | assumption | (refine Old.upd ?_ (by assumption)))
  have f1 : ((M.upd r1 ⟨p.cs, 28, 7⟩).upd r3 ⟨p.cs, 111, 7⟩) r1 = some ⟨p.cs, 28, 7⟩ := by rw [Hp.upd_ne' hM3.1.2]; exact Hp.upd_same _ _ _
  have f3 : ((M.upd r1 ⟨p.cs, 28, 7⟩).upd r3 ⟨p.cs, 111, 7⟩) r3 = some ⟨p.cs, 111, 7⟩ := Hp.upd_same _ _ _
  have kp3 : Keep M ((M.upd r1 ⟨p.cs, 28, 7⟩).upd r3 ⟨p.cs, 111, 7⟩) := ((Keep.refl M).new hM1).new hM3.2
  simp only [setH, Hp.upd_upd, go_sem, Nat.reduceEqDiff, Nat.reduceAdd]
  generalize (M.upd r1 ⟨p.cs, 28, 7⟩).upd r3 ⟨p.cs, 111, 7⟩ = M1 at *
  have b1 := blk_M (F := F) f1
  have b3 := blk_M (F := F) f3
  have no : ∀ v : Bool, (progC p = v) → endK F M1 (Same F M (.bool (progC p))) (.bool v) := fun v h => endK_keep kp3 ⟨by rw [h], rfl, rfl⟩
  have hbad : ∀ n : Int, (decide (n < 1) || decide (32 < n)) = !sizeB n := fun n => by
    unfold sizeB
    by_cases h1 : n < 1
    · have : ¬ 1 ≤ n := by omega
      simp [h1, this]
    · by_cases h2 : 32 < n
      · have : ¬ n ≤ 32 := by omega
        simp [h2, this]
      · have h3 : 1 ≤ n := by omega
        have h4 : n ≤ 32 := by omega
        simp [h1, h2, h3, h4]
  have hany : ∀ l : List Int, (l.any fun n => decide (n < 1) || decide (32 < n)) = !l.all sizeB := fun l => by
    rw [List.not_all_eq_any_not]
    congr 1
    funext n
    exact hbad n
  have kv : CallsA Tryz.prog 58 [.slice p.vA p.vars.length p.vC, .func (.func 56) #[] #[]] F M1 (Same F M1 (.bool (!p.vars.all sizeB))) := by
    rw [← hany]
    exact k58 F M1 p.vA p.vC p.vars _ [] _ (hp.vars _ old3) (fun v _ => k56 F M1 v)
  have kn : CallsA Tryz.prog 58 [.slice p.nA p.news.length p.nC, .func (.func 56) #[] #[]] F M1 (Same F M1 (.bool (!p.news.all sizeB))) := by
    rw [← hany]
    exact k58 F M1 p.nA p.nC p.news _ [] _ (hp.news _ old3) (fun v _ => k56 F M1 v)
  have kst : CallsA Tryz.prog 60 [.slice p.sA p.stmts.length p.sC, .func (.func 61) #[] #[.pointer (some ⟨r3, 0, none⟩)]] F M1 (Same F M1 (.bool (!p.stmts.all (stmtB p.vars.length p.news.length p.exprs)))) := by
    rw [List.not_all_eq_any_not]
    exact k60 F M1 p.sA p.sC p.stmts _ [.pointer (some ⟨r3, 0, none⟩)] _ (hp.stmts _ old3) (fun v _ => k61 F M1 p v r3 _ f3 rfl hp old3)
  clear hbad hany hF1 hM1 hF3 hM3 kp3
  simp only [go_sem, reduceIte, Nat.reduceLeDiff, b1]
  refine callK_same (k57 _ _ p.big p.ptr) ?_
  cases h1 : (decide (p.ptr = 2) || decide (p.ptr = 4))
  · simp only [go_sem, reduceIte, Nat.reduceEqDiff]
    exact no _ (by unfold progC; rw [h1]; rfl)
  by_cases h2 : (4 : Int) < p.vars.length
  · have : ¬ p.vars.length ≤ 4 := by omega
    simp only [go_sem, reduceCtorEq, reduceIte, Nat.reduceEqDiff, b1, h2]
    exact no _ (by simp [progC, sizesB, this])
  by_cases h3 : (2 : Int) < p.news.length
  · have : ¬ p.news.length ≤ 2 := by omega
    simp only [go_sem, reduceCtorEq, reduceIte, Nat.reduceEqDiff, b1, h2, h3]
    exact no _ (by simp [progC, sizesB, this])
  by_cases h4 : (120 : Int) < p.exprs.length
  · have : ¬ p.exprs.length ≤ 120 := by omega
    simp only [go_sem, reduceCtorEq, reduceIte, Nat.reduceEqDiff, b1, h2, h3, h4]
    exact no _ (by simp [progC, this])
  by_cases h5 : (40 : Int) < p.stmts.length
  · have : ¬ p.stmts.length ≤ 40 := by omega
    simp only [go_sem, reduceCtorEq, reduceIte, Nat.reduceEqDiff, b1, h2, h3, h4, h5]
    exact no _ (by simp [progC, this])
  have h2' : p.vars.length ≤ 4 := by omega
  have h3' : p.news.length ≤ 2 := by omega
  have h4' : p.exprs.length ≤ 120 := by omega
  have h5' : p.stmts.length ≤ 40 := by omega
  have hR : progC p = (p.vars.all sizeB && (p.news.all sizeB && (exprsB p.vars.length p.exprs p.exprs.length && (p.stmts.all (stmtB p.vars.length p.news.length p.exprs) && standC p.stmts p.main)))) := by
    unfold progC sizesB; rw [h1, decide_eq_true h2', decide_eq_true h3', decide_eq_true h4', decide_eq_true h5']; simp [Bool.and_assoc]
  simp only [go_sem, reduceCtorEq, reduceIte, Nat.reduceEqDiff, b1, h2, h3, h4, h5]
  refine callK_same kv ?_
  cases h6 : p.vars.all sizeB
  · simp only [go_sem, reduceIte, Nat.reduceEqDiff]
    exact no _ (by rw [hR, h6]; rfl)
  simp only [go_sem, Nat.reduceEqDiff, b1]
  refine callK_same kn ?_
  cases h7 : p.news.all sizeB
  · simp only [go_sem, reduceCtorEq, reduceIte, Nat.reduceEqDiff]
    exact no _ (by rw [hR, h7]; simp)
  rw [h6, h7, Bool.true_and, Bool.true_and] at hR
  simp only [go_sem, reduceCtorEq, reduceIte, Nat.reduceEqDiff, b1]
  refine loop_up p.exprs.length (fun i σ' F' M' => F = F' ∧ M1 = M' ∧ Ax.look σ' 51 = some (.int .i64 i) ∧ exprsB p.vars.length p.exprs i = true) ⟨rfl, rfl, (by simp only [go_sem, *] <;> rfl), rfl⟩ ?_
  rintro i σ F' M' hi hs ⟨rfl, rfl, q51, he⟩
  have q1 := hs 1 rfl
  have q3 := hs 3 rfl
  have q50 := hs 50 rfl
  simp only [go_sem, Nat.reduceEqDiff] at q1 q3 q50
  clear hs
  by_cases hil : (i : Int) < p.exprs.length
  · have hi1 : i < p.exprs.length := by omega
    have ei : IntKind.i64.wrap ((i : Int) + 1) = i + 1 := w64 (by omega) (by omega)
    have hsucc := exprs_succ p.vars.length p.exprs hi1
    simp only [go_sem, reduceIte, Nat.reduceEqDiff, b3, q3, q50, q51, hil]
    refine callK_same (k59 F M1 p i hp old3 hi1) ?_
    cases hx : exprB p.vars.length p.exprs i p.exprs[i]
    · simp only [go_sem]
      refine no _ ?_
      have : exprsB p.vars.length p.exprs p.exprs.length = false := by
        unfold exprsB
        rw [List.all_eq_false]
        exact ⟨i, by simpa using hi1, by rw [List.getElem?_eq_getElem hi1]; simp [hx]⟩
      rw [hR, this]; rfl
    · simp only [go_sem, reduceIte, Nat.reduceEqDiff, q51, ei]
      exact ⟨hi1, rfl, rfl, (by simp only [go_sem, *] <;> rfl), by rw [hsucc, he, hx]; rfl⟩
  have hx : exprsB p.vars.length p.exprs p.exprs.length = true := by
    have : i = p.exprs.length := by omega
    rw [← this]; exact he
  rw [hx, Bool.true_and] at hR
  simp only [go_sem, reduceIte, Nat.reduceEqDiff, b1, q1, q3, q50, q51, hil]
  refine callK_same kst ?_
  cases h8 : p.stmts.all (stmtB p.vars.length p.news.length p.exprs)
  · simp only [go_sem]
    exact no _ (by rw [hR, h8]; rfl)
  rw [h8, Bool.true_and] at hR
  simp only [go_sem, reduceIte, Nat.reduceEqDiff, b3, q3]
  refine callK_of (k63 F M1 p hp old3) ?_
  rintro u G M2 ⟨hG, hM2, w, rfl⟩
  rw [hG, hM2]
  refine ⟨(fun h => by cases h), ?_⟩
  by_cases h9 : seatC p.stmts 6 p.main 0 = some p.stmts.length
  · have e9 : decide (seatC p.stmts 6 p.main 0 = some p.stmts.length) = true := by rw [decide_eq_true h9]
    simp only [go_sem, reduceIte, Nat.reduceEqDiff, e9, b3, q3]
    refine callK_same (k64 F M1 p hp old3 (stand_in h9)) ?_
    simp only [go_sem, reduceIte, Nat.reduceEqDiff]
    exact no _ (by rw [hR]; unfold standC; rw [decide_eq_true h9, Bool.true_and])
  · have e9 : decide (seatC p.stmts 6 p.main 0 = some p.stmts.length) = false := by rw [decide_eq_false h9]
    simp only [go_sem, reduceCtorEq, reduceIte, Nat.reduceEqDiff, e9]
    exact no _ (by rw [hR]; unfold standC; rw [decide_eq_false h9, Bool.false_and])
end Go.Proofs.Tryz.K
namespace Go.Proofs.Tryz.K
open Go Go.Ax Go.Proofs.Tryz.S
set_option maxRecDepth 100000
set_option linter.unusedSimpArgs false
set_option linter.unusedVariables false
set_option maxHeartbeats 4000000
variable (F : Fz) (M : Hp)
theorem k105 (p : Pg) (hp : p.rd F) (hold : Old F M) : CallsA Tryz.prog 105 [p.val] F M (rowR 1 intC 3 (sizesL p) F M) := by
  refine callsA_of hm Tryz.func105 e105 (Nat.le_of_ble_eq_true rfl) ?_
  have hfew := hp.few
  simp only [c105, go_sem]
  intro r1 hF1 hM1
  simp only [go_sem, reduceIte]
  intro r3 hF3 hM3
  simp only [upd_none2] at hM3
  simp only [go_sem, reduceIte, Nat.reduceEqDiff, Nat.reduceAdd, Nat.reduceLeDiff, hM3]
  intro r8 hF8 hM8
  simp only [upd_none2] at hM8
  have kp : Keep M (((M.upd r1 ⟨p.cs, 28, 7⟩).upd r3 ⟨[.int .i64 0], 3, 1⟩).upd r8 ⟨[.slice (some ⟨r3, 0, none⟩) 1 1, .slice p.vA p.vars.length p.vC, .slice p.nA p.news.length p.nC], 24, 3⟩) := (by repeat' first | exact Keep.refl _ | (refine Keep.new ?_ (by simp only [*])))
  have old8 : Old F (((M.upd r1 ⟨p.cs, 28, 7⟩).upd r3 ⟨[.int .i64 0], 3, 1⟩).upd r8 ⟨[.slice (some ⟨r3, 0, none⟩) 1 1, .slice p.vA p.vars.length p.vC, .slice p.nA p.news.length p.nC], 24, 3⟩) := (by repeat' first | assumption | (refine Old.upd ?_ (by assumption)))
  simp only [go_sem]
  have b3 : blk F (((M.upd r1 ⟨p.cs, 28, 7⟩).upd r3 ⟨[.int .i64 0], 3, 1⟩).upd r8 ⟨[.slice (some ⟨r3, 0, none⟩) 1 1, .slice p.vA p.vars.length p.vC, .slice p.nA p.news.length p.nC], 24, 3⟩) r3 = some [.int .i64 0] := by simp only [go_sem, hM8]
  refine callK_of (k104 F _ (some ⟨r8, 0, none⟩) 3 [(some ⟨r3, 0, none⟩, 1, [0]), (p.vA, p.vC, p.vars), (p.nA, p.nC, p.news)] old8 (rdG_flat slC_len (by simp) (by simp) (by rw [blk_upd_same]; simp [slC])) ?_ (by simp)) ?_
  · intro y hy
    simp only [List.mem_cons, List.not_mem_nil, or_false] at hy
    rcases hy with rfl | rfl | rfl
    · exact ⟨rdG_flat intC_len (by simp) (by simp) (by rw [b3]; rfl), by simp, by simp⟩
    · exact ⟨hp.vars _ old8, by simp only []; omega, hp.zero.1⟩
    · exact ⟨hp.news _ old8, by simp only []; omega, hp.zero.2.1⟩
  rintro u G M2 hq
  have e2 : ([(some ⟨r3, 0, none⟩, 1, [0]), (p.vA, p.vC, p.vars), (p.nA, p.nC, p.news)] : List Lz).flatMap (·.2.2) = sizesL p := by simp [sizesL]
  rw [e2] at hq
  obtain ⟨hG, _, _, _, aq, cq, rfl, rdq⟩ := hq.le intC_len (by simp [sizesL]; omega)
  refine ⟨(fun h => by cases h), ?_⟩
  simp only [go_sem]
  exact hG ▸ hq.endK kp
theorem k30 (p : Pg) (hp : p.rd F) (hold : Old F M) : CallsA Tryz.prog 30 [p.val] F M (rowR 1 intC 3 (sizesL p) F M) := by
  refine callsA_of hm Tryz.func30 e30 (Nat.le_of_ble_eq_true rfl) ?_
  have hfew := hp.few
  simp only [c30, go_sem]
  intro r1 hF1 hM1
  simp only [go_sem, reduceIte, Nat.reduceEqDiff]
  intro r3 hF3 hM3
  simp only [upd_none2] at hM3
  have kp1 : Keep M (M.upd r1 ⟨p.cs, 28, 7⟩) := (Keep.refl M).new hM1
  have mine : MineG 1 intC 3 F M ((M.upd r1 ⟨p.cs, 28, 7⟩).upd r3 ⟨[.int .i64 0], 3, 1⟩) (.slice (some ⟨r3, 0, none⟩) 1 1) [0] := MineG.one (x := (0 : Int)) (f := intC) hF3 hM3.2 rfl
  have kp3 : Keep M ((M.upd r1 ⟨p.cs, 28, 7⟩).upd r3 ⟨[.int .i64 0], 3, 1⟩) := (by repeat' first | exact Keep.refl _ | (refine Keep.new ?_ (by simp only [*])))
  have old3 : Old F ((M.upd r1 ⟨p.cs, 28, 7⟩).upd r3 ⟨[.int .i64 0], 3, 1⟩) := (by repeat' first | assumption | (refine Old.upd ?_ (by assumption)))
  simp only [go_sem, Nat.reduceEqDiff]
  refine apMG_any (xs := [0]) (ys := p.vars) intC_len intC_plain (by decide) mine kp3 (RdG.src intC_len (hp.vars _ old3) hp.zero.1) (by simp; omega) ?_
  rintro v5 M5 hfr5 kp5 ho5 mine5
  have old5 := ho5 old3
  simp only [go_sem, Nat.reduceEqDiff]
  refine apMG_any (xs := [0] ++ p.vars) (ys := p.news) intC_len intC_plain (by decide) mine5 kp5 (RdG.src intC_len (hp.news _ old5) hp.zero.2.1) (by simp; omega) ?_
  rintro v6 M6 hfr6 kp6 ho6 mine6
  obtain ⟨a6, c6, e6⟩ := mine6.shape
  simp only [go_sem]
  exact mine6.done kp6
end Go.Proofs.Tryz.K
namespace Go.Ax
open Go
set_option linter.unusedVariables false
set_option linter.unusedSimpArgs false
def byteB (x : By) : Bool :=
  if x.st = 0 then decide (x = ⟨0, 0, 0, 0, 0⟩) else if x.st = 1 then (decide (0 ≤ x.n) && decide (x.n ≤ 255)) && decide (x.b = 0) && decide (x.o = 0) && decide (x.i = 0)
  else if x.st = 2 then decide (x.n = 0) && (decide (1 ≤ x.b) && decide (x.b ≤ 32)) && (decide (0 ≤ x.o) && decide (x.o ≤ 32)) && (decide (0 ≤ x.i) && decide (x.i ≤ 3)) else false
def blockB (x : Bl) : Bool := (decide (0 ≤ x.st) && decide (x.st ≤ 3)) && decide (x.l.length ≤ 32) && (decide (x.st = 1) || decide (x.l.length = 0)) && x.l.all byteB
def stAt (m : List Bl) (i : Nat) : Int := (m[i]?.map (·.st)).getD 0
def memoryB (m : List Bl) : Bool := (decide (1 ≤ m.length) && decide (m.length ≤ 33)) && decide (stAt m 0 = 0) && m.all blockB
end Go.Ax
