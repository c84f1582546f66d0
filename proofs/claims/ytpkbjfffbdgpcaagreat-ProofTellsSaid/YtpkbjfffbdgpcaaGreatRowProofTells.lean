/- The law ProofTells: at every input that its statement lets in, it returns true and leaves the input as it was. -/
import Derived.Test.YtpkbjfffbdgpcaaGreatLProofTells
import Derived.Test.YtpkbjfffbdgpcaaGreatRows
import Derived.WalkKit
import Derived.ProofKit
import Derived.OpenShut
import Derived.ShutString
import Derived.ChangeOld
import Derived.Below
import Derived.Carry
open List renaming all_eq_true->bW
open Go.Proofs.Tryz
namespace Go.Proofs.YtpkbjfffbdgpcaaGreat.proofTells
open Go.ChangeShapes Go.WideShapes Go.ChangeAt Go.RowKit
set_option linter.unusedVariables false
theorem own : ownKnob prog.godebug = none := by kernel_rfl
theorem laidOut : laidOutB prog = true := by kernel_rfl
theorem shape : Go.Ax.yYZ prog 12 35 = some Go.Ax.qHE := by kernel_rfl
set_option maxRecDepth 100000 in
theorem lifted (os : Os) (started : os.Started) (H : Type) (enc : TypeId × Value -> H) :
    ReturnsInHanded {} Tryz.checked os 3 .any (Rows.proofTellsSpec.pre6 enc prog f3 Rows.proofTellsRow.domain false) (Rows.proofTellsSpec.post enc prog f3 false true false false) := by
  refine returnsInHanded_of_change_sized (C := Tryz.checked) own started (by kernel_rfl) func3
    (ChangeSpec.witness6 (enc := enc) (C := Tryz.checked) false ⟨#[], #[.agg #[.slice none 0 0, .slice none 0 0, .slice none 0 0, .slice none 0 0, .slice none 0 0, .slice none 0 0, .slice none 0 0]], []⟩ 8 (by kernel_rfl) (by kernel_rfl) (by kernel_rfl) (by kernel_rfl)) ?_
  intro W base args ds gs before hval0 hW hcnd hsz0 _
  have hsz : (DataW.weightsEach prog (f3.params.toList ++ Rows.proofTellsSpec.plain.varTypes prog) (ds ++ gs)).all (· <= reachBytes) = true := hsz0
  have hval : ∀ (j : Nat) t v, f3.params[j]? = some t -> args[j]? = some v -> Value.okWide prog W .any base t v := hval0
  have hW' := hW
  obtain ⟨p, q, hA0, hV, rfl, hfz, hnd⟩ := hW
  have hA : DataW.TrodAll enc prog W 0 (fun _ => true) true f3.params.toList args.toList ds p := hA0
  rw [Tryz.params3] at hA hval hsz
  obtain ⟨v0, vs0, d0, ds0, p0, q0, hargs, rfl, rfl, h0, r0⟩ := trodAll_cons hA
  obtain ⟨rfl, rfl, rfl⟩ := trodAll_nil r0
  obtain rfl : args = #[v0] := by cases args; simp_all
  obtain ⟨rfl, rfl⟩ := trodVars_none hV
  obtain ⟨cs0, rfl, hc0⟩ := okWide_struct Tryz.underlying35 (hval 0 35 v0 rfl rfl)
  have k0 := h0
  have lt0 : ∀ x ∈ p0, x.block < W.heap.size := by obtain ⟨m, hm⟩ := k0; exact DataW.trod_lt m _ _ _ hm
  have rd : Go.Ax.Rd (Go.Ax.qDF W) Go.Ax.qHE cs0.toList := by
    obtain ⟨m, hm⟩ := h0
    refine Go.Ax.qXX 12 m 35 _ _ _ shape hm fun n hn => ?_
    have := bW.1 hsz n (DataW.weights_mem_each (j := 0) rfl rfl n hn)
    simpa using this
  clear hA0 hval0 hsz0 hsz
  refine ((call W cs0.toList rd).2 W (Go.Ax.yYK W)).mono fun e W' ⟨r, F', M', he, _, fr, hr⟩ => ?_
  subst hr
  subst he
  have bel : Below W.heap.size W W' := ⟨fr.os, fr.tape.1, fr.output, fr.size, fun b hb => (fr.block b hb rfl rfl).1⟩
  exact ⟨_, rfl, _, _, _, [], _, [], hW', trodAll_mk1 (shut_bool Tryz.underlying4 _),
    trodAll_cons_mk (Below.trod laidOut (by kernel_rfl) (of_decide_eq_true (by kernel_rfl)) k0 bel lt0) trodAll_mk0, rfl, bel.frame _, fun h => by cases h⟩
set_option maxHeartbeats 40000000
/-- Each closed fact by itself: the kernel gives its memory back behind each (in one it wants more than 10 GB, of a great seat). -/
theorem xGD : joinedFacts Tryz.pinned.checked.prog 3 f3 Rows.proofTellsSpec Rows.proofTellsRow = true := by
  unfold joinedFacts
  repeat' (with_reducible refine Bool.and_eq_true_iff.2 ⟨?_, ?_⟩)
  all_goals as_aux_lemma => kernel_rfl
theorem over : Rows.proofTellsRow.holds Tryz.pinned (OpenSpec.ofChange Rows.proofTellsSpec) :=
  OpenClaim.holds_of_wide 3 f3 rfl rfl rfl rfl rfl rfl rfl ⟨rfl, rfl, rfl, rfl, rfl⟩ rfl rfl rfl rfl rfl (by kernel_rfl) func3 xGD
    (of_decide_eq_true (by kernel_rfl)) (by unfold Func.isWrapper; first | (rw [if_pos (by decide +kernel)]; kernel_rfl) | (rw [if_neg (by decide +kernel)]; exact ⟨rfl, rfl⟩))
    (fun os started H enc _ => lifted os started H enc)
end Go.Proofs.YtpkbjfffbdgpcaaGreat.proofTells
namespace Go.Proofs.YtpkbjfffbdgpcaaGreat
/-- The law ProofTells holds of the given program at every input. -/
theorem proofTells_holds : Rows.ProofTellsSaid := proofTells.over
#print axioms proofTells_holds
end Go.Proofs.YtpkbjfffbdgpcaaGreat
