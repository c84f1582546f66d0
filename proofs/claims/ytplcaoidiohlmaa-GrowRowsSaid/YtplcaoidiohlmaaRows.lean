/-
  No cell of these rows narrows 'for every input' (looked for: loops, veiled, ifaces, maps, wideKeys, modest, calm, conditions, laid).
  DERIVED. THE GIVEN ROWS OF THIS SEAT. 10 by the template 'for every input the law returns true; each argument reads behind the call as it read before'; 0 by the template 'total and deterministic' (their statements: YtplcaoidiohlmaaTotals.lean).
  GIVEN WITH THE SEED: the statements are not yours to turn. If you find one false, say at which input.
  Laid BY PROGRAM, IN A SANDBOX (cutbox-rows.mjs): the forced cells as the released guide's own fill.sh prints them over the translation dd36960a4241f307… (all of the seat's roots in one cut). By AI agents, Wed Nov 11 2026. No macro, syntax, notation, axiom, sorry.
-/
import Derived.Test.YtplcaoidiohlmaaChecked
import GoSem.Claim
import GoSem.ClaimJoined
import GoSem.ClaimMapViews
import Derived.JoinedTies
import Derived.KernelRfl
namespace Go.Proofs.Ytplcaoidiohlmaa
/- THE CELL 'sum', in the pinned program and in every row, IS THE sha256 OF THE DUMP (.gsa) THAT YtplcaoidiohlmaaProg.lean LOADS. Nothing in Lean hashes anything: it is a label: what it is worth is what the hold of that sum in a sandbox is worth. -/
noncomputable def Try.pinned : Pinned := { name := "ytplcaoidiohlmaa", sum := "dd36960a4241f307c56490f0a77153befd27d20cd2bfe741fd9b685a2db5a0c1", checked := Try.checked }
namespace Rows
def none {H : Type} : Left H := { results := [], args := [] }

/-- 'cellarlaw3.ValMakes': WHATEVER THE INPUT: true; the input reads as it did. -/
def valMakesSpec : ChangeSpec := { name := "valMakes", fn := fun _ => fun
  | [d] => { results := [.lit (.bool true)], args := [d] }
  | _ => none }
def valMakesRow : OpenClaim := { program := "ytplcaoidiohlmaa", sum := "dd36960a4241f307c56490f0a77153befd27d20cd2bfe741fd9b685a2db5a0c1", func := "cellar/cellarlaw3.ValMakes", spec := "valMakes", apart := false }
def ValMakesSaid : Prop := valMakesRow.holds Try.pinned (OpenSpec.ofChange valMakesSpec)

/-- ITS FALSE NEIGHBOUR: 'it returns false'. Refute it at one input. -/
def valMakesWrong : ChangeSpec := { name := "valMakes", fn := fun _ => fun
  | [d] => { results := [.lit (.bool false)], args := [d] }
  | _ => none }
def ValMakesWrongFalsely : Prop := valMakesRow.holds Try.pinned (OpenSpec.ofChange valMakesWrong)

/-- 'cellarlaw3.ValCorners': WHATEVER THE INPUT: true; the input reads as it did. -/
def valCornersSpec : ChangeSpec := { name := "valCorners", fn := fun _ => fun
  | [d] => { results := [.lit (.bool true)], args := [d] }
  | _ => none }
def valCornersRow : OpenClaim := { program := "ytplcaoidiohlmaa", sum := "dd36960a4241f307c56490f0a77153befd27d20cd2bfe741fd9b685a2db5a0c1", func := "cellar/cellarlaw3.ValCorners", spec := "valCorners", apart := false }
def ValCornersSaid : Prop := valCornersRow.holds Try.pinned (OpenSpec.ofChange valCornersSpec)

/-- ITS FALSE NEIGHBOUR: 'it returns false'. Refute it at one input. -/
def valCornersWrong : ChangeSpec := { name := "valCorners", fn := fun _ => fun
  | [d] => { results := [.lit (.bool false)], args := [d] }
  | _ => none }
def ValCornersWrongFalsely : Prop := valCornersRow.holds Try.pinned (OpenSpec.ofChange valCornersWrong)

/-- 'cellarlaw3.ValTells': WHATEVER THE INPUT: true; the input reads as it did. -/
def valTellsSpec : ChangeSpec := { name := "valTells", fn := fun _ => fun
  | [d] => { results := [.lit (.bool true)], args := [d] }
  | _ => none }
def valTellsRow : OpenClaim := { program := "ytplcaoidiohlmaa", sum := "dd36960a4241f307c56490f0a77153befd27d20cd2bfe741fd9b685a2db5a0c1", func := "cellar/cellarlaw3.ValTells", spec := "valTells", apart := false }
def ValTellsSaid : Prop := valTellsRow.holds Try.pinned (OpenSpec.ofChange valTellsSpec)

/-- ITS FALSE NEIGHBOUR: 'it returns false'. Refute it at one input. -/
def valTellsWrong : ChangeSpec := { name := "valTells", fn := fun _ => fun
  | [d] => { results := [.lit (.bool false)], args := [d] }
  | _ => none }
def ValTellsWrongFalsely : Prop := valTellsRow.holds Try.pinned (OpenSpec.ofChange valTellsWrong)

/-- 'cellarlaw3.ValLeads': WHATEVER THE INPUT: true; the input reads as it did. -/
def valLeadsSpec : ChangeSpec := { name := "valLeads", fn := fun _ => fun
  | [d] => { results := [.lit (.bool true)], args := [d] }
  | _ => none }
def valLeadsRow : OpenClaim := { program := "ytplcaoidiohlmaa", sum := "dd36960a4241f307c56490f0a77153befd27d20cd2bfe741fd9b685a2db5a0c1", func := "cellar/cellarlaw3.ValLeads", spec := "valLeads", apart := false }
def ValLeadsSaid : Prop := valLeadsRow.holds Try.pinned (OpenSpec.ofChange valLeadsSpec)

/-- ITS FALSE NEIGHBOUR: 'it returns false'. Refute it at one input. -/
def valLeadsWrong : ChangeSpec := { name := "valLeads", fn := fun _ => fun
  | [d] => { results := [.lit (.bool false)], args := [d] }
  | _ => none }
def ValLeadsWrongFalsely : Prop := valLeadsRow.holds Try.pinned (OpenSpec.ofChange valLeadsWrong)

/-- 'cellarlaw6.GrowSlow': WHATEVER THE INPUT: true; the input reads as it did. -/
def growSlowSpec : ChangeSpec := { name := "growSlow", fn := fun _ => fun
  | [d] => { results := [.lit (.bool true)], args := [d] }
  | _ => none }
def growSlowRow : OpenClaim := { program := "ytplcaoidiohlmaa", sum := "dd36960a4241f307c56490f0a77153befd27d20cd2bfe741fd9b685a2db5a0c1", func := "cellar/cellarlaw6.GrowSlow", spec := "growSlow", unfollowed := true, recurses := true, apart := false }
def GrowSlowSaid : Prop := growSlowRow.holds Try.pinned (OpenSpec.ofChange growSlowSpec)

/-- ITS FALSE NEIGHBOUR: 'it returns false'. Refute it at one input. -/
def growSlowWrong : ChangeSpec := { name := "growSlow", fn := fun _ => fun
  | [d] => { results := [.lit (.bool false)], args := [d] }
  | _ => none }
def GrowSlowWrongFalsely : Prop := growSlowRow.holds Try.pinned (OpenSpec.ofChange growSlowWrong)

/-- 'cellarlaw6.GrowWide': WHATEVER THE INPUT: true; the input reads as it did. -/
def growWideSpec : ChangeSpec := { name := "growWide", fn := fun _ => fun
  | [d] => { results := [.lit (.bool true)], args := [d] }
  | _ => none }
def growWideRow : OpenClaim := { program := "ytplcaoidiohlmaa", sum := "dd36960a4241f307c56490f0a77153befd27d20cd2bfe741fd9b685a2db5a0c1", func := "cellar/cellarlaw6.GrowWide", spec := "growWide", unfollowed := true, recurses := true, apart := false }
def GrowWideSaid : Prop := growWideRow.holds Try.pinned (OpenSpec.ofChange growWideSpec)

/-- ITS FALSE NEIGHBOUR: 'it returns false'. Refute it at one input. -/
def growWideWrong : ChangeSpec := { name := "growWide", fn := fun _ => fun
  | [d] => { results := [.lit (.bool false)], args := [d] }
  | _ => none }
def GrowWideWrongFalsely : Prop := growWideRow.holds Try.pinned (OpenSpec.ofChange growWideWrong)

/-- 'cellarlaw6.GrowRows': WHATEVER THE INPUT: true; the input reads as it did. -/
def growRowsSpec : ChangeSpec := { name := "growRows", fn := fun _ => fun
  | [d] => { results := [.lit (.bool true)], args := [d] }
  | _ => none }
def growRowsRow : OpenClaim := { program := "ytplcaoidiohlmaa", sum := "dd36960a4241f307c56490f0a77153befd27d20cd2bfe741fd9b685a2db5a0c1", func := "cellar/cellarlaw6.GrowRows", spec := "growRows", unfollowed := true, recurses := true, apart := false }
def GrowRowsSaid : Prop := growRowsRow.holds Try.pinned (OpenSpec.ofChange growRowsSpec)

/-- ITS FALSE NEIGHBOUR: 'it returns false'. Refute it at one input. -/
def growRowsWrong : ChangeSpec := { name := "growRows", fn := fun _ => fun
  | [d] => { results := [.lit (.bool false)], args := [d] }
  | _ => none }
def GrowRowsWrongFalsely : Prop := growRowsRow.holds Try.pinned (OpenSpec.ofChange growRowsWrong)

/-- 'cellarlaw6.GrowBits': WHATEVER THE INPUT: true; the input reads as it did. -/
def growBitsSpec : ChangeSpec := { name := "growBits", fn := fun _ => fun
  | [d] => { results := [.lit (.bool true)], args := [d] }
  | _ => none }
def growBitsRow : OpenClaim := { program := "ytplcaoidiohlmaa", sum := "dd36960a4241f307c56490f0a77153befd27d20cd2bfe741fd9b685a2db5a0c1", func := "cellar/cellarlaw6.GrowBits", spec := "growBits", unfollowed := true, recurses := true, apart := false }
def GrowBitsSaid : Prop := growBitsRow.holds Try.pinned (OpenSpec.ofChange growBitsSpec)

/-- ITS FALSE NEIGHBOUR: 'it returns false'. Refute it at one input. -/
def growBitsWrong : ChangeSpec := { name := "growBits", fn := fun _ => fun
  | [d] => { results := [.lit (.bool false)], args := [d] }
  | _ => none }
def GrowBitsWrongFalsely : Prop := growBitsRow.holds Try.pinned (OpenSpec.ofChange growBitsWrong)

/-- 'cellarlaw3.ValSmall': WHATEVER THE INPUT: true; the input reads as it did. -/
def valSmallSpec : ChangeSpec := { name := "valSmall", fn := fun _ => fun
  | [d] => { results := [.lit (.bool true)], args := [d] }
  | _ => none }
def valSmallRow : OpenClaim := { program := "ytplcaoidiohlmaa", sum := "dd36960a4241f307c56490f0a77153befd27d20cd2bfe741fd9b685a2db5a0c1", func := "cellar/cellarlaw3.ValSmall", spec := "valSmall", apart := false }
def ValSmallSaid : Prop := valSmallRow.holds Try.pinned (OpenSpec.ofChange valSmallSpec)

/-- ITS FALSE NEIGHBOUR: 'it returns false'. Refute it at one input. -/
def valSmallWrong : ChangeSpec := { name := "valSmall", fn := fun _ => fun
  | [d] => { results := [.lit (.bool false)], args := [d] }
  | _ => none }
def ValSmallWrongFalsely : Prop := valSmallRow.holds Try.pinned (OpenSpec.ofChange valSmallWrong)

/-- 'cellarlaw3.ValJoins': WHATEVER THE INPUT: true; the input reads as it did. -/
def valJoinsSpec : ChangeSpec := { name := "valJoins", fn := fun _ => fun
  | [d] => { results := [.lit (.bool true)], args := [d] }
  | _ => none }
def valJoinsRow : OpenClaim := { program := "ytplcaoidiohlmaa", sum := "dd36960a4241f307c56490f0a77153befd27d20cd2bfe741fd9b685a2db5a0c1", func := "cellar/cellarlaw3.ValJoins", spec := "valJoins", apart := false }
def ValJoinsSaid : Prop := valJoinsRow.holds Try.pinned (OpenSpec.ofChange valJoinsSpec)

/-- ITS FALSE NEIGHBOUR: 'it returns false'. Refute it at one input. -/
def valJoinsWrong : ChangeSpec := { name := "valJoins", fn := fun _ => fun
  | [d] => { results := [.lit (.bool false)], args := [d] }
  | _ => none }
def ValJoinsWrongFalsely : Prop := valJoinsRow.holds Try.pinned (OpenSpec.ofChange valJoinsWrong)

/- THE SECOND FORM. 'bulk': how many values and letters a reading holds, each counted each time it is reached (what is shared counts as often as it is met; a slice's spare places count too). A statement '..UptoSaid' is the law's where the arguments, and the package variables that the reading takes, are together of bulk at most 1048576: NARROWER than '..Said'. Prove '..Said' where nothing that the law and all that it calls make is longer than what came in: it says more and counts as full. Else prove '..UptoSaid'. A law counts once. -/
mutual
def uptoBulk {H : Type} : DataW H → Nat
  | .lit (.string bytes) => bytes.length + 1
  | .lit _ => 1
  | .nil => 1
  | .ptr d => uptoBulk d + 1
  | .slice elems spare => uptoBulkAll elems + uptoBulkAll spare + 1
  | .agg parts => uptoBulkAll parts + 1
  | .iface _ d => uptoBulk d + 1
  | .map entries => uptoBulkEntries entries + 1
  | .held _ => 1
def uptoBulkAll {H : Type} : List (DataW H) → Nat
  | [] => 0
  | d :: r => uptoBulk d + uptoBulkAll r
def uptoBulkEntries {H : Type} : List (Lit × DataW H) → Nat
  | [] => 0
  | x :: r => uptoBulkEntry x + uptoBulkEntries r
def uptoBulkEntry {H : Type} : Lit × DataW H → Nat
  | (.string bytes, d) => bytes.length + uptoBulk d + 1
  | (_, d) => uptoBulk d + 1
 end
def uptoSmall : (H : Type) → List (DataW H) → Bool := fun _ ds => decide (uptoBulkAll ds ≤ 1048576)
def OpenSpec.upto (s : _root_.Go.ChangeSpec) : _root_.Go.OpenSpec := { _root_.Go.OpenSpec.ofChange s with cond := some uptoSmall }

/-- 'cellarlaw3.ValMakes', WHERE WHAT IT READS IS OF BULK AT MOST 1048576: true; the input reads as it did. -/
def valMakesUptoRow : OpenClaim := { program := "ytplcaoidiohlmaa", sum := "dd36960a4241f307c56490f0a77153befd27d20cd2bfe741fd9b685a2db5a0c1", func := "cellar/cellarlaw3.ValMakes", spec := "valMakes", apart := false, narrowed := true }
def ValMakesUptoSaid : Prop := valMakesUptoRow.holds Try.pinned (OpenSpec.upto valMakesSpec)

/-- 'cellarlaw3.ValCorners', WHERE WHAT IT READS IS OF BULK AT MOST 1048576: true; the input reads as it did. -/
def valCornersUptoRow : OpenClaim := { program := "ytplcaoidiohlmaa", sum := "dd36960a4241f307c56490f0a77153befd27d20cd2bfe741fd9b685a2db5a0c1", func := "cellar/cellarlaw3.ValCorners", spec := "valCorners", apart := false, narrowed := true }
def ValCornersUptoSaid : Prop := valCornersUptoRow.holds Try.pinned (OpenSpec.upto valCornersSpec)

/-- 'cellarlaw3.ValTells', WHERE WHAT IT READS IS OF BULK AT MOST 1048576: true; the input reads as it did. -/
def valTellsUptoRow : OpenClaim := { program := "ytplcaoidiohlmaa", sum := "dd36960a4241f307c56490f0a77153befd27d20cd2bfe741fd9b685a2db5a0c1", func := "cellar/cellarlaw3.ValTells", spec := "valTells", apart := false, narrowed := true }
def ValTellsUptoSaid : Prop := valTellsUptoRow.holds Try.pinned (OpenSpec.upto valTellsSpec)

/-- 'cellarlaw3.ValLeads', WHERE WHAT IT READS IS OF BULK AT MOST 1048576: true; the input reads as it did. -/
def valLeadsUptoRow : OpenClaim := { program := "ytplcaoidiohlmaa", sum := "dd36960a4241f307c56490f0a77153befd27d20cd2bfe741fd9b685a2db5a0c1", func := "cellar/cellarlaw3.ValLeads", spec := "valLeads", apart := false, narrowed := true }
def ValLeadsUptoSaid : Prop := valLeadsUptoRow.holds Try.pinned (OpenSpec.upto valLeadsSpec)

/-- 'cellarlaw6.GrowSlow', WHERE WHAT IT READS IS OF BULK AT MOST 1048576: true; the input reads as it did. -/
def growSlowUptoRow : OpenClaim := { program := "ytplcaoidiohlmaa", sum := "dd36960a4241f307c56490f0a77153befd27d20cd2bfe741fd9b685a2db5a0c1", func := "cellar/cellarlaw6.GrowSlow", spec := "growSlow", unfollowed := true, recurses := true, apart := false, narrowed := true }
def GrowSlowUptoSaid : Prop := growSlowUptoRow.holds Try.pinned (OpenSpec.upto growSlowSpec)

/-- 'cellarlaw6.GrowWide', WHERE WHAT IT READS IS OF BULK AT MOST 1048576: true; the input reads as it did. -/
def growWideUptoRow : OpenClaim := { program := "ytplcaoidiohlmaa", sum := "dd36960a4241f307c56490f0a77153befd27d20cd2bfe741fd9b685a2db5a0c1", func := "cellar/cellarlaw6.GrowWide", spec := "growWide", unfollowed := true, recurses := true, apart := false, narrowed := true }
def GrowWideUptoSaid : Prop := growWideUptoRow.holds Try.pinned (OpenSpec.upto growWideSpec)

/-- 'cellarlaw6.GrowRows', WHERE WHAT IT READS IS OF BULK AT MOST 1048576: true; the input reads as it did. -/
def growRowsUptoRow : OpenClaim := { program := "ytplcaoidiohlmaa", sum := "dd36960a4241f307c56490f0a77153befd27d20cd2bfe741fd9b685a2db5a0c1", func := "cellar/cellarlaw6.GrowRows", spec := "growRows", unfollowed := true, recurses := true, apart := false, narrowed := true }
def GrowRowsUptoSaid : Prop := growRowsUptoRow.holds Try.pinned (OpenSpec.upto growRowsSpec)

/-- 'cellarlaw6.GrowBits', WHERE WHAT IT READS IS OF BULK AT MOST 1048576: true; the input reads as it did. -/
def growBitsUptoRow : OpenClaim := { program := "ytplcaoidiohlmaa", sum := "dd36960a4241f307c56490f0a77153befd27d20cd2bfe741fd9b685a2db5a0c1", func := "cellar/cellarlaw6.GrowBits", spec := "growBits", unfollowed := true, recurses := true, apart := false, narrowed := true }
def GrowBitsUptoSaid : Prop := growBitsUptoRow.holds Try.pinned (OpenSpec.upto growBitsSpec)

/-- 'cellarlaw3.ValSmall', WHERE WHAT IT READS IS OF BULK AT MOST 1048576: true; the input reads as it did. -/
def valSmallUptoRow : OpenClaim := { program := "ytplcaoidiohlmaa", sum := "dd36960a4241f307c56490f0a77153befd27d20cd2bfe741fd9b685a2db5a0c1", func := "cellar/cellarlaw3.ValSmall", spec := "valSmall", apart := false, narrowed := true }
def ValSmallUptoSaid : Prop := valSmallUptoRow.holds Try.pinned (OpenSpec.upto valSmallSpec)

/-- 'cellarlaw3.ValJoins', WHERE WHAT IT READS IS OF BULK AT MOST 1048576: true; the input reads as it did. -/
def valJoinsUptoRow : OpenClaim := { program := "ytplcaoidiohlmaa", sum := "dd36960a4241f307c56490f0a77153befd27d20cd2bfe741fd9b685a2db5a0c1", func := "cellar/cellarlaw3.ValJoins", spec := "valJoins", apart := false, narrowed := true }
def ValJoinsUptoSaid : Prop := valJoinsUptoRow.holds Try.pinned (OpenSpec.upto valJoinsSpec)

end Rows
end Go.Proofs.Ytplcaoidiohlmaa
