/-
  No cell of these rows narrows 'for every input' (looked for: loops, veiled, ifaces, maps, wideKeys, modest, calm, conditions, laid).
  DERIVED. THE GIVEN ROWS OF THIS SEAT. 2 by the template 'for every input the law returns true; each argument reads behind the call as it read before'; 0 by the template 'total and deterministic' (their statements: YtjmgdglhhiccoaaGreatTotals.lean).
  GIVEN WITH THE SEED: the statements are not yours to turn. If you find one false, say at which input.
  Laid BY PROGRAM, IN A SANDBOX (cutbox-rows.mjs): the forced cells as the released guide's own fill.sh prints them over the translation 9d929e86e77301db… (all of the seat's roots in one cut). By AI agents, Wed Nov 11 2026. No macro, syntax, notation, axiom, sorry.
-/
import Derived.Test.YtjmgdglhhiccoaaGreatChecked
import GoSem.Claim
import GoSem.ClaimJoined
import GoSem.ClaimMapViews
import Derived.JoinedTies
import Derived.KernelRfl
namespace Go.Proofs.YtjmgdglhhiccoaaGreat
/- THE CELL 'sum', in the pinned program and in every row, IS THE sha256 OF THE DUMP (.gsa) THAT YtjmgdglhhiccoaaGreatProg.lean LOADS. Nothing in Lean hashes anything: it is a label: what it is worth is what the hold of that sum in a sandbox is worth. -/
noncomputable def Tryz.pinned : Pinned := { name := "ytjmgdglhhiccoaagreat", sum := "9d929e86e77301dbe234fd2f80bea8117a4630d312084d20fb7321177b7b302a", checked := Tryz.checked }
namespace Rows
def none {H : Type} : Left H := { results := [], args := [] }

/-- 'cellarlaw16.CellsOf': WHATEVER THE INPUT: true; the input reads as it did. -/
def cellsOfSpec : ChangeSpec := { name := "cellsOf", fn := fun _ => fun
  | [d] => { results := [.lit (.bool true)], args := [d] }
  | _ => none }
def cellsOfRow : OpenClaim := { program := "ytjmgdglhhiccoaagreat", sum := "9d929e86e77301dbe234fd2f80bea8117a4630d312084d20fb7321177b7b302a", func := "cellar/cellarlaw16.CellsOf", spec := "cellsOf", unfollowed := true, recurses := true, apart := false }
def CellsOfSaid : Prop := cellsOfRow.holds Tryz.pinned (OpenSpec.ofChange cellsOfSpec)

/-- ITS FALSE NEIGHBOUR: 'it returns false'. Refute it at one input. -/
def cellsOfWrong : ChangeSpec := { name := "cellsOf", fn := fun _ => fun
  | [d] => { results := [.lit (.bool false)], args := [d] }
  | _ => none }
def CellsOfWrongFalsely : Prop := cellsOfRow.holds Tryz.pinned (OpenSpec.ofChange cellsOfWrong)

/-- 'cellarlaw16.CellsTells': WHATEVER THE INPUT: true; the input reads as it did. -/
def cellsTellsSpec : ChangeSpec := { name := "cellsTells", fn := fun _ => fun
  | [d] => { results := [.lit (.bool true)], args := [d] }
  | _ => none }
def cellsTellsRow : OpenClaim := { program := "ytjmgdglhhiccoaagreat", sum := "9d929e86e77301dbe234fd2f80bea8117a4630d312084d20fb7321177b7b302a", func := "cellar/cellarlaw16.CellsTells", spec := "cellsTells", unfollowed := true, recurses := true, apart := false }
def CellsTellsSaid : Prop := cellsTellsRow.holds Tryz.pinned (OpenSpec.ofChange cellsTellsSpec)

/-- ITS FALSE NEIGHBOUR: 'it returns false'. Refute it at one input. -/
def cellsTellsWrong : ChangeSpec := { name := "cellsTells", fn := fun _ => fun
  | [d] => { results := [.lit (.bool false)], args := [d] }
  | _ => none }
def CellsTellsWrongFalsely : Prop := cellsTellsRow.holds Tryz.pinned (OpenSpec.ofChange cellsTellsWrong)

/- THE SECOND FORM. 'bulk': how many values and letters a reading holds, each counted each time it is reached (what is shared counts as often as it is met; a slice's spare places count too). A statement '..UptoSaid' is the law's where the arguments, and the package variables that the reading takes, are together of bulk at most 1048576: NARROWER than '..Said'. Prove '..Said' where nothing that the law and all that it calls make is longer than what came in: it says more and counts as full. Else prove '..UptoSaid'. A law counts once. -/
mutual
def uptoBulk {H : Type} : DataW H → Nat
  | .lit (.string bytes) => bytes.length + 1
  | .lit _ => 1
  | .nil => 1
  | .ptr d => uptoBulk d + 1
  | .slice elems spare => uptoBulkAll elems + uptoBulkAll spare + 1
  | .agg parts => uptoBulkAll parts + 1
  | .iface _ d => uptoBulk d + 1
  | .map entries => uptoBulkEntries entries + 1
  | .held _ => 1
def uptoBulkAll {H : Type} : List (DataW H) → Nat
  | [] => 0
  | d :: r => uptoBulk d + uptoBulkAll r
def uptoBulkEntries {H : Type} : List (Lit × DataW H) → Nat
  | [] => 0
  | x :: r => uptoBulkEntry x + uptoBulkEntries r
def uptoBulkEntry {H : Type} : Lit × DataW H → Nat
  | (.string bytes, d) => bytes.length + uptoBulk d + 1
  | (_, d) => uptoBulk d + 1
 end
def uptoSmall : (H : Type) → List (DataW H) → Bool := fun _ ds => decide (uptoBulkAll ds ≤ 1048576)
def OpenSpec.upto (s : _root_.Go.ChangeSpec) : _root_.Go.OpenSpec := { _root_.Go.OpenSpec.ofChange s with cond := some uptoSmall }

/-- 'cellarlaw16.CellsOf', WHERE WHAT IT READS IS OF BULK AT MOST 1048576: true; the input reads as it did. -/
def cellsOfUptoRow : OpenClaim := { program := "ytjmgdglhhiccoaagreat", sum := "9d929e86e77301dbe234fd2f80bea8117a4630d312084d20fb7321177b7b302a", func := "cellar/cellarlaw16.CellsOf", spec := "cellsOf", unfollowed := true, recurses := true, apart := false, narrowed := true }
def CellsOfUptoSaid : Prop := cellsOfUptoRow.holds Tryz.pinned (OpenSpec.upto cellsOfSpec)

/-- 'cellarlaw16.CellsTells', WHERE WHAT IT READS IS OF BULK AT MOST 1048576: true; the input reads as it did. -/
def cellsTellsUptoRow : OpenClaim := { program := "ytjmgdglhhiccoaagreat", sum := "9d929e86e77301dbe234fd2f80bea8117a4630d312084d20fb7321177b7b302a", func := "cellar/cellarlaw16.CellsTells", spec := "cellsTells", unfollowed := true, recurses := true, apart := false, narrowed := true }
def CellsTellsUptoSaid : Prop := cellsTellsUptoRow.holds Tryz.pinned (OpenSpec.upto cellsTellsSpec)

end Rows
end Go.Proofs.YtjmgdglhhiccoaaGreat
