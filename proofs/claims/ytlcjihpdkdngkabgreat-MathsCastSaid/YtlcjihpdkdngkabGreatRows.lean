/-
  No cell of these rows narrows 'for every input' (looked for: loops, veiled, ifaces, maps, wideKeys, modest, calm, conditions, laid).
  DERIVED. THE GIVEN ROWS OF THIS SEAT. 5 by the template 'for every input the law returns true; each argument reads behind the call as it read before'; 0 by the template 'total and deterministic' (their statements: YtlcjihpdkdngkabGreatTotals.lean).
  GIVEN WITH THE SEED: the statements are not yours to turn. If you find one false, say at which input.
  Laid BY PROGRAM, IN A SANDBOX (cutbox-rows.mjs): the forced cells as the released guide's own fill.sh prints them over the translation 79d4a76c9daa68bb… (all of the seat's roots in one cut). By AI agents, Wed Nov 11 2026. No macro, syntax, notation, axiom, sorry.
-/
import Derived.Test.YtlcjihpdkdngkabGreatChecked
import GoSem.Claim
import GoSem.ClaimJoined
import GoSem.ClaimMapViews
import Derived.JoinedTies
import Derived.KernelRfl
namespace Go.Proofs.YtlcjihpdkdngkabGreat
/- THE CELL 'sum', in the pinned program and in every row, IS THE sha256 OF THE DUMP (.gsa) THAT YtlcjihpdkdngkabGreatProg.lean LOADS. Nothing in Lean hashes anything: it is a label: what it is worth is what the hold of that sum in a sandbox is worth. -/
noncomputable def Tryz.pinned : Pinned := { name := "ytlcjihpdkdngkabgreat", sum := "79d4a76c9daa68bb9d5b74442f817f2f81db8d4f02422301b59bebedacc6555e", checked := Tryz.checked }
namespace Rows
def none {H : Type} : Left H := { results := [], args := [] }

/-- 'cellarlaw4.MathsOdd': WHATEVER THE INPUT: true; the input reads as it did. -/
def mathsOddSpec : ChangeSpec := { name := "mathsOdd", fn := fun _ => fun
  | [d] => { results := [.lit (.bool true)], args := [d] }
  | _ => none }
def mathsOddRow : OpenClaim := { program := "ytlcjihpdkdngkabgreat", sum := "79d4a76c9daa68bb9d5b74442f817f2f81db8d4f02422301b59bebedacc6555e", func := "cellar/cellarlaw4.MathsOdd", spec := "mathsOdd", unfollowed := true, recurses := true, apart := false }
def MathsOddSaid : Prop := mathsOddRow.holds Tryz.pinned (OpenSpec.ofChange mathsOddSpec)

/-- ITS FALSE NEIGHBOUR: 'it returns false'. Refute it at one input. -/
def mathsOddWrong : ChangeSpec := { name := "mathsOdd", fn := fun _ => fun
  | [d] => { results := [.lit (.bool false)], args := [d] }
  | _ => none }
def MathsOddWrongFalsely : Prop := mathsOddRow.holds Tryz.pinned (OpenSpec.ofChange mathsOddWrong)

/-- 'cellarlaw4.MathsNeg': WHATEVER THE INPUT: true; the input reads as it did. -/
def mathsNegSpec : ChangeSpec := { name := "mathsNeg", fn := fun _ => fun
  | [d] => { results := [.lit (.bool true)], args := [d] }
  | _ => none }
def mathsNegRow : OpenClaim := { program := "ytlcjihpdkdngkabgreat", sum := "79d4a76c9daa68bb9d5b74442f817f2f81db8d4f02422301b59bebedacc6555e", func := "cellar/cellarlaw4.MathsNeg", spec := "mathsNeg", unfollowed := true, recurses := true, apart := false }
def MathsNegSaid : Prop := mathsNegRow.holds Tryz.pinned (OpenSpec.ofChange mathsNegSpec)

/-- ITS FALSE NEIGHBOUR: 'it returns false'. Refute it at one input. -/
def mathsNegWrong : ChangeSpec := { name := "mathsNeg", fn := fun _ => fun
  | [d] => { results := [.lit (.bool false)], args := [d] }
  | _ => none }
def MathsNegWrongFalsely : Prop := mathsNegRow.holds Tryz.pinned (OpenSpec.ofChange mathsNegWrong)

/-- 'cellarlaw4.MathsNot': WHATEVER THE INPUT: true; the input reads as it did. -/
def mathsNotSpec : ChangeSpec := { name := "mathsNot", fn := fun _ => fun
  | [d] => { results := [.lit (.bool true)], args := [d] }
  | _ => none }
def mathsNotRow : OpenClaim := { program := "ytlcjihpdkdngkabgreat", sum := "79d4a76c9daa68bb9d5b74442f817f2f81db8d4f02422301b59bebedacc6555e", func := "cellar/cellarlaw4.MathsNot", spec := "mathsNot", unfollowed := true, recurses := true, apart := false }
def MathsNotSaid : Prop := mathsNotRow.holds Tryz.pinned (OpenSpec.ofChange mathsNotSpec)

/-- ITS FALSE NEIGHBOUR: 'it returns false'. Refute it at one input. -/
def mathsNotWrong : ChangeSpec := { name := "mathsNot", fn := fun _ => fun
  | [d] => { results := [.lit (.bool false)], args := [d] }
  | _ => none }
def MathsNotWrongFalsely : Prop := mathsNotRow.holds Tryz.pinned (OpenSpec.ofChange mathsNotWrong)

/-- 'cellarlaw4.MathsZero': WHATEVER THE INPUT: true; the input reads as it did. -/
def mathsZeroSpec : ChangeSpec := { name := "mathsZero", fn := fun _ => fun
  | [d] => { results := [.lit (.bool true)], args := [d] }
  | _ => none }
def mathsZeroRow : OpenClaim := { program := "ytlcjihpdkdngkabgreat", sum := "79d4a76c9daa68bb9d5b74442f817f2f81db8d4f02422301b59bebedacc6555e", func := "cellar/cellarlaw4.MathsZero", spec := "mathsZero", unfollowed := true, recurses := true, apart := false }
def MathsZeroSaid : Prop := mathsZeroRow.holds Tryz.pinned (OpenSpec.ofChange mathsZeroSpec)

/-- ITS FALSE NEIGHBOUR: 'it returns false'. Refute it at one input. -/
def mathsZeroWrong : ChangeSpec := { name := "mathsZero", fn := fun _ => fun
  | [d] => { results := [.lit (.bool false)], args := [d] }
  | _ => none }
def MathsZeroWrongFalsely : Prop := mathsZeroRow.holds Tryz.pinned (OpenSpec.ofChange mathsZeroWrong)

/-- 'cellarlaw4.MathsCast': WHATEVER THE INPUT: true; the input reads as it did. -/
def mathsCastSpec : ChangeSpec := { name := "mathsCast", fn := fun _ => fun
  | [d] => { results := [.lit (.bool true)], args := [d] }
  | _ => none }
def mathsCastRow : OpenClaim := { program := "ytlcjihpdkdngkabgreat", sum := "79d4a76c9daa68bb9d5b74442f817f2f81db8d4f02422301b59bebedacc6555e", func := "cellar/cellarlaw4.MathsCast", spec := "mathsCast", unfollowed := true, recurses := true, apart := false }
def MathsCastSaid : Prop := mathsCastRow.holds Tryz.pinned (OpenSpec.ofChange mathsCastSpec)

/-- ITS FALSE NEIGHBOUR: 'it returns false'. Refute it at one input. -/
def mathsCastWrong : ChangeSpec := { name := "mathsCast", fn := fun _ => fun
  | [d] => { results := [.lit (.bool false)], args := [d] }
  | _ => none }
def MathsCastWrongFalsely : Prop := mathsCastRow.holds Tryz.pinned (OpenSpec.ofChange mathsCastWrong)

/- THE SECOND FORM. 'bulk': how many values and letters a reading holds, each counted each time it is reached (what is shared counts as often as it is met; a slice's spare places count too). A statement '..UptoSaid' is the law's where the arguments, and the package variables that the reading takes, are together of bulk at most 1048576: NARROWER than '..Said'. Prove '..Said' where nothing that the law and all that it calls make is longer than what came in: it says more and counts as full. Else prove '..UptoSaid'. A law counts once. -/
mutual
def uptoBulk {H : Type} : DataW H → Nat
  | .lit (.string bytes) => bytes.length + 1
  | .lit _ => 1
  | .nil => 1
  | .ptr d => uptoBulk d + 1
  | .slice elems spare => uptoBulkAll elems + uptoBulkAll spare + 1
  | .agg parts => uptoBulkAll parts + 1
  | .iface _ d => uptoBulk d + 1
  | .map entries => uptoBulkEntries entries + 1
  | .held _ => 1
def uptoBulkAll {H : Type} : List (DataW H) → Nat
  | [] => 0
  | d :: r => uptoBulk d + uptoBulkAll r
def uptoBulkEntries {H : Type} : List (Lit × DataW H) → Nat
  | [] => 0
  | x :: r => uptoBulkEntry x + uptoBulkEntries r
def uptoBulkEntry {H : Type} : Lit × DataW H → Nat
  | (.string bytes, d) => bytes.length + uptoBulk d + 1
  | (_, d) => uptoBulk d + 1
 end
def uptoSmall : (H : Type) → List (DataW H) → Bool := fun _ ds => decide (uptoBulkAll ds ≤ 1048576)
def OpenSpec.upto (s : _root_.Go.ChangeSpec) : _root_.Go.OpenSpec := { _root_.Go.OpenSpec.ofChange s with cond := some uptoSmall }

/-- 'cellarlaw4.MathsOdd', WHERE WHAT IT READS IS OF BULK AT MOST 1048576: true; the input reads as it did. -/
def mathsOddUptoRow : OpenClaim := { program := "ytlcjihpdkdngkabgreat", sum := "79d4a76c9daa68bb9d5b74442f817f2f81db8d4f02422301b59bebedacc6555e", func := "cellar/cellarlaw4.MathsOdd", spec := "mathsOdd", unfollowed := true, recurses := true, apart := false, narrowed := true }
def MathsOddUptoSaid : Prop := mathsOddUptoRow.holds Tryz.pinned (OpenSpec.upto mathsOddSpec)

/-- 'cellarlaw4.MathsNeg', WHERE WHAT IT READS IS OF BULK AT MOST 1048576: true; the input reads as it did. -/
def mathsNegUptoRow : OpenClaim := { program := "ytlcjihpdkdngkabgreat", sum := "79d4a76c9daa68bb9d5b74442f817f2f81db8d4f02422301b59bebedacc6555e", func := "cellar/cellarlaw4.MathsNeg", spec := "mathsNeg", unfollowed := true, recurses := true, apart := false, narrowed := true }
def MathsNegUptoSaid : Prop := mathsNegUptoRow.holds Tryz.pinned (OpenSpec.upto mathsNegSpec)

/-- 'cellarlaw4.MathsNot', WHERE WHAT IT READS IS OF BULK AT MOST 1048576: true; the input reads as it did. -/
def mathsNotUptoRow : OpenClaim := { program := "ytlcjihpdkdngkabgreat", sum := "79d4a76c9daa68bb9d5b74442f817f2f81db8d4f02422301b59bebedacc6555e", func := "cellar/cellarlaw4.MathsNot", spec := "mathsNot", unfollowed := true, recurses := true, apart := false, narrowed := true }
def MathsNotUptoSaid : Prop := mathsNotUptoRow.holds Tryz.pinned (OpenSpec.upto mathsNotSpec)

/-- 'cellarlaw4.MathsZero', WHERE WHAT IT READS IS OF BULK AT MOST 1048576: true; the input reads as it did. -/
def mathsZeroUptoRow : OpenClaim := { program := "ytlcjihpdkdngkabgreat", sum := "79d4a76c9daa68bb9d5b74442f817f2f81db8d4f02422301b59bebedacc6555e", func := "cellar/cellarlaw4.MathsZero", spec := "mathsZero", unfollowed := true, recurses := true, apart := false, narrowed := true }
def MathsZeroUptoSaid : Prop := mathsZeroUptoRow.holds Tryz.pinned (OpenSpec.upto mathsZeroSpec)

/-- 'cellarlaw4.MathsCast', WHERE WHAT IT READS IS OF BULK AT MOST 1048576: true; the input reads as it did. -/
def mathsCastUptoRow : OpenClaim := { program := "ytlcjihpdkdngkabgreat", sum := "79d4a76c9daa68bb9d5b74442f817f2f81db8d4f02422301b59bebedacc6555e", func := "cellar/cellarlaw4.MathsCast", spec := "mathsCast", unfollowed := true, recurses := true, apart := false, narrowed := true }
def MathsCastUptoSaid : Prop := mathsCastUptoRow.holds Tryz.pinned (OpenSpec.upto mathsCastSpec)

end Rows
end Go.Proofs.YtlcjihpdkdngkabGreat
