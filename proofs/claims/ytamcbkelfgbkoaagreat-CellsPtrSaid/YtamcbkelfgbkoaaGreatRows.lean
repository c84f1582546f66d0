/-
  No cell of these rows narrows 'for every input' (looked for: loops, veiled, ifaces, maps, wideKeys, modest, calm, conditions, laid).
  DERIVED. THE GIVEN ROWS OF THIS SEAT. 7 by the template 'for every input the law returns true; each argument reads behind the call as it read before'; 0 by the template 'total and deterministic' (their statements: YtamcbkelfgbkoaaGreatTotals.lean).
  GIVEN WITH THE SEED: the statements are not yours to turn. If you find one false, say at which input.
  Laid BY PROGRAM, IN A SANDBOX (cutbox-rows.mjs): the forced cells as the released guide's own fill.sh prints them over the translation 45fa0de33a70c8e3… (all of the seat's roots in one cut). By AI agents, Wed Nov 11 2026. No macro, syntax, notation, axiom, sorry.
-/
import Derived.Test.YtamcbkelfgbkoaaGreatChecked
import GoSem.Claim
import GoSem.ClaimJoined
import GoSem.ClaimMapViews
import Derived.JoinedTies
import Derived.KernelRfl
namespace Go.Proofs.YtamcbkelfgbkoaaGreat
/- THE CELL 'sum', in the pinned program and in every row, IS THE sha256 OF THE DUMP (.gsa) THAT YtamcbkelfgbkoaaGreatProg.lean LOADS. Nothing in Lean hashes anything: it is a label: what it is worth is what the hold of that sum in a sandbox is worth. -/
noncomputable def Tryz.pinned : Pinned := { name := "ytamcbkelfgbkoaagreat", sum := "45fa0de33a70c8e3fb2d27d61040981cf5d82988fc23ca9a46ae01ecbe3b9900", checked := Tryz.checked }
namespace Rows
def none {H : Type} : Left H := { results := [], args := [] }

/-- 'cellarlaw16.CellsU8': WHATEVER THE INPUT: true; the input reads as it did. -/
def cellsU8Spec : ChangeSpec := { name := "cellsU8", fn := fun _ => fun
  | [d] => { results := [.lit (.bool true)], args := [d] }
  | _ => none }
def cellsU8Row : OpenClaim := { program := "ytamcbkelfgbkoaagreat", sum := "45fa0de33a70c8e3fb2d27d61040981cf5d82988fc23ca9a46ae01ecbe3b9900", func := "cellar/cellarlaw16.CellsU8", spec := "cellsU8", unfollowed := true, recurses := true, apart := false }
def CellsU8Said : Prop := cellsU8Row.holds Tryz.pinned (OpenSpec.ofChange cellsU8Spec)

/-- ITS FALSE NEIGHBOUR: 'it returns false'. Refute it at one input. -/
def cellsU8Wrong : ChangeSpec := { name := "cellsU8", fn := fun _ => fun
  | [d] => { results := [.lit (.bool false)], args := [d] }
  | _ => none }
def CellsU8WrongFalsely : Prop := cellsU8Row.holds Tryz.pinned (OpenSpec.ofChange cellsU8Wrong)

/-- 'cellarlaw16.CellsI8': WHATEVER THE INPUT: true; the input reads as it did. -/
def cellsI8Spec : ChangeSpec := { name := "cellsI8", fn := fun _ => fun
  | [d] => { results := [.lit (.bool true)], args := [d] }
  | _ => none }
def cellsI8Row : OpenClaim := { program := "ytamcbkelfgbkoaagreat", sum := "45fa0de33a70c8e3fb2d27d61040981cf5d82988fc23ca9a46ae01ecbe3b9900", func := "cellar/cellarlaw16.CellsI8", spec := "cellsI8", unfollowed := true, recurses := true, apart := false }
def CellsI8Said : Prop := cellsI8Row.holds Tryz.pinned (OpenSpec.ofChange cellsI8Spec)

/-- ITS FALSE NEIGHBOUR: 'it returns false'. Refute it at one input. -/
def cellsI8Wrong : ChangeSpec := { name := "cellsI8", fn := fun _ => fun
  | [d] => { results := [.lit (.bool false)], args := [d] }
  | _ => none }
def CellsI8WrongFalsely : Prop := cellsI8Row.holds Tryz.pinned (OpenSpec.ofChange cellsI8Wrong)

/-- 'cellarlaw16.CellsU16': WHATEVER THE INPUT: true; the input reads as it did. -/
def cellsU16Spec : ChangeSpec := { name := "cellsU16", fn := fun _ => fun
  | [d] => { results := [.lit (.bool true)], args := [d] }
  | _ => none }
def cellsU16Row : OpenClaim := { program := "ytamcbkelfgbkoaagreat", sum := "45fa0de33a70c8e3fb2d27d61040981cf5d82988fc23ca9a46ae01ecbe3b9900", func := "cellar/cellarlaw16.CellsU16", spec := "cellsU16", unfollowed := true, recurses := true, apart := false }
def CellsU16Said : Prop := cellsU16Row.holds Tryz.pinned (OpenSpec.ofChange cellsU16Spec)

/-- ITS FALSE NEIGHBOUR: 'it returns false'. Refute it at one input. -/
def cellsU16Wrong : ChangeSpec := { name := "cellsU16", fn := fun _ => fun
  | [d] => { results := [.lit (.bool false)], args := [d] }
  | _ => none }
def CellsU16WrongFalsely : Prop := cellsU16Row.holds Tryz.pinned (OpenSpec.ofChange cellsU16Wrong)

/-- 'cellarlaw16.CellsI16': WHATEVER THE INPUT: true; the input reads as it did. -/
def cellsI16Spec : ChangeSpec := { name := "cellsI16", fn := fun _ => fun
  | [d] => { results := [.lit (.bool true)], args := [d] }
  | _ => none }
def cellsI16Row : OpenClaim := { program := "ytamcbkelfgbkoaagreat", sum := "45fa0de33a70c8e3fb2d27d61040981cf5d82988fc23ca9a46ae01ecbe3b9900", func := "cellar/cellarlaw16.CellsI16", spec := "cellsI16", unfollowed := true, recurses := true, apart := false }
def CellsI16Said : Prop := cellsI16Row.holds Tryz.pinned (OpenSpec.ofChange cellsI16Spec)

/-- ITS FALSE NEIGHBOUR: 'it returns false'. Refute it at one input. -/
def cellsI16Wrong : ChangeSpec := { name := "cellsI16", fn := fun _ => fun
  | [d] => { results := [.lit (.bool false)], args := [d] }
  | _ => none }
def CellsI16WrongFalsely : Prop := cellsI16Row.holds Tryz.pinned (OpenSpec.ofChange cellsI16Wrong)

/-- 'cellarlaw16.CellsU32': WHATEVER THE INPUT: true; the input reads as it did. -/
def cellsU32Spec : ChangeSpec := { name := "cellsU32", fn := fun _ => fun
  | [d] => { results := [.lit (.bool true)], args := [d] }
  | _ => none }
def cellsU32Row : OpenClaim := { program := "ytamcbkelfgbkoaagreat", sum := "45fa0de33a70c8e3fb2d27d61040981cf5d82988fc23ca9a46ae01ecbe3b9900", func := "cellar/cellarlaw16.CellsU32", spec := "cellsU32", unfollowed := true, recurses := true, apart := false }
def CellsU32Said : Prop := cellsU32Row.holds Tryz.pinned (OpenSpec.ofChange cellsU32Spec)

/-- ITS FALSE NEIGHBOUR: 'it returns false'. Refute it at one input. -/
def cellsU32Wrong : ChangeSpec := { name := "cellsU32", fn := fun _ => fun
  | [d] => { results := [.lit (.bool false)], args := [d] }
  | _ => none }
def CellsU32WrongFalsely : Prop := cellsU32Row.holds Tryz.pinned (OpenSpec.ofChange cellsU32Wrong)

/-- 'cellarlaw16.CellsI32': WHATEVER THE INPUT: true; the input reads as it did. -/
def cellsI32Spec : ChangeSpec := { name := "cellsI32", fn := fun _ => fun
  | [d] => { results := [.lit (.bool true)], args := [d] }
  | _ => none }
def cellsI32Row : OpenClaim := { program := "ytamcbkelfgbkoaagreat", sum := "45fa0de33a70c8e3fb2d27d61040981cf5d82988fc23ca9a46ae01ecbe3b9900", func := "cellar/cellarlaw16.CellsI32", spec := "cellsI32", unfollowed := true, recurses := true, apart := false }
def CellsI32Said : Prop := cellsI32Row.holds Tryz.pinned (OpenSpec.ofChange cellsI32Spec)

/-- ITS FALSE NEIGHBOUR: 'it returns false'. Refute it at one input. -/
def cellsI32Wrong : ChangeSpec := { name := "cellsI32", fn := fun _ => fun
  | [d] => { results := [.lit (.bool false)], args := [d] }
  | _ => none }
def CellsI32WrongFalsely : Prop := cellsI32Row.holds Tryz.pinned (OpenSpec.ofChange cellsI32Wrong)

/-- 'cellarlaw16.CellsPtr': WHATEVER THE INPUT: true; the input reads as it did. -/
def cellsPtrSpec : ChangeSpec := { name := "cellsPtr", fn := fun _ => fun
  | [d] => { results := [.lit (.bool true)], args := [d] }
  | _ => none }
def cellsPtrRow : OpenClaim := { program := "ytamcbkelfgbkoaagreat", sum := "45fa0de33a70c8e3fb2d27d61040981cf5d82988fc23ca9a46ae01ecbe3b9900", func := "cellar/cellarlaw16.CellsPtr", spec := "cellsPtr", unfollowed := true, recurses := true, apart := false }
def CellsPtrSaid : Prop := cellsPtrRow.holds Tryz.pinned (OpenSpec.ofChange cellsPtrSpec)

/-- ITS FALSE NEIGHBOUR: 'it returns false'. Refute it at one input. -/
def cellsPtrWrong : ChangeSpec := { name := "cellsPtr", fn := fun _ => fun
  | [d] => { results := [.lit (.bool false)], args := [d] }
  | _ => none }
def CellsPtrWrongFalsely : Prop := cellsPtrRow.holds Tryz.pinned (OpenSpec.ofChange cellsPtrWrong)

/- THE SECOND FORM. 'bulk': how many values and letters a reading holds, each counted each time it is reached (what is shared counts as often as it is met; a slice's spare places count too). A statement '..UptoSaid' is the law's where the arguments, and the package variables that the reading takes, are together of bulk at most 1048576: NARROWER than '..Said'. Prove '..Said' where nothing that the law and all that it calls make is longer than what came in: it says more and counts as full. Else prove '..UptoSaid'. A law counts once. -/
mutual
def uptoBulk {H : Type} : DataW H → Nat
  | .lit (.string bytes) => bytes.length + 1
  | .lit _ => 1
  | .nil => 1
  | .ptr d => uptoBulk d + 1
  | .slice elems spare => uptoBulkAll elems + uptoBulkAll spare + 1
  | .agg parts => uptoBulkAll parts + 1
  | .iface _ d => uptoBulk d + 1
  | .map entries => uptoBulkEntries entries + 1
  | .held _ => 1
def uptoBulkAll {H : Type} : List (DataW H) → Nat
  | [] => 0
  | d :: r => uptoBulk d + uptoBulkAll r
def uptoBulkEntries {H : Type} : List (Lit × DataW H) → Nat
  | [] => 0
  | x :: r => uptoBulkEntry x + uptoBulkEntries r
def uptoBulkEntry {H : Type} : Lit × DataW H → Nat
  | (.string bytes, d) => bytes.length + uptoBulk d + 1
  | (_, d) => uptoBulk d + 1
 end
def uptoSmall : (H : Type) → List (DataW H) → Bool := fun _ ds => decide (uptoBulkAll ds ≤ 1048576)
def OpenSpec.upto (s : _root_.Go.ChangeSpec) : _root_.Go.OpenSpec := { _root_.Go.OpenSpec.ofChange s with cond := some uptoSmall }

/-- 'cellarlaw16.CellsU8', WHERE WHAT IT READS IS OF BULK AT MOST 1048576: true; the input reads as it did. -/
def cellsU8UptoRow : OpenClaim := { program := "ytamcbkelfgbkoaagreat", sum := "45fa0de33a70c8e3fb2d27d61040981cf5d82988fc23ca9a46ae01ecbe3b9900", func := "cellar/cellarlaw16.CellsU8", spec := "cellsU8", unfollowed := true, recurses := true, apart := false, narrowed := true }
def CellsU8UptoSaid : Prop := cellsU8UptoRow.holds Tryz.pinned (OpenSpec.upto cellsU8Spec)

/-- 'cellarlaw16.CellsI8', WHERE WHAT IT READS IS OF BULK AT MOST 1048576: true; the input reads as it did. -/
def cellsI8UptoRow : OpenClaim := { program := "ytamcbkelfgbkoaagreat", sum := "45fa0de33a70c8e3fb2d27d61040981cf5d82988fc23ca9a46ae01ecbe3b9900", func := "cellar/cellarlaw16.CellsI8", spec := "cellsI8", unfollowed := true, recurses := true, apart := false, narrowed := true }
def CellsI8UptoSaid : Prop := cellsI8UptoRow.holds Tryz.pinned (OpenSpec.upto cellsI8Spec)

/-- 'cellarlaw16.CellsU16', WHERE WHAT IT READS IS OF BULK AT MOST 1048576: true; the input reads as it did. -/
def cellsU16UptoRow : OpenClaim := { program := "ytamcbkelfgbkoaagreat", sum := "45fa0de33a70c8e3fb2d27d61040981cf5d82988fc23ca9a46ae01ecbe3b9900", func := "cellar/cellarlaw16.CellsU16", spec := "cellsU16", unfollowed := true, recurses := true, apart := false, narrowed := true }
def CellsU16UptoSaid : Prop := cellsU16UptoRow.holds Tryz.pinned (OpenSpec.upto cellsU16Spec)

/-- 'cellarlaw16.CellsI16', WHERE WHAT IT READS IS OF BULK AT MOST 1048576: true; the input reads as it did. -/
def cellsI16UptoRow : OpenClaim := { program := "ytamcbkelfgbkoaagreat", sum := "45fa0de33a70c8e3fb2d27d61040981cf5d82988fc23ca9a46ae01ecbe3b9900", func := "cellar/cellarlaw16.CellsI16", spec := "cellsI16", unfollowed := true, recurses := true, apart := false, narrowed := true }
def CellsI16UptoSaid : Prop := cellsI16UptoRow.holds Tryz.pinned (OpenSpec.upto cellsI16Spec)

/-- 'cellarlaw16.CellsU32', WHERE WHAT IT READS IS OF BULK AT MOST 1048576: true; the input reads as it did. -/
def cellsU32UptoRow : OpenClaim := { program := "ytamcbkelfgbkoaagreat", sum := "45fa0de33a70c8e3fb2d27d61040981cf5d82988fc23ca9a46ae01ecbe3b9900", func := "cellar/cellarlaw16.CellsU32", spec := "cellsU32", unfollowed := true, recurses := true, apart := false, narrowed := true }
def CellsU32UptoSaid : Prop := cellsU32UptoRow.holds Tryz.pinned (OpenSpec.upto cellsU32Spec)

/-- 'cellarlaw16.CellsI32', WHERE WHAT IT READS IS OF BULK AT MOST 1048576: true; the input reads as it did. -/
def cellsI32UptoRow : OpenClaim := { program := "ytamcbkelfgbkoaagreat", sum := "45fa0de33a70c8e3fb2d27d61040981cf5d82988fc23ca9a46ae01ecbe3b9900", func := "cellar/cellarlaw16.CellsI32", spec := "cellsI32", unfollowed := true, recurses := true, apart := false, narrowed := true }
def CellsI32UptoSaid : Prop := cellsI32UptoRow.holds Tryz.pinned (OpenSpec.upto cellsI32Spec)

/-- 'cellarlaw16.CellsPtr', WHERE WHAT IT READS IS OF BULK AT MOST 1048576: true; the input reads as it did. -/
def cellsPtrUptoRow : OpenClaim := { program := "ytamcbkelfgbkoaagreat", sum := "45fa0de33a70c8e3fb2d27d61040981cf5d82988fc23ca9a46ae01ecbe3b9900", func := "cellar/cellarlaw16.CellsPtr", spec := "cellsPtr", unfollowed := true, recurses := true, apart := false, narrowed := true }
def CellsPtrUptoSaid : Prop := cellsPtrUptoRow.holds Tryz.pinned (OpenSpec.upto cellsPtrSpec)

end Rows
end Go.Proofs.YtamcbkelfgbkoaaGreat
