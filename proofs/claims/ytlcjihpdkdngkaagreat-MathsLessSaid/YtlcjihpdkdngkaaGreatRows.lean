/-
  No cell of these rows narrows 'for every input' (looked for: loops, veiled, ifaces, maps, wideKeys, modest, calm, conditions, laid).
  DERIVED. THE GIVEN ROWS OF THIS SEAT. 12 by the template 'for every input the law returns true; each argument reads behind the call as it read before'; 0 by the template 'total and deterministic' (their statements: YtlcjihpdkdngkaaGreatTotals.lean).
  GIVEN WITH THE SEED: the statements are not yours to turn. If you find one false, say at which input.
  Laid BY PROGRAM, IN A SANDBOX (cutbox-rows.mjs): the forced cells as the released guide's own fill.sh prints them over the translation 9ecabdd66734e148… (all of the seat's roots in one cut). By AI agents, Wed Nov 11 2026. No macro, syntax, notation, axiom, sorry.
-/
import Derived.Test.YtlcjihpdkdngkaaGreatChecked
import GoSem.Claim
import GoSem.ClaimJoined
import GoSem.ClaimMapViews
import Derived.JoinedTies
import Derived.KernelRfl
namespace Go.Proofs.YtlcjihpdkdngkaaGreat
/- THE CELL 'sum', in the pinned program and in every row, IS THE sha256 OF THE DUMP (.gsa) THAT YtlcjihpdkdngkaaGreatProg.lean LOADS. Nothing in Lean hashes anything: it is a label: what it is worth is what the hold of that sum in a sandbox is worth. -/
noncomputable def Tryz.pinned : Pinned := { name := "ytlcjihpdkdngkaagreat", sum := "9ecabdd66734e14870e89b8869dd14d87175ebeca3bf4ecdd2674c500cb84907", checked := Tryz.checked }
namespace Rows
def none {H : Type} : Left H := { results := [], args := [] }

/-- 'cellarlaw4.MathsAdd': WHATEVER THE INPUT: true; the input reads as it did. -/
def mathsAddSpec : ChangeSpec := { name := "mathsAdd", fn := fun _ => fun
  | [d] => { results := [.lit (.bool true)], args := [d] }
  | _ => none }
def mathsAddRow : OpenClaim := { program := "ytlcjihpdkdngkaagreat", sum := "9ecabdd66734e14870e89b8869dd14d87175ebeca3bf4ecdd2674c500cb84907", func := "cellar/cellarlaw4.MathsAdd", spec := "mathsAdd", unfollowed := true, recurses := true, apart := false }
def MathsAddSaid : Prop := mathsAddRow.holds Tryz.pinned (OpenSpec.ofChange mathsAddSpec)

/-- ITS FALSE NEIGHBOUR: 'it returns false'. Refute it at one input. -/
def mathsAddWrong : ChangeSpec := { name := "mathsAdd", fn := fun _ => fun
  | [d] => { results := [.lit (.bool false)], args := [d] }
  | _ => none }
def MathsAddWrongFalsely : Prop := mathsAddRow.holds Tryz.pinned (OpenSpec.ofChange mathsAddWrong)

/-- 'cellarlaw4.MathsSub': WHATEVER THE INPUT: true; the input reads as it did. -/
def mathsSubSpec : ChangeSpec := { name := "mathsSub", fn := fun _ => fun
  | [d] => { results := [.lit (.bool true)], args := [d] }
  | _ => none }
def mathsSubRow : OpenClaim := { program := "ytlcjihpdkdngkaagreat", sum := "9ecabdd66734e14870e89b8869dd14d87175ebeca3bf4ecdd2674c500cb84907", func := "cellar/cellarlaw4.MathsSub", spec := "mathsSub", unfollowed := true, recurses := true, apart := false }
def MathsSubSaid : Prop := mathsSubRow.holds Tryz.pinned (OpenSpec.ofChange mathsSubSpec)

/-- ITS FALSE NEIGHBOUR: 'it returns false'. Refute it at one input. -/
def mathsSubWrong : ChangeSpec := { name := "mathsSub", fn := fun _ => fun
  | [d] => { results := [.lit (.bool false)], args := [d] }
  | _ => none }
def MathsSubWrongFalsely : Prop := mathsSubRow.holds Tryz.pinned (OpenSpec.ofChange mathsSubWrong)

/-- 'cellarlaw4.MathsMul': WHATEVER THE INPUT: true; the input reads as it did. -/
def mathsMulSpec : ChangeSpec := { name := "mathsMul", fn := fun _ => fun
  | [d] => { results := [.lit (.bool true)], args := [d] }
  | _ => none }
def mathsMulRow : OpenClaim := { program := "ytlcjihpdkdngkaagreat", sum := "9ecabdd66734e14870e89b8869dd14d87175ebeca3bf4ecdd2674c500cb84907", func := "cellar/cellarlaw4.MathsMul", spec := "mathsMul", unfollowed := true, recurses := true, apart := false }
def MathsMulSaid : Prop := mathsMulRow.holds Tryz.pinned (OpenSpec.ofChange mathsMulSpec)

/-- ITS FALSE NEIGHBOUR: 'it returns false'. Refute it at one input. -/
def mathsMulWrong : ChangeSpec := { name := "mathsMul", fn := fun _ => fun
  | [d] => { results := [.lit (.bool false)], args := [d] }
  | _ => none }
def MathsMulWrongFalsely : Prop := mathsMulRow.holds Tryz.pinned (OpenSpec.ofChange mathsMulWrong)

/-- 'cellarlaw4.MathsDiv': WHATEVER THE INPUT: true; the input reads as it did. -/
def mathsDivSpec : ChangeSpec := { name := "mathsDiv", fn := fun _ => fun
  | [d] => { results := [.lit (.bool true)], args := [d] }
  | _ => none }
def mathsDivRow : OpenClaim := { program := "ytlcjihpdkdngkaagreat", sum := "9ecabdd66734e14870e89b8869dd14d87175ebeca3bf4ecdd2674c500cb84907", func := "cellar/cellarlaw4.MathsDiv", spec := "mathsDiv", unfollowed := true, recurses := true, apart := false }
def MathsDivSaid : Prop := mathsDivRow.holds Tryz.pinned (OpenSpec.ofChange mathsDivSpec)

/-- ITS FALSE NEIGHBOUR: 'it returns false'. Refute it at one input. -/
def mathsDivWrong : ChangeSpec := { name := "mathsDiv", fn := fun _ => fun
  | [d] => { results := [.lit (.bool false)], args := [d] }
  | _ => none }
def MathsDivWrongFalsely : Prop := mathsDivRow.holds Tryz.pinned (OpenSpec.ofChange mathsDivWrong)

/-- 'cellarlaw4.MathsRem': WHATEVER THE INPUT: true; the input reads as it did. -/
def mathsRemSpec : ChangeSpec := { name := "mathsRem", fn := fun _ => fun
  | [d] => { results := [.lit (.bool true)], args := [d] }
  | _ => none }
def mathsRemRow : OpenClaim := { program := "ytlcjihpdkdngkaagreat", sum := "9ecabdd66734e14870e89b8869dd14d87175ebeca3bf4ecdd2674c500cb84907", func := "cellar/cellarlaw4.MathsRem", spec := "mathsRem", unfollowed := true, recurses := true, apart := false }
def MathsRemSaid : Prop := mathsRemRow.holds Tryz.pinned (OpenSpec.ofChange mathsRemSpec)

/-- ITS FALSE NEIGHBOUR: 'it returns false'. Refute it at one input. -/
def mathsRemWrong : ChangeSpec := { name := "mathsRem", fn := fun _ => fun
  | [d] => { results := [.lit (.bool false)], args := [d] }
  | _ => none }
def MathsRemWrongFalsely : Prop := mathsRemRow.holds Tryz.pinned (OpenSpec.ofChange mathsRemWrong)

/-- 'cellarlaw4.MathsAnd': WHATEVER THE INPUT: true; the input reads as it did. -/
def mathsAndSpec : ChangeSpec := { name := "mathsAnd", fn := fun _ => fun
  | [d] => { results := [.lit (.bool true)], args := [d] }
  | _ => none }
def mathsAndRow : OpenClaim := { program := "ytlcjihpdkdngkaagreat", sum := "9ecabdd66734e14870e89b8869dd14d87175ebeca3bf4ecdd2674c500cb84907", func := "cellar/cellarlaw4.MathsAnd", spec := "mathsAnd", unfollowed := true, recurses := true, apart := false }
def MathsAndSaid : Prop := mathsAndRow.holds Tryz.pinned (OpenSpec.ofChange mathsAndSpec)

/-- ITS FALSE NEIGHBOUR: 'it returns false'. Refute it at one input. -/
def mathsAndWrong : ChangeSpec := { name := "mathsAnd", fn := fun _ => fun
  | [d] => { results := [.lit (.bool false)], args := [d] }
  | _ => none }
def MathsAndWrongFalsely : Prop := mathsAndRow.holds Tryz.pinned (OpenSpec.ofChange mathsAndWrong)

/-- 'cellarlaw4.MathsOr': WHATEVER THE INPUT: true; the input reads as it did. -/
def mathsOrSpec : ChangeSpec := { name := "mathsOr", fn := fun _ => fun
  | [d] => { results := [.lit (.bool true)], args := [d] }
  | _ => none }
def mathsOrRow : OpenClaim := { program := "ytlcjihpdkdngkaagreat", sum := "9ecabdd66734e14870e89b8869dd14d87175ebeca3bf4ecdd2674c500cb84907", func := "cellar/cellarlaw4.MathsOr", spec := "mathsOr", unfollowed := true, recurses := true, apart := false }
def MathsOrSaid : Prop := mathsOrRow.holds Tryz.pinned (OpenSpec.ofChange mathsOrSpec)

/-- ITS FALSE NEIGHBOUR: 'it returns false'. Refute it at one input. -/
def mathsOrWrong : ChangeSpec := { name := "mathsOr", fn := fun _ => fun
  | [d] => { results := [.lit (.bool false)], args := [d] }
  | _ => none }
def MathsOrWrongFalsely : Prop := mathsOrRow.holds Tryz.pinned (OpenSpec.ofChange mathsOrWrong)

/-- 'cellarlaw4.MathsXor': WHATEVER THE INPUT: true; the input reads as it did. -/
def mathsXorSpec : ChangeSpec := { name := "mathsXor", fn := fun _ => fun
  | [d] => { results := [.lit (.bool true)], args := [d] }
  | _ => none }
def mathsXorRow : OpenClaim := { program := "ytlcjihpdkdngkaagreat", sum := "9ecabdd66734e14870e89b8869dd14d87175ebeca3bf4ecdd2674c500cb84907", func := "cellar/cellarlaw4.MathsXor", spec := "mathsXor", unfollowed := true, recurses := true, apart := false }
def MathsXorSaid : Prop := mathsXorRow.holds Tryz.pinned (OpenSpec.ofChange mathsXorSpec)

/-- ITS FALSE NEIGHBOUR: 'it returns false'. Refute it at one input. -/
def mathsXorWrong : ChangeSpec := { name := "mathsXor", fn := fun _ => fun
  | [d] => { results := [.lit (.bool false)], args := [d] }
  | _ => none }
def MathsXorWrongFalsely : Prop := mathsXorRow.holds Tryz.pinned (OpenSpec.ofChange mathsXorWrong)

/-- 'cellarlaw4.MathsShl': WHATEVER THE INPUT: true; the input reads as it did. -/
def mathsShlSpec : ChangeSpec := { name := "mathsShl", fn := fun _ => fun
  | [d] => { results := [.lit (.bool true)], args := [d] }
  | _ => none }
def mathsShlRow : OpenClaim := { program := "ytlcjihpdkdngkaagreat", sum := "9ecabdd66734e14870e89b8869dd14d87175ebeca3bf4ecdd2674c500cb84907", func := "cellar/cellarlaw4.MathsShl", spec := "mathsShl", unfollowed := true, recurses := true, apart := false }
def MathsShlSaid : Prop := mathsShlRow.holds Tryz.pinned (OpenSpec.ofChange mathsShlSpec)

/-- ITS FALSE NEIGHBOUR: 'it returns false'. Refute it at one input. -/
def mathsShlWrong : ChangeSpec := { name := "mathsShl", fn := fun _ => fun
  | [d] => { results := [.lit (.bool false)], args := [d] }
  | _ => none }
def MathsShlWrongFalsely : Prop := mathsShlRow.holds Tryz.pinned (OpenSpec.ofChange mathsShlWrong)

/-- 'cellarlaw4.MathsShr': WHATEVER THE INPUT: true; the input reads as it did. -/
def mathsShrSpec : ChangeSpec := { name := "mathsShr", fn := fun _ => fun
  | [d] => { results := [.lit (.bool true)], args := [d] }
  | _ => none }
def mathsShrRow : OpenClaim := { program := "ytlcjihpdkdngkaagreat", sum := "9ecabdd66734e14870e89b8869dd14d87175ebeca3bf4ecdd2674c500cb84907", func := "cellar/cellarlaw4.MathsShr", spec := "mathsShr", unfollowed := true, recurses := true, apart := false }
def MathsShrSaid : Prop := mathsShrRow.holds Tryz.pinned (OpenSpec.ofChange mathsShrSpec)

/-- ITS FALSE NEIGHBOUR: 'it returns false'. Refute it at one input. -/
def mathsShrWrong : ChangeSpec := { name := "mathsShr", fn := fun _ => fun
  | [d] => { results := [.lit (.bool false)], args := [d] }
  | _ => none }
def MathsShrWrongFalsely : Prop := mathsShrRow.holds Tryz.pinned (OpenSpec.ofChange mathsShrWrong)

/-- 'cellarlaw4.MathsEq': WHATEVER THE INPUT: true; the input reads as it did. -/
def mathsEqSpec : ChangeSpec := { name := "mathsEq", fn := fun _ => fun
  | [d] => { results := [.lit (.bool true)], args := [d] }
  | _ => none }
def mathsEqRow : OpenClaim := { program := "ytlcjihpdkdngkaagreat", sum := "9ecabdd66734e14870e89b8869dd14d87175ebeca3bf4ecdd2674c500cb84907", func := "cellar/cellarlaw4.MathsEq", spec := "mathsEq", unfollowed := true, recurses := true, apart := false }
def MathsEqSaid : Prop := mathsEqRow.holds Tryz.pinned (OpenSpec.ofChange mathsEqSpec)

/-- ITS FALSE NEIGHBOUR: 'it returns false'. Refute it at one input. -/
def mathsEqWrong : ChangeSpec := { name := "mathsEq", fn := fun _ => fun
  | [d] => { results := [.lit (.bool false)], args := [d] }
  | _ => none }
def MathsEqWrongFalsely : Prop := mathsEqRow.holds Tryz.pinned (OpenSpec.ofChange mathsEqWrong)

/-- 'cellarlaw4.MathsLess': WHATEVER THE INPUT: true; the input reads as it did. -/
def mathsLessSpec : ChangeSpec := { name := "mathsLess", fn := fun _ => fun
  | [d] => { results := [.lit (.bool true)], args := [d] }
  | _ => none }
def mathsLessRow : OpenClaim := { program := "ytlcjihpdkdngkaagreat", sum := "9ecabdd66734e14870e89b8869dd14d87175ebeca3bf4ecdd2674c500cb84907", func := "cellar/cellarlaw4.MathsLess", spec := "mathsLess", unfollowed := true, recurses := true, apart := false }
def MathsLessSaid : Prop := mathsLessRow.holds Tryz.pinned (OpenSpec.ofChange mathsLessSpec)

/-- ITS FALSE NEIGHBOUR: 'it returns false'. Refute it at one input. -/
def mathsLessWrong : ChangeSpec := { name := "mathsLess", fn := fun _ => fun
  | [d] => { results := [.lit (.bool false)], args := [d] }
  | _ => none }
def MathsLessWrongFalsely : Prop := mathsLessRow.holds Tryz.pinned (OpenSpec.ofChange mathsLessWrong)

/- THE SECOND FORM. 'bulk': how many values and letters a reading holds, each counted each time it is reached (what is shared counts as often as it is met; a slice's spare places count too). A statement '..UptoSaid' is the law's where the arguments, and the package variables that the reading takes, are together of bulk at most 1048576: NARROWER than '..Said'. Prove '..Said' where nothing that the law and all that it calls make is longer than what came in: it says more and counts as full. Else prove '..UptoSaid'. A law counts once. -/
mutual
def uptoBulk {H : Type} : DataW H → Nat
  | .lit (.string bytes) => bytes.length + 1
  | .lit _ => 1
  | .nil => 1
  | .ptr d => uptoBulk d + 1
  | .slice elems spare => uptoBulkAll elems + uptoBulkAll spare + 1
  | .agg parts => uptoBulkAll parts + 1
  | .iface _ d => uptoBulk d + 1
  | .map entries => uptoBulkEntries entries + 1
  | .held _ => 1
def uptoBulkAll {H : Type} : List (DataW H) → Nat
  | [] => 0
  | d :: r => uptoBulk d + uptoBulkAll r
def uptoBulkEntries {H : Type} : List (Lit × DataW H) → Nat
  | [] => 0
  | x :: r => uptoBulkEntry x + uptoBulkEntries r
def uptoBulkEntry {H : Type} : Lit × DataW H → Nat
  | (.string bytes, d) => bytes.length + uptoBulk d + 1
  | (_, d) => uptoBulk d + 1
 end
def uptoSmall : (H : Type) → List (DataW H) → Bool := fun _ ds => decide (uptoBulkAll ds ≤ 1048576)
def OpenSpec.upto (s : _root_.Go.ChangeSpec) : _root_.Go.OpenSpec := { _root_.Go.OpenSpec.ofChange s with cond := some uptoSmall }

/-- 'cellarlaw4.MathsAdd', WHERE WHAT IT READS IS OF BULK AT MOST 1048576: true; the input reads as it did. -/
def mathsAddUptoRow : OpenClaim := { program := "ytlcjihpdkdngkaagreat", sum := "9ecabdd66734e14870e89b8869dd14d87175ebeca3bf4ecdd2674c500cb84907", func := "cellar/cellarlaw4.MathsAdd", spec := "mathsAdd", unfollowed := true, recurses := true, apart := false, narrowed := true }
def MathsAddUptoSaid : Prop := mathsAddUptoRow.holds Tryz.pinned (OpenSpec.upto mathsAddSpec)

/-- 'cellarlaw4.MathsSub', WHERE WHAT IT READS IS OF BULK AT MOST 1048576: true; the input reads as it did. -/
def mathsSubUptoRow : OpenClaim := { program := "ytlcjihpdkdngkaagreat", sum := "9ecabdd66734e14870e89b8869dd14d87175ebeca3bf4ecdd2674c500cb84907", func := "cellar/cellarlaw4.MathsSub", spec := "mathsSub", unfollowed := true, recurses := true, apart := false, narrowed := true }
def MathsSubUptoSaid : Prop := mathsSubUptoRow.holds Tryz.pinned (OpenSpec.upto mathsSubSpec)

/-- 'cellarlaw4.MathsMul', WHERE WHAT IT READS IS OF BULK AT MOST 1048576: true; the input reads as it did. -/
def mathsMulUptoRow : OpenClaim := { program := "ytlcjihpdkdngkaagreat", sum := "9ecabdd66734e14870e89b8869dd14d87175ebeca3bf4ecdd2674c500cb84907", func := "cellar/cellarlaw4.MathsMul", spec := "mathsMul", unfollowed := true, recurses := true, apart := false, narrowed := true }
def MathsMulUptoSaid : Prop := mathsMulUptoRow.holds Tryz.pinned (OpenSpec.upto mathsMulSpec)

/-- 'cellarlaw4.MathsDiv', WHERE WHAT IT READS IS OF BULK AT MOST 1048576: true; the input reads as it did. -/
def mathsDivUptoRow : OpenClaim := { program := "ytlcjihpdkdngkaagreat", sum := "9ecabdd66734e14870e89b8869dd14d87175ebeca3bf4ecdd2674c500cb84907", func := "cellar/cellarlaw4.MathsDiv", spec := "mathsDiv", unfollowed := true, recurses := true, apart := false, narrowed := true }
def MathsDivUptoSaid : Prop := mathsDivUptoRow.holds Tryz.pinned (OpenSpec.upto mathsDivSpec)

/-- 'cellarlaw4.MathsRem', WHERE WHAT IT READS IS OF BULK AT MOST 1048576: true; the input reads as it did. -/
def mathsRemUptoRow : OpenClaim := { program := "ytlcjihpdkdngkaagreat", sum := "9ecabdd66734e14870e89b8869dd14d87175ebeca3bf4ecdd2674c500cb84907", func := "cellar/cellarlaw4.MathsRem", spec := "mathsRem", unfollowed := true, recurses := true, apart := false, narrowed := true }
def MathsRemUptoSaid : Prop := mathsRemUptoRow.holds Tryz.pinned (OpenSpec.upto mathsRemSpec)

/-- 'cellarlaw4.MathsAnd', WHERE WHAT IT READS IS OF BULK AT MOST 1048576: true; the input reads as it did. -/
def mathsAndUptoRow : OpenClaim := { program := "ytlcjihpdkdngkaagreat", sum := "9ecabdd66734e14870e89b8869dd14d87175ebeca3bf4ecdd2674c500cb84907", func := "cellar/cellarlaw4.MathsAnd", spec := "mathsAnd", unfollowed := true, recurses := true, apart := false, narrowed := true }
def MathsAndUptoSaid : Prop := mathsAndUptoRow.holds Tryz.pinned (OpenSpec.upto mathsAndSpec)

/-- 'cellarlaw4.MathsOr', WHERE WHAT IT READS IS OF BULK AT MOST 1048576: true; the input reads as it did. -/
def mathsOrUptoRow : OpenClaim := { program := "ytlcjihpdkdngkaagreat", sum := "9ecabdd66734e14870e89b8869dd14d87175ebeca3bf4ecdd2674c500cb84907", func := "cellar/cellarlaw4.MathsOr", spec := "mathsOr", unfollowed := true, recurses := true, apart := false, narrowed := true }
def MathsOrUptoSaid : Prop := mathsOrUptoRow.holds Tryz.pinned (OpenSpec.upto mathsOrSpec)

/-- 'cellarlaw4.MathsXor', WHERE WHAT IT READS IS OF BULK AT MOST 1048576: true; the input reads as it did. -/
def mathsXorUptoRow : OpenClaim := { program := "ytlcjihpdkdngkaagreat", sum := "9ecabdd66734e14870e89b8869dd14d87175ebeca3bf4ecdd2674c500cb84907", func := "cellar/cellarlaw4.MathsXor", spec := "mathsXor", unfollowed := true, recurses := true, apart := false, narrowed := true }
def MathsXorUptoSaid : Prop := mathsXorUptoRow.holds Tryz.pinned (OpenSpec.upto mathsXorSpec)

/-- 'cellarlaw4.MathsShl', WHERE WHAT IT READS IS OF BULK AT MOST 1048576: true; the input reads as it did. -/
def mathsShlUptoRow : OpenClaim := { program := "ytlcjihpdkdngkaagreat", sum := "9ecabdd66734e14870e89b8869dd14d87175ebeca3bf4ecdd2674c500cb84907", func := "cellar/cellarlaw4.MathsShl", spec := "mathsShl", unfollowed := true, recurses := true, apart := false, narrowed := true }
def MathsShlUptoSaid : Prop := mathsShlUptoRow.holds Tryz.pinned (OpenSpec.upto mathsShlSpec)

/-- 'cellarlaw4.MathsShr', WHERE WHAT IT READS IS OF BULK AT MOST 1048576: true; the input reads as it did. -/
def mathsShrUptoRow : OpenClaim := { program := "ytlcjihpdkdngkaagreat", sum := "9ecabdd66734e14870e89b8869dd14d87175ebeca3bf4ecdd2674c500cb84907", func := "cellar/cellarlaw4.MathsShr", spec := "mathsShr", unfollowed := true, recurses := true, apart := false, narrowed := true }
def MathsShrUptoSaid : Prop := mathsShrUptoRow.holds Tryz.pinned (OpenSpec.upto mathsShrSpec)

/-- 'cellarlaw4.MathsEq', WHERE WHAT IT READS IS OF BULK AT MOST 1048576: true; the input reads as it did. -/
def mathsEqUptoRow : OpenClaim := { program := "ytlcjihpdkdngkaagreat", sum := "9ecabdd66734e14870e89b8869dd14d87175ebeca3bf4ecdd2674c500cb84907", func := "cellar/cellarlaw4.MathsEq", spec := "mathsEq", unfollowed := true, recurses := true, apart := false, narrowed := true }
def MathsEqUptoSaid : Prop := mathsEqUptoRow.holds Tryz.pinned (OpenSpec.upto mathsEqSpec)

/-- 'cellarlaw4.MathsLess', WHERE WHAT IT READS IS OF BULK AT MOST 1048576: true; the input reads as it did. -/
def mathsLessUptoRow : OpenClaim := { program := "ytlcjihpdkdngkaagreat", sum := "9ecabdd66734e14870e89b8869dd14d87175ebeca3bf4ecdd2674c500cb84907", func := "cellar/cellarlaw4.MathsLess", spec := "mathsLess", unfollowed := true, recurses := true, apart := false, narrowed := true }
def MathsLessUptoSaid : Prop := mathsLessUptoRow.holds Tryz.pinned (OpenSpec.upto mathsLessSpec)

end Rows
end Go.Proofs.YtlcjihpdkdngkaaGreat
