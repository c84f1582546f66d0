/-
  No cell of these rows narrows 'for every input' (looked for: loops, veiled, ifaces, maps, wideKeys, modest, calm, conditions, laid).
  DERIVED. THE GIVEN ROWS OF THIS SEAT. 11 by the template 'for every input the law returns true; each argument reads behind the call as it read before'; 0 by the template 'total and deterministic' (their statements: YtmaclakgkllojaaTotals.lean).
  GIVEN WITH THE SEED: the statements are not yours to turn. If you find one false, say at which input.
  Laid BY PROGRAM, IN A SANDBOX (cutbox-rows.mjs): the forced cells as the released guide's own fill.sh prints them over the translation 936a7bc7e27c753b… (all of the seat's roots in one cut). By AI agents, Wed Nov 11 2026. No macro, syntax, notation, axiom, sorry.
-/
import Derived.Test.YtmaclakgkllojaaChecked
import GoSem.Claim
import GoSem.ClaimJoined
import GoSem.ClaimMapViews
import Derived.JoinedTies
import Derived.KernelRfl
namespace Go.Proofs.Ytmaclakgkllojaa
/- THE CELL 'sum', in the pinned program and in every row, IS THE sha256 OF THE DUMP (.gsa) THAT YtmaclakgkllojaaProg.lean LOADS. Nothing in Lean hashes anything: it is a label: what it is worth is what the hold of that sum in a sandbox is worth. -/
noncomputable def Try.pinned : Pinned := { name := "ytmaclakgkllojaa", sum := "936a7bc7e27c753b2565859fd342079bfafa2e56d2908192d9e049ab199dbe52", checked := Try.checked }
namespace Rows
def none {H : Type} : Left H := { results := [], args := [] }

/-- 'cellarlaw15.AbsMakes': WHATEVER THE INPUT: true; the input reads as it did. -/
def absMakesSpec : ChangeSpec := { name := "absMakes", fn := fun _ => fun
  | [d] => { results := [.lit (.bool true)], args := [d] }
  | _ => none }
def absMakesRow : OpenClaim := { program := "ytmaclakgkllojaa", sum := "936a7bc7e27c753b2565859fd342079bfafa2e56d2908192d9e049ab199dbe52", func := "cellar/cellarlaw15.AbsMakes", spec := "absMakes", unfollowed := true, recurses := true, apart := false }
def AbsMakesSaid : Prop := absMakesRow.holds Try.pinned (OpenSpec.ofChange absMakesSpec)

/-- ITS FALSE NEIGHBOUR: 'it returns false'. Refute it at one input. -/
def absMakesWrong : ChangeSpec := { name := "absMakes", fn := fun _ => fun
  | [d] => { results := [.lit (.bool false)], args := [d] }
  | _ => none }
def AbsMakesWrongFalsely : Prop := absMakesRow.holds Try.pinned (OpenSpec.ofChange absMakesWrong)

/-- 'cellarlaw15.AbsTells': WHATEVER THE INPUT: true; the input reads as it did. -/
def absTellsSpec : ChangeSpec := { name := "absTells", fn := fun _ => fun
  | [d] => { results := [.lit (.bool true)], args := [d] }
  | _ => none }
def absTellsRow : OpenClaim := { program := "ytmaclakgkllojaa", sum := "936a7bc7e27c753b2565859fd342079bfafa2e56d2908192d9e049ab199dbe52", func := "cellar/cellarlaw15.AbsTells", spec := "absTells", unfollowed := true, recurses := true, apart := false }
def AbsTellsSaid : Prop := absTellsRow.holds Try.pinned (OpenSpec.ofChange absTellsSpec)

/-- ITS FALSE NEIGHBOUR: 'it returns false'. Refute it at one input. -/
def absTellsWrong : ChangeSpec := { name := "absTells", fn := fun _ => fun
  | [d] => { results := [.lit (.bool false)], args := [d] }
  | _ => none }
def AbsTellsWrongFalsely : Prop := absTellsRow.holds Try.pinned (OpenSpec.ofChange absTellsWrong)

/-- 'cellarlaw5.FilterEqual': WHATEVER THE INPUT: true; the input reads as it did. -/
def filterEqualSpec : ChangeSpec := { name := "filterEqual", fn := fun _ => fun
  | [d] => { results := [.lit (.bool true)], args := [d] }
  | _ => none }
def filterEqualRow : OpenClaim := { program := "ytmaclakgkllojaa", sum := "936a7bc7e27c753b2565859fd342079bfafa2e56d2908192d9e049ab199dbe52", func := "cellar/cellarlaw5.FilterEqual", spec := "filterEqual", apart := false }
def FilterEqualSaid : Prop := filterEqualRow.holds Try.pinned (OpenSpec.ofChange filterEqualSpec)

/-- ITS FALSE NEIGHBOUR: 'it returns false'. Refute it at one input. -/
def filterEqualWrong : ChangeSpec := { name := "filterEqual", fn := fun _ => fun
  | [d] => { results := [.lit (.bool false)], args := [d] }
  | _ => none }
def FilterEqualWrongFalsely : Prop := filterEqualRow.holds Try.pinned (OpenSpec.ofChange filterEqualWrong)

/-- 'cellarlaw5.FilterLess': WHATEVER THE INPUT: true; the input reads as it did. -/
def filterLessSpec : ChangeSpec := { name := "filterLess", fn := fun _ => fun
  | [d] => { results := [.lit (.bool true)], args := [d] }
  | _ => none }
def filterLessRow : OpenClaim := { program := "ytmaclakgkllojaa", sum := "936a7bc7e27c753b2565859fd342079bfafa2e56d2908192d9e049ab199dbe52", func := "cellar/cellarlaw5.FilterLess", spec := "filterLess", apart := false }
def FilterLessSaid : Prop := filterLessRow.holds Try.pinned (OpenSpec.ofChange filterLessSpec)

/-- ITS FALSE NEIGHBOUR: 'it returns false'. Refute it at one input. -/
def filterLessWrong : ChangeSpec := { name := "filterLess", fn := fun _ => fun
  | [d] => { results := [.lit (.bool false)], args := [d] }
  | _ => none }
def FilterLessWrongFalsely : Prop := filterLessRow.holds Try.pinned (OpenSpec.ofChange filterLessWrong)

/-- 'cellarlaw5.FilterOdd': WHATEVER THE INPUT: true; the input reads as it did. -/
def filterOddSpec : ChangeSpec := { name := "filterOdd", fn := fun _ => fun
  | [d] => { results := [.lit (.bool true)], args := [d] }
  | _ => none }
def filterOddRow : OpenClaim := { program := "ytmaclakgkllojaa", sum := "936a7bc7e27c753b2565859fd342079bfafa2e56d2908192d9e049ab199dbe52", func := "cellar/cellarlaw5.FilterOdd", spec := "filterOdd", apart := false }
def FilterOddSaid : Prop := filterOddRow.holds Try.pinned (OpenSpec.ofChange filterOddSpec)

/-- ITS FALSE NEIGHBOUR: 'it returns false'. Refute it at one input. -/
def filterOddWrong : ChangeSpec := { name := "filterOdd", fn := fun _ => fun
  | [d] => { results := [.lit (.bool false)], args := [d] }
  | _ => none }
def FilterOddWrongFalsely : Prop := filterOddRow.holds Try.pinned (OpenSpec.ofChange filterOddWrong)

/-- 'cellarlaw5.FilterZero': WHATEVER THE INPUT: true; the input reads as it did. -/
def filterZeroSpec : ChangeSpec := { name := "filterZero", fn := fun _ => fun
  | [d] => { results := [.lit (.bool true)], args := [d] }
  | _ => none }
def filterZeroRow : OpenClaim := { program := "ytmaclakgkllojaa", sum := "936a7bc7e27c753b2565859fd342079bfafa2e56d2908192d9e049ab199dbe52", func := "cellar/cellarlaw5.FilterZero", spec := "filterZero", apart := false }
def FilterZeroSaid : Prop := filterZeroRow.holds Try.pinned (OpenSpec.ofChange filterZeroSpec)

/-- ITS FALSE NEIGHBOUR: 'it returns false'. Refute it at one input. -/
def filterZeroWrong : ChangeSpec := { name := "filterZero", fn := fun _ => fun
  | [d] => { results := [.lit (.bool false)], args := [d] }
  | _ => none }
def FilterZeroWrongFalsely : Prop := filterZeroRow.holds Try.pinned (OpenSpec.ofChange filterZeroWrong)

/-- 'cellarlaw5.FilterSmall': WHATEVER THE INPUT: true; the input reads as it did. -/
def filterSmallSpec : ChangeSpec := { name := "filterSmall", fn := fun _ => fun
  | [d] => { results := [.lit (.bool true)], args := [d] }
  | _ => none }
def filterSmallRow : OpenClaim := { program := "ytmaclakgkllojaa", sum := "936a7bc7e27c753b2565859fd342079bfafa2e56d2908192d9e049ab199dbe52", func := "cellar/cellarlaw5.FilterSmall", spec := "filterSmall", apart := false }
def FilterSmallSaid : Prop := filterSmallRow.holds Try.pinned (OpenSpec.ofChange filterSmallSpec)

/-- ITS FALSE NEIGHBOUR: 'it returns false'. Refute it at one input. -/
def filterSmallWrong : ChangeSpec := { name := "filterSmall", fn := fun _ => fun
  | [d] => { results := [.lit (.bool false)], args := [d] }
  | _ => none }
def FilterSmallWrongFalsely : Prop := filterSmallRow.holds Try.pinned (OpenSpec.ofChange filterSmallWrong)

/-- 'cellarlaw5.FilterDown': WHATEVER THE INPUT: true; the input reads as it did. -/
def filterDownSpec : ChangeSpec := { name := "filterDown", fn := fun _ => fun
  | [d] => { results := [.lit (.bool true)], args := [d] }
  | _ => none }
def filterDownRow : OpenClaim := { program := "ytmaclakgkllojaa", sum := "936a7bc7e27c753b2565859fd342079bfafa2e56d2908192d9e049ab199dbe52", func := "cellar/cellarlaw5.FilterDown", spec := "filterDown", apart := false }
def FilterDownSaid : Prop := filterDownRow.holds Try.pinned (OpenSpec.ofChange filterDownSpec)

/-- ITS FALSE NEIGHBOUR: 'it returns false'. Refute it at one input. -/
def filterDownWrong : ChangeSpec := { name := "filterDown", fn := fun _ => fun
  | [d] => { results := [.lit (.bool false)], args := [d] }
  | _ => none }
def FilterDownWrongFalsely : Prop := filterDownRow.holds Try.pinned (OpenSpec.ofChange filterDownWrong)

/-- 'cellarlaw15.AbsPointers': WHATEVER THE INPUT: true; the input reads as it did. -/
def absPointersSpec : ChangeSpec := { name := "absPointers", fn := fun _ => fun
  | [d] => { results := [.lit (.bool true)], args := [d] }
  | _ => none }
def absPointersRow : OpenClaim := { program := "ytmaclakgkllojaa", sum := "936a7bc7e27c753b2565859fd342079bfafa2e56d2908192d9e049ab199dbe52", func := "cellar/cellarlaw15.AbsPointers", spec := "absPointers", unfollowed := true, recurses := true, apart := false }
def AbsPointersSaid : Prop := absPointersRow.holds Try.pinned (OpenSpec.ofChange absPointersSpec)

/-- ITS FALSE NEIGHBOUR: 'it returns false'. Refute it at one input. -/
def absPointersWrong : ChangeSpec := { name := "absPointers", fn := fun _ => fun
  | [d] => { results := [.lit (.bool false)], args := [d] }
  | _ => none }
def AbsPointersWrongFalsely : Prop := absPointersRow.holds Try.pinned (OpenSpec.ofChange absPointersWrong)

/-- 'cellarlaw15.AbsJoins': WHATEVER THE INPUT: true; the input reads as it did. -/
def absJoinsSpec : ChangeSpec := { name := "absJoins", fn := fun _ => fun
  | [d] => { results := [.lit (.bool true)], args := [d] }
  | _ => none }
def absJoinsRow : OpenClaim := { program := "ytmaclakgkllojaa", sum := "936a7bc7e27c753b2565859fd342079bfafa2e56d2908192d9e049ab199dbe52", func := "cellar/cellarlaw15.AbsJoins", spec := "absJoins", unfollowed := true, recurses := true, apart := false }
def AbsJoinsSaid : Prop := absJoinsRow.holds Try.pinned (OpenSpec.ofChange absJoinsSpec)

/-- ITS FALSE NEIGHBOUR: 'it returns false'. Refute it at one input. -/
def absJoinsWrong : ChangeSpec := { name := "absJoins", fn := fun _ => fun
  | [d] => { results := [.lit (.bool false)], args := [d] }
  | _ => none }
def AbsJoinsWrongFalsely : Prop := absJoinsRow.holds Try.pinned (OpenSpec.ofChange absJoinsWrong)

/-- 'cellarlaw15.AbsWide': WHATEVER THE INPUT: true; the input reads as it did. -/
def absWideSpec : ChangeSpec := { name := "absWide", fn := fun _ => fun
  | [d] => { results := [.lit (.bool true)], args := [d] }
  | _ => none }
def absWideRow : OpenClaim := { program := "ytmaclakgkllojaa", sum := "936a7bc7e27c753b2565859fd342079bfafa2e56d2908192d9e049ab199dbe52", func := "cellar/cellarlaw15.AbsWide", spec := "absWide", unfollowed := true, recurses := true, apart := false }
def AbsWideSaid : Prop := absWideRow.holds Try.pinned (OpenSpec.ofChange absWideSpec)

/-- ITS FALSE NEIGHBOUR: 'it returns false'. Refute it at one input. -/
def absWideWrong : ChangeSpec := { name := "absWide", fn := fun _ => fun
  | [d] => { results := [.lit (.bool false)], args := [d] }
  | _ => none }
def AbsWideWrongFalsely : Prop := absWideRow.holds Try.pinned (OpenSpec.ofChange absWideWrong)

/- THE SECOND FORM. 'bulk': how many values and letters a reading holds, each counted each time it is reached (what is shared counts as often as it is met; a slice's spare places count too). A statement '..UptoSaid' is the law's where the arguments, and the package variables that the reading takes, are together of bulk at most 1048576: NARROWER than '..Said'. Prove '..Said' where nothing that the law and all that it calls make is longer than what came in: it says more and counts as full. Else prove '..UptoSaid'. A law counts once. -/
mutual
def uptoBulk {H : Type} : DataW H → Nat
  | .lit (.string bytes) => bytes.length + 1
  | .lit _ => 1
  | .nil => 1
  | .ptr d => uptoBulk d + 1
  | .slice elems spare => uptoBulkAll elems + uptoBulkAll spare + 1
  | .agg parts => uptoBulkAll parts + 1
  | .iface _ d => uptoBulk d + 1
  | .map entries => uptoBulkEntries entries + 1
  | .held _ => 1
def uptoBulkAll {H : Type} : List (DataW H) → Nat
  | [] => 0
  | d :: r => uptoBulk d + uptoBulkAll r
def uptoBulkEntries {H : Type} : List (Lit × DataW H) → Nat
  | [] => 0
  | x :: r => uptoBulkEntry x + uptoBulkEntries r
def uptoBulkEntry {H : Type} : Lit × DataW H → Nat
  | (.string bytes, d) => bytes.length + uptoBulk d + 1
  | (_, d) => uptoBulk d + 1
 end
def uptoSmall : (H : Type) → List (DataW H) → Bool := fun _ ds => decide (uptoBulkAll ds ≤ 1048576)
def OpenSpec.upto (s : _root_.Go.ChangeSpec) : _root_.Go.OpenSpec := { _root_.Go.OpenSpec.ofChange s with cond := some uptoSmall }

/-- 'cellarlaw15.AbsMakes', WHERE WHAT IT READS IS OF BULK AT MOST 1048576: true; the input reads as it did. -/
def absMakesUptoRow : OpenClaim := { program := "ytmaclakgkllojaa", sum := "936a7bc7e27c753b2565859fd342079bfafa2e56d2908192d9e049ab199dbe52", func := "cellar/cellarlaw15.AbsMakes", spec := "absMakes", unfollowed := true, recurses := true, apart := false, narrowed := true }
def AbsMakesUptoSaid : Prop := absMakesUptoRow.holds Try.pinned (OpenSpec.upto absMakesSpec)

/-- 'cellarlaw15.AbsTells', WHERE WHAT IT READS IS OF BULK AT MOST 1048576: true; the input reads as it did. -/
def absTellsUptoRow : OpenClaim := { program := "ytmaclakgkllojaa", sum := "936a7bc7e27c753b2565859fd342079bfafa2e56d2908192d9e049ab199dbe52", func := "cellar/cellarlaw15.AbsTells", spec := "absTells", unfollowed := true, recurses := true, apart := false, narrowed := true }
def AbsTellsUptoSaid : Prop := absTellsUptoRow.holds Try.pinned (OpenSpec.upto absTellsSpec)

/-- 'cellarlaw5.FilterEqual', WHERE WHAT IT READS IS OF BULK AT MOST 1048576: true; the input reads as it did. -/
def filterEqualUptoRow : OpenClaim := { program := "ytmaclakgkllojaa", sum := "936a7bc7e27c753b2565859fd342079bfafa2e56d2908192d9e049ab199dbe52", func := "cellar/cellarlaw5.FilterEqual", spec := "filterEqual", apart := false, narrowed := true }
def FilterEqualUptoSaid : Prop := filterEqualUptoRow.holds Try.pinned (OpenSpec.upto filterEqualSpec)

/-- 'cellarlaw5.FilterLess', WHERE WHAT IT READS IS OF BULK AT MOST 1048576: true; the input reads as it did. -/
def filterLessUptoRow : OpenClaim := { program := "ytmaclakgkllojaa", sum := "936a7bc7e27c753b2565859fd342079bfafa2e56d2908192d9e049ab199dbe52", func := "cellar/cellarlaw5.FilterLess", spec := "filterLess", apart := false, narrowed := true }
def FilterLessUptoSaid : Prop := filterLessUptoRow.holds Try.pinned (OpenSpec.upto filterLessSpec)

/-- 'cellarlaw5.FilterOdd', WHERE WHAT IT READS IS OF BULK AT MOST 1048576: true; the input reads as it did. -/
def filterOddUptoRow : OpenClaim := { program := "ytmaclakgkllojaa", sum := "936a7bc7e27c753b2565859fd342079bfafa2e56d2908192d9e049ab199dbe52", func := "cellar/cellarlaw5.FilterOdd", spec := "filterOdd", apart := false, narrowed := true }
def FilterOddUptoSaid : Prop := filterOddUptoRow.holds Try.pinned (OpenSpec.upto filterOddSpec)

/-- 'cellarlaw5.FilterZero', WHERE WHAT IT READS IS OF BULK AT MOST 1048576: true; the input reads as it did. -/
def filterZeroUptoRow : OpenClaim := { program := "ytmaclakgkllojaa", sum := "936a7bc7e27c753b2565859fd342079bfafa2e56d2908192d9e049ab199dbe52", func := "cellar/cellarlaw5.FilterZero", spec := "filterZero", apart := false, narrowed := true }
def FilterZeroUptoSaid : Prop := filterZeroUptoRow.holds Try.pinned (OpenSpec.upto filterZeroSpec)

/-- 'cellarlaw5.FilterSmall', WHERE WHAT IT READS IS OF BULK AT MOST 1048576: true; the input reads as it did. -/
def filterSmallUptoRow : OpenClaim := { program := "ytmaclakgkllojaa", sum := "936a7bc7e27c753b2565859fd342079bfafa2e56d2908192d9e049ab199dbe52", func := "cellar/cellarlaw5.FilterSmall", spec := "filterSmall", apart := false, narrowed := true }
def FilterSmallUptoSaid : Prop := filterSmallUptoRow.holds Try.pinned (OpenSpec.upto filterSmallSpec)

/-- 'cellarlaw5.FilterDown', WHERE WHAT IT READS IS OF BULK AT MOST 1048576: true; the input reads as it did. -/
def filterDownUptoRow : OpenClaim := { program := "ytmaclakgkllojaa", sum := "936a7bc7e27c753b2565859fd342079bfafa2e56d2908192d9e049ab199dbe52", func := "cellar/cellarlaw5.FilterDown", spec := "filterDown", apart := false, narrowed := true }
def FilterDownUptoSaid : Prop := filterDownUptoRow.holds Try.pinned (OpenSpec.upto filterDownSpec)

/-- 'cellarlaw15.AbsPointers', WHERE WHAT IT READS IS OF BULK AT MOST 1048576: true; the input reads as it did. -/
def absPointersUptoRow : OpenClaim := { program := "ytmaclakgkllojaa", sum := "936a7bc7e27c753b2565859fd342079bfafa2e56d2908192d9e049ab199dbe52", func := "cellar/cellarlaw15.AbsPointers", spec := "absPointers", unfollowed := true, recurses := true, apart := false, narrowed := true }
def AbsPointersUptoSaid : Prop := absPointersUptoRow.holds Try.pinned (OpenSpec.upto absPointersSpec)

/-- 'cellarlaw15.AbsJoins', WHERE WHAT IT READS IS OF BULK AT MOST 1048576: true; the input reads as it did. -/
def absJoinsUptoRow : OpenClaim := { program := "ytmaclakgkllojaa", sum := "936a7bc7e27c753b2565859fd342079bfafa2e56d2908192d9e049ab199dbe52", func := "cellar/cellarlaw15.AbsJoins", spec := "absJoins", unfollowed := true, recurses := true, apart := false, narrowed := true }
def AbsJoinsUptoSaid : Prop := absJoinsUptoRow.holds Try.pinned (OpenSpec.upto absJoinsSpec)

/-- 'cellarlaw15.AbsWide', WHERE WHAT IT READS IS OF BULK AT MOST 1048576: true; the input reads as it did. -/
def absWideUptoRow : OpenClaim := { program := "ytmaclakgkllojaa", sum := "936a7bc7e27c753b2565859fd342079bfafa2e56d2908192d9e049ab199dbe52", func := "cellar/cellarlaw15.AbsWide", spec := "absWide", unfollowed := true, recurses := true, apart := false, narrowed := true }
def AbsWideUptoSaid : Prop := absWideUptoRow.holds Try.pinned (OpenSpec.upto absWideSpec)

end Rows
end Go.Proofs.Ytmaclakgkllojaa
