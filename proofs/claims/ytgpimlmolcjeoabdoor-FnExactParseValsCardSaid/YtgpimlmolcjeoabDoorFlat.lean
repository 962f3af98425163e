/-
  Contracts of the laws' helpers on slices of bytes, of integers and of strings: copies, comparisons, marks, and the test that the marks still stand.
-/
import Derived.Test.YtgpimlmolcjeoabDoorMark
namespace Go.Proofs.YtgpimlmolcjeoabDoor
open Go.RowKit
set_option linter.unusedVariables false
set_option maxRecDepth 100000










end Go.Proofs.YtgpimlmolcjeoabDoor
