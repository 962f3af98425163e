/-
  Contracts of the laws' helpers on slices of bytes, of integers and of strings: copies, comparisons, marks, and the test that the marks still stand.
-/
import Derived.Test.YtgpimlmolcjeoaaGreatDoorMark
namespace Go.Proofs.YtgpimlmolcjeoaaGreatDoor
open Go.RowKit
set_option linter.unusedVariables false
set_option maxRecDepth 100000










end Go.Proofs.YtgpimlmolcjeoaaGreatDoor
