/-
  Contracts of WidthFor, in the program and in the reference.
-/
import Derived.Test.YtgpimlmolcjeoaaWidth
import Derived.Test.YtgpimlmolcjeoaaFlat
namespace Go.Proofs.Ytgpimlmolcjeoaa
open Go.RowKit
set_option linter.unusedVariables false
set_option maxRecDepth 100000

def widthFor (xs : List Int) : Int := (xs.map widthOf).foldl max 0
theorem widthFor_snoc {xs : List Int} {k : Nat} {x : Int} (h : xs[k]? = some x) : widthFor (xs.take (k + 1)) = max (widthFor (xs.take k)) (widthOf x) := by
  unfold widthFor
  rw [List.take_add_one, h]
  simp [List.foldl_append]

end Go.Proofs.Ytgpimlmolcjeoaa
