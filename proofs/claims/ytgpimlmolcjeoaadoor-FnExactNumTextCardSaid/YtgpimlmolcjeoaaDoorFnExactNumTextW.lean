/-
  The walk of the law FnExactNumText: the Go function returns true, and leaves what it was handed as it was.
-/
import Derived.Test.YtgpimlmolcjeoaaDoorNtext
namespace Go.Proofs.YtgpimlmolcjeoaaDoor.fnExactNumText
open Go.RowKit
set_option linter.unusedVariables false
set_option maxRecDepth 100000
set_option maxHeartbeats 4000000 in
theorem walk (w : World) (a0 : Int) (ha0 : I64 a0) (hL : laidMet Tryd.prog Rows.fnExactNumTextRow.laid w) :
    Calls Tryd.prog 3 #[.int .i64 a0] w fun e w' => e = .returned (.bool true) ∧ Below w.heap.size w w' := by
  have hT : Tab w := tab_of hL
  clear hL
  go_enter Tryd.func3, Tryd.ntmps3
  go_wp2_with fail
  refine (spec_NumText _ a0 ha0).mono ?_
  rintro e w1 ⟨rfl, hb1⟩
  have hT1 := hT.below hb1
  clear hT
  go_wp2_with fail
  refine (impl_NumText _ a0 ha0 hT1).mono ?_
  rintro e w2 ⟨rfl, hb2⟩
  have hb := hb1.trans (hb2.mono hb1.size)
  clear hb1 hb2 hT1
  go_wp2
  go_ret
  exact ⟨rfl, hb⟩
end Go.Proofs.YtgpimlmolcjeoaaDoor.fnExactNumText
