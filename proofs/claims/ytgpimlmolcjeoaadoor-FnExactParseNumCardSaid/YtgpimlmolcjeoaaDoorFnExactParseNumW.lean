/-
  The walk of the law FnExactParseNum: the Go function returns true, and leaves what it was handed as it was.
-/
import Derived.Test.YtgpimlmolcjeoaaDoorPnum
namespace Go.Proofs.YtgpimlmolcjeoaaDoor.fnExactParseNum
open Go.RowKit
set_option linter.unusedVariables false
set_option maxRecDepth 100000
set_option maxHeartbeats 4000000 in
theorem walk (w : World) (a0 : ByteArray) (ha0 : a0.size ≤ maxLen) (hL : laidMet Tryd.prog Rows.fnExactParseNumRow.laid w) :
    Calls Tryd.prog 6 #[.string a0] w fun e w' => e = .returned (.bool true) ∧ Below w.heap.size w w' := by
  have hT : Tab w := tab_of hL
  have hE : Errs w := errs_of hL
  clear hL
  unfold maxLen at ha0
  by_cases hg : 1048576 < a0.size
  · go_enter Tryd.func6, Tryd.ntmps6
    go_wp2
    go_ret
    exact ⟨rfl, Below.refl _ _⟩
  go_enter Tryd.func6, Tryd.ntmps6
  go_wp2_with fail
  refine (spec_ParseNum _ a0 (by omega)).mono ?_
  rintro e w1 ⟨rfl, hb1⟩
  have hT1 := hT.below hb1
  have hE1 := hE.below hb1
  clear hT hE
  unfold pnT
  go_wp2_with fail
  refine (impl_ParseNum _ a0 (by omega) hT1 hE1).mono ?_
  rintro e w2 ⟨rfl, hb2⟩
  have hb := hb1.trans (hb2.mono hb1.size)
  clear hb1 hb2 hT1 hE1
  unfold pnT
  go_wp2
  go_ret
  exact ⟨rfl, hb⟩
end Go.Proofs.YtgpimlmolcjeoaaDoor.fnExactParseNum
