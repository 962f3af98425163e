/-
  The walk of the law FnExactParseVal: the Go function returns true, and leaves what it was handed as it was.
-/
import Derived.Test.YtgpimlmolcjeoaaDoorPval
namespace Go.Proofs.YtgpimlmolcjeoaaDoor.fnExactParseVal
open Go.RowKit
set_option linter.unusedVariables false
set_option maxRecDepth 100000
set_option maxHeartbeats 4000000 in
theorem walk (w : World) (a0 : ByteArray) (ha0 : a0.size ≤ maxLen) (hL : laidMet Tryd.prog Rows.fnExactParseValRow.laid w) :
    Calls Tryd.prog 8 #[.string a0] w fun e w' => e = .returned (.bool true) ∧ Below w.heap.size w w' := by
  have hT : Tab w := tab_of hL
  have hE : Errs w := errs_of hL
  clear hL
  unfold maxLen at ha0
  by_cases hg : 1048576 < a0.size
  · go_enter Tryd.func8, Tryd.ntmps8
    go_wp2
    go_ret
    exact ⟨rfl, Below.refl _ _⟩
  obtain ⟨v, b, hP⟩ : ∃ (v : V) (b : Bool), Hid (pvT a0 = .tuple #[.agg #[.int .i64 v.ty, .int .i64 v.n, .string v.s], .bool b]) := ⟨_, _, Lib.hid rfl⟩
  go_enter Tryd.func8, Tryd.ntmps8
  go_wp2_with fail
  refine (spec_ParseVal _ a0 (by omega)).mono ?_
  rintro e w1 ⟨rfl, hb1⟩
  rw [hP.out]
  obtain ⟨W1, hW1⟩ : ∃ W1, W1 = w1.alloc (.cells #[.int .i64 v.ty, .int .i64 v.n, .string v.s] 28) := ⟨_, rfl⟩
  have hx1 : Box W1 w1.heap.size v := by rw [hW1]; exact Box.new w1 v
  have hbW1 : Below w.heap.size w W1 := by rw [hW1]; exact hb1.alloc hb1.size _
  have hT1 := hT.below hbW1
  have hE1 := hE.below hbW1
  clear hT hE hb1
  go_wp2_with fail
  rw [← hW1]
  clear hW1
  refine (impl_ParseVal _ a0 (by omega) hT1 hE1).mono ?_
  rintro e w2 ⟨rfl, hb2⟩
  rw [hP.out]
  have hb3 := hbW1.trans (hb2.mono hbW1.size)
  obtain ⟨p0, p1, p2, -, -, -⟩ := (hx1.below hb2).cells
  have hlt : w1.heap.size < w2.heap.size := Nat.lt_of_lt_of_le hx1.lt hb2.size
  clear hT1 hE1 hb2 hbW1 hx1
  go_wp2_with fail
  refine (eqVal_same _ v).mono ?_
  rintro e w3 ⟨rfl, hb4⟩
  have hb5 := (hb3.alloc hb3.size _).trans (hb4.mono (by simp; have := hb3.size; omega))
  clear hb3 hb4
  cases b
  all_goals
    go_wp2
    go_ret
    exact ⟨rfl, hb5⟩
end Go.Proofs.YtgpimlmolcjeoaaDoor.fnExactParseVal
