/-
  The walk of the law FnExactWidthFor: the Go function returns true, and leaves what it was handed as it was.
-/
import Derived.Test.YtbmgfcoiailolaaFor
namespace Go.Proofs.Ytbmgfcoiailolaa.fnExactWidthFor
open Go.RowKit
set_option linter.unusedVariables false

set_option maxRecDepth 100000 in
set_option maxHeartbeats 4000000 in
theorem walk (w : World) (A0 : Option Addr) (c0 : Nat) (a0 : List Int) (hc0 : a0.length ≤ c0) (hm0 : c0 ≤ maxLen) (hr0 : Reads w w.heap.size 1 A0 a0.length (intCells a0)) (hi0 : ∀ x ∈ a0, I64 x) :
    Calls Try.prog 4 #[.slice A0 a0.length c0] w fun e w' => e = .returned (.bool true) ∧ Below w.heap.size w w' := by
  by_cases hg0 : 1048576 < a0.length
  · have hgm := hm0
    unfold maxLen at hgm
    go_enter Try.func4, Try.ntmps4
    go_wp2
    go_ret
    exact ⟨rfl, Below.refl _ _⟩
  have hsz : w.heap.size ≤ w.heap.size := Nat.le_refl _
  have hbl := Below.refl w.heap.size w
  go_enter Try.func4, Try.ntmps4
  go_wp2_with fail
  refine (toIntS_any _ _ _ _ (hr0.more hsz) (by omega)).mono ?_
  rintro e w1 ⟨g1, rfl, ho1, hb1⟩
  replace ho1 := Owned.mk' ho1
  have hz1 := hb1.size
  replace hr0 := hr0.below hb1 hsz
  replace hbl := Below.stepU hbl hsz hb1
  replace hsz := Nat.le_trans hsz hz1
  clear hb1
  go_wp2_with fail
  refine (spec_WidthFor _ _ _ _ (ho1.reads.more (by omega)) (by omega) hi0).mono ?_
  rintro e w2 ⟨rfl, hb2⟩
  have hz2 := hb2.size
  replace hr0 := hr0.below hb2 hsz
  replace ho1 := ho1.step hb2
  replace hbl := Below.stepU hbl hsz hb2
  replace hsz := Nat.le_trans hsz hz2
  clear hb2
  go_wp2_with fail
  clear ho1
  refine (toIntS_any _ _ _ _ (hr0.more hsz) (by omega)).mono ?_
  rintro e w3 ⟨g3, rfl, ho3, hb3⟩
  replace ho3 := Owned.mk' ho3
  have hz3 := hb3.size
  replace hr0 := hr0.below hb3 hsz
  replace hbl := Below.stepU hbl hsz hb3
  replace hsz := Nat.le_trans hsz hz3
  clear hb3
  go_wp2_with fail
  refine (impl_WidthFor _ _ _ _ (ho3.reads.more (by omega)) (by omega) hi0).mono ?_
  rintro e w4 ⟨rfl, hb4⟩
  have hz4 := hb4.size
  replace hr0 := hr0.below hb4 hsz
  replace ho3 := ho3.step hb4
  replace hbl := Below.stepU hbl hsz hb4
  replace hsz := Nat.le_trans hsz hz4
  clear hb4
  go_wp2_with fail
  refine (toIntS_any _ _ _ _ (hr0.more hsz) (by omega)).mono ?_
  rintro e w5 ⟨g5, rfl, ho5, hb5⟩
  replace ho5 := Owned.mk' ho5
  have hz5 := hb5.size
  replace hr0 := hr0.below hb5 hsz
  replace ho3 := ho3.step hb5
  replace hbl := Below.stepU hbl hsz hb5
  replace hsz := Nat.le_trans hsz hz5
  clear hb5
  go_wp2_with fail
  refine (eqIntS_same _ _ _ _ _ _ (ho3.reads.more (by omega)) (ho5.reads.more (by omega)) (by omega)).mono ?_
  rintro e w6 ⟨rfl, hb6⟩
  have hz6 := hb6.size
  replace hr0 := hr0.below hb6 hsz
  replace ho3 := ho3.step hb6
  replace ho5 := ho5.step hb6
  replace hbl := Below.stepU hbl hsz hb6
  replace hsz := Nat.le_trans hsz hz6
  clear hb6
  go_wp2_with fail
  clear ho5
  go_ret
  exact ⟨rfl, hbl⟩

end Go.Proofs.Ytbmgfcoiailolaa.fnExactWidthFor
