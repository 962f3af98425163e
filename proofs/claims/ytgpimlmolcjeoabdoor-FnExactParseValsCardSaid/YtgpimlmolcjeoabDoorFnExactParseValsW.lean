/-
  The walk of the law FnExactParseVals: the Go function returns true, and leaves what it was handed as it was.
-/
import Derived.Test.YtgpimlmolcjeoabDoorPvals
namespace Go.Proofs.YtgpimlmolcjeoabDoor.fnExactParseVals
open Go.RowKit
set_option linter.unusedVariables false
set_option maxRecDepth 100000
set_option maxHeartbeats 4000000 in
theorem walk (w : World) (a0 : ByteArray) (ha0 : a0.size ≤ maxLen) (hL : laidMet Tryd.prog Rows.fnExactParseValsRow.laid w) (hM : MaxL w) :
    Calls Tryd.prog 3 #[.string a0] w fun e w' => e = .returned (.bool true) ∧ Below w.heap.size w w' := by
  have hT : Tab w := tab_of hL
  have hE : Errs w := errs_of_tail hL.tail.tail.tail.tail
  clear hL
  unfold maxLen at ha0
  by_cases hg : 1048576 < a0.size
  · go_enter Tryd.func3, Tryd.ntmps3
    go_wp2
    go_ret
    exact ⟨rfl, Below.refl _ _⟩
  have hlen : (pvsL a0).length ≤ 1048577 := Nat.le_trans (pvsL_len a0) (by omega)
  have hbl := Below.refl w.heap.size w
  have hsz : w.heap.size ≤ w.heap.size := Nat.le_refl _
  obtain ⟨ok, hok⟩ : ∃ ok, Hid (pvsOk a0 = ok) := ⟨_, Lib.hid rfl⟩
  go_enter Tryd.func3, Tryd.ntmps3
  go_wp2_with fail
  refine (spec_ParseVals _ a0 (by omega)).mono ?_
  rintro e w1 ⟨A1, c1, rfl, ho1, hb1⟩
  replace ho1 := Owned.mk' ho1
  have hz1 := hb1.size
  replace hbl := Below.stepU hbl hsz hb1
  replace hsz := Nat.le_trans hsz hz1
  clear hb1
  go_wp2_with fail
  refine (impl_ParseVals _ a0 (by omega) (hT.below hbl) (hE.below hbl) (hM.below hbl)).mono ?_
  rintro e w2 ⟨A2, c2, rfl, ho2, hb2⟩
  replace ho2 := Owned.mk' ho2
  have hz2 := hb2.size
  replace ho1 := ho1.step hb2
  replace hbl := Below.stepU hbl hsz hb2
  replace hsz := Nat.le_trans hsz hz2
  clear hb2
  go_wp2_with fail
  refine (eqValS_same _ _ _ _ _ _ (ho2.reads.more (by omega)) (ho1.reads.more (by omega)) (by omega)).mono ?_
  rintro e w3 ⟨rfl, hb3⟩
  have hz3 := hb3.size
  replace ho1 := ho1.step hb3
  replace ho2 := ho2.step hb3
  replace hbl := Below.stepU hbl hsz hb3
  replace hsz := Nat.le_trans hsz hz3
  clear hb3
  go_wp2_with fail
  refine (markValS_any _ _ _ _ _ _ _ 1 (by omega) (by omega) ho2.1 (by omega)).mono ?_
  rintro e w4 ⟨rfl, hm_, hgm4⟩
  have hz4 := hgm4.size
  replace ho1 := ho1.apart' ho2 hgm4 (by omega)
  replace hbl := Below.apart' hbl ho2 hgm4 (by omega) (by omega)
  replace hsz := Nat.le_trans hsz hz4
  replace ho2 : Owned _ _ _ _ _ _ _ _ _ := ⟨hm_, ho2.2⟩
  clear hgm4
  go_wp2_with fail
  refine (heldValS_any _ _ _ _ _ 1 (by omega) (by omega) (ho2.reads.more (by omega))).mono ?_
  rintro e w5 ⟨rfl, hb5⟩
  have hz5 := hb5.size
  replace ho1 := ho1.step hb5
  replace ho2 := ho2.step hb5
  replace hbl := Below.stepU hbl hsz hb5
  replace hsz := Nat.le_trans hsz hz5
  clear hb5
  go_wp2_with fail
  refine (impl_ParseVals _ a0 (by omega) (hT.below hbl) (hE.below hbl) (hM.below hbl)).mono ?_
  rintro e w6 ⟨A6, c6, rfl, ho6, hb6⟩
  replace ho6 := Owned.mk' ho6
  have hz6 := hb6.size
  replace ho1 := ho1.step hb6
  replace ho2 := ho2.step hb6
  replace hbl := Below.stepU hbl hsz hb6
  replace hsz := Nat.le_trans hsz hz6
  clear hb6
  go_wp2_with fail
  refine (eqValS_same _ _ _ _ _ _ (ho6.reads.more (by omega)) (ho1.reads.more (by omega)) (by omega)).mono ?_
  rintro e w7 ⟨rfl, hb7⟩
  have hz7 := hb7.size
  replace ho1 := ho1.step hb7
  replace ho2 := ho2.step hb7
  replace ho6 := ho6.step hb7
  replace hbl := Below.stepU hbl hsz hb7
  replace hsz := Nat.le_trans hsz hz7
  clear hb7
  go_wp2_with fail
  refine (heldValS_any _ _ _ _ _ 1 (by omega) (by omega) (ho2.reads.more (by omega))).mono ?_
  rintro e w8 ⟨rfl, hb8⟩
  have hz8 := hb8.size
  replace ho1 := ho1.step hb8
  replace ho2 := ho2.step hb8
  replace ho6 := ho6.step hb8
  replace hbl := Below.stepU hbl hsz hb8
  replace hsz := Nat.le_trans hsz hz8
  clear hb8
  go_wp2_with fail
  go_ret
  exact ⟨rfl, hbl⟩

end Go.Proofs.YtgpimlmolcjeoabDoor.fnExactParseVals
