/-
  The walk of the law FnExactFitsCols: the Go function returns true, and leaves what it was handed as it was.
-/
import Derived.Test.YtgbjllgcljdpjaaFits
namespace Go.Proofs.Ytgbjllgcljdpjaa.fnExactFitsCols
open Go.RowKit
set_option linter.unusedVariables false

set_option maxRecDepth 100000 in
set_option maxHeartbeats 4000000 in
theorem walk (w : World) (A0 : Option Addr) (c0 : Nat) (a0 : List Int) (hc0 : a0.length ≤ c0) (hm0 : c0 ≤ maxLen) (hr0 : Reads w w.heap.size 1 A0 a0.length (intCells a0)) (hi0 : ∀ x ∈ a0, I64 x) (A1 : Option Addr) (c1 : Nat) (a1 : List V) (hc1 : a1.length ≤ c1) (hm1 : c1 ≤ maxLen) (hr1 : Reads w w.heap.size 3 A1 a1.length (valCells a1)) (hi1 : ∀ x ∈ a1, x.ok) :
    Calls Try.prog 13 #[.slice A0 a0.length c0, .slice A1 a1.length c1] w fun e w' => e = .returned (.bool true) ∧ Below w.heap.size w w' := by
  by_cases hg0 : 1048576 < a0.length
  · have hgm := hm0
    unfold maxLen at hgm
    go_enter Try.func13, Try.ntmps13
    go_wp2
    go_ret
    exact ⟨rfl, Below.refl _ _⟩
  have hsz : w.heap.size ≤ w.heap.size := Nat.le_refl _
  have hbl := Below.refl w.heap.size w
  go_enter Try.func13, Try.ntmps13
  go_wp2_with fail
  have hmx1 : a1.length ≤ maxLen := Nat.le_trans hc1 hm1
  refine (szValS_any _ _ _ _ (hr1.more hsz) hi1 hmx1 1048576 (by omega) (by omega)).mono ?_
  rintro e w1 ⟨l1, rfl, ⟨hl1b0, hl1c⟩, hb1⟩
  have hz1 := hb1.size
  replace hr0 := hr0.below hb1 hsz
  replace hr1 := hr1.below hb1 hsz
  replace hbl := Below.stepU hbl hsz hb1
  replace hsz := Nat.le_trans hsz hz1
  clear hb1
  clear hmx1
  by_cases hneg1 : l1 < 0
  · go_wp2_with fail
    go_ret
    exact ⟨rfl, hbl⟩
  replace hl1c := hl1c (by omega)
  have hl1a : 0 ≤ l1 := by omega
  have hl1b : l1 ≤ 1048576 := by omega
  have hlen1 : a1.length ≤ 1048576 := by omega
  have hlet1 : letters a1 ≤ 1048576 := by omega
  clear hl1c hl1b0 hneg1
  go_wp2_with fail
  refine (toIntS_any _ _ _ _ (hr0.more hsz) (by omega)).mono ?_
  rintro e w2 ⟨g2, rfl, ho2, hb2⟩
  replace ho2 := Owned.mk' ho2
  have hz2 := hb2.size
  replace hr0 := hr0.below hb2 hsz
  replace hr1 := hr1.below hb2 hsz
  replace hbl := Below.stepU hbl hsz hb2
  replace hsz := Nat.le_trans hsz hz2
  clear hb2
  go_wp2_with fail
  refine (toValS_any _ _ _ _ (hr1.more hsz) (by omega)).mono ?_
  rintro e w3 ⟨g3, rfl, ho3, hb3⟩
  replace ho3 := Owned.mk' ho3
  have hz3 := hb3.size
  replace hr0 := hr0.below hb3 hsz
  replace hr1 := hr1.below hb3 hsz
  replace ho2 := ho2.step hb3
  replace hbl := Below.stepU hbl hsz hb3
  replace hsz := Nat.le_trans hsz hz3
  clear hb3
  go_wp2_with fail
  refine (spec_FitsCols _ _ _ _ (ho2.reads.more (by omega)) (by omega) hi0 _ _ _ (ho3.reads.more (by omega)) (by omega) hi1).mono ?_
  rintro e w4 ⟨rfl, hb4⟩
  have hz4 := hb4.size
  replace hr0 := hr0.below hb4 hsz
  replace hr1 := hr1.below hb4 hsz
  replace ho2 := ho2.step hb4
  replace ho3 := ho3.step hb4
  replace hbl := Below.stepU hbl hsz hb4
  replace hsz := Nat.le_trans hsz hz4
  clear hb4
  go_wp2_with fail
  clear ho2
  clear ho3
  refine (toIntS_any _ _ _ _ (hr0.more hsz) (by omega)).mono ?_
  rintro e w5 ⟨g5, rfl, ho5, hb5⟩
  replace ho5 := Owned.mk' ho5
  have hz5 := hb5.size
  replace hr0 := hr0.below hb5 hsz
  replace hr1 := hr1.below hb5 hsz
  replace hbl := Below.stepU hbl hsz hb5
  replace hsz := Nat.le_trans hsz hz5
  clear hb5
  go_wp2_with fail
  refine (toValS_any _ _ _ _ (hr1.more hsz) (by omega)).mono ?_
  rintro e w6 ⟨g6, rfl, ho6, hb6⟩
  replace ho6 := Owned.mk' ho6
  have hz6 := hb6.size
  replace hr0 := hr0.below hb6 hsz
  replace hr1 := hr1.below hb6 hsz
  replace ho5 := ho5.step hb6
  replace hbl := Below.stepU hbl hsz hb6
  replace hsz := Nat.le_trans hsz hz6
  clear hb6
  go_wp2_with fail
  refine (impl_FitsCols _ _ _ _ (ho5.reads.more (by omega)) (by omega) hi0 _ _ _ (ho6.reads.more (by omega)) (by omega) hi1).mono ?_
  rintro e w7 ⟨rfl, hb7⟩
  have hz7 := hb7.size
  replace hr0 := hr0.below hb7 hsz
  replace hr1 := hr1.below hb7 hsz
  replace ho5 := ho5.step hb7
  replace ho6 := ho6.step hb7
  replace hbl := Below.stepU hbl hsz hb7
  replace hsz := Nat.le_trans hsz hz7
  clear hb7
  go_wp2_with fail
  refine (toIntS_any _ _ _ _ (hr0.more hsz) (by omega)).mono ?_
  rintro e w8 ⟨g8, rfl, ho8, hb8⟩
  replace ho8 := Owned.mk' ho8
  have hz8 := hb8.size
  replace hr0 := hr0.below hb8 hsz
  replace hr1 := hr1.below hb8 hsz
  replace ho5 := ho5.step hb8
  replace ho6 := ho6.step hb8
  replace hbl := Below.stepU hbl hsz hb8
  replace hsz := Nat.le_trans hsz hz8
  clear hb8
  go_wp2_with fail
  refine (eqIntS_same _ _ _ _ _ _ (ho5.reads.more (by omega)) (ho8.reads.more (by omega)) (by omega)).mono ?_
  rintro e w9 ⟨rfl, hb9⟩
  have hz9 := hb9.size
  replace hr0 := hr0.below hb9 hsz
  replace hr1 := hr1.below hb9 hsz
  replace ho5 := ho5.step hb9
  replace ho6 := ho6.step hb9
  replace ho8 := ho8.step hb9
  replace hbl := Below.stepU hbl hsz hb9
  replace hsz := Nat.le_trans hsz hz9
  clear hb9
  go_wp2_with fail
  clear ho8
  refine (toValS_any _ _ _ _ (hr1.more hsz) (by omega)).mono ?_
  rintro e w10 ⟨g10, rfl, ho10, hb10⟩
  replace ho10 := Owned.mk' ho10
  have hz10 := hb10.size
  replace hr0 := hr0.below hb10 hsz
  replace hr1 := hr1.below hb10 hsz
  replace ho5 := ho5.step hb10
  replace ho6 := ho6.step hb10
  replace hbl := Below.stepU hbl hsz hb10
  replace hsz := Nat.le_trans hsz hz10
  clear hb10
  go_wp2_with fail
  refine (eqValS_same _ _ _ _ _ _ (ho6.reads.more (by omega)) (ho10.reads.more (by omega)) (by omega)).mono ?_
  rintro e w11 ⟨rfl, hb11⟩
  have hz11 := hb11.size
  replace hr0 := hr0.below hb11 hsz
  replace hr1 := hr1.below hb11 hsz
  replace ho5 := ho5.step hb11
  replace ho6 := ho6.step hb11
  replace ho10 := ho10.step hb11
  replace hbl := Below.stepU hbl hsz hb11
  replace hsz := Nat.le_trans hsz hz11
  clear hb11
  go_wp2_with fail
  clear ho10
  go_ret
  exact ⟨rfl, hbl⟩

end Go.Proofs.Ytgbjllgcljdpjaa.fnExactFitsCols
