/-
  The walk of the law FnExactSameVals: the Go function returns true, and leaves what it was handed as it was.
-/
import Derived.Test.YtgbjllgcljdpjaaVlist
namespace Go.Proofs.Ytgbjllgcljdpjaa.fnExactSameVals
open Go.RowKit
set_option linter.unusedVariables false

set_option maxRecDepth 100000 in
set_option maxHeartbeats 4000000 in
theorem walk (w : World) (A0 : Option Addr) (c0 : Nat) (a0 : List V) (hc0 : a0.length ≤ c0) (hm0 : c0 ≤ maxLen) (hr0 : Reads w w.heap.size 3 A0 a0.length (valCells a0)) (hi0 : ∀ x ∈ a0, x.ok) (A1 : Option Addr) (c1 : Nat) (a1 : List V) (hc1 : a1.length ≤ c1) (hm1 : c1 ≤ maxLen) (hr1 : Reads w w.heap.size 3 A1 a1.length (valCells a1)) (hi1 : ∀ x ∈ a1, x.ok) :
    Calls Try.prog 6 #[.slice A0 a0.length c0, .slice A1 a1.length c1] w fun e w' => e = .returned (.bool true) ∧ Below w.heap.size w w' := by
  have hsz : w.heap.size ≤ w.heap.size := Nat.le_refl _
  have hbl := Below.refl w.heap.size w
  go_enter Try.func6, Try.ntmps6
  go_wp2_with fail
  have hmx0 : a0.length ≤ maxLen := Nat.le_trans hc0 hm0
  refine (szValS_any _ _ _ _ (hr0.more hsz) hi0 hmx0 1048576 (by omega) (by omega)).mono ?_
  rintro e w1 ⟨l0, rfl, ⟨hl0b0, hl0c⟩, hb1⟩
  have hz1 := hb1.size
  replace hr0 := hr0.below hb1 hsz
  replace hr1 := hr1.below hb1 hsz
  replace hbl := Below.stepU hbl hsz hb1
  replace hsz := Nat.le_trans hsz hz1
  clear hb1
  clear hmx0
  by_cases hneg0 : l0 < 0
  · go_wp2_with fail
    go_ret
    exact ⟨rfl, hbl⟩
  replace hl0c := hl0c (by omega)
  have hl0a : 0 ≤ l0 := by omega
  have hl0b : l0 ≤ 1048576 := by omega
  have hlen0 : a0.length ≤ 1048576 := by omega
  have hlet0 : letters a0 ≤ 1048576 := by omega
  clear hl0c hl0b0 hneg0
  go_wp2_with fail
  have hmx1 : a1.length ≤ maxLen := Nat.le_trans hc1 hm1
  refine (szValS_any _ _ _ _ (hr1.more hsz) hi1 hmx1 l0 (by omega) (by omega)).mono ?_
  rintro e w2 ⟨l1, rfl, ⟨hl1b0, hl1c⟩, hb2⟩
  have hz2 := hb2.size
  replace hr0 := hr0.below hb2 hsz
  replace hr1 := hr1.below hb2 hsz
  replace hbl := Below.stepU hbl hsz hb2
  replace hsz := Nat.le_trans hsz hz2
  clear hb2
  clear hmx1
  by_cases hneg1 : l1 < 0
  · go_wp2_with fail
    go_ret
    exact ⟨rfl, hbl⟩
  replace hl1c := hl1c (by omega)
  have hl1a : 0 ≤ l1 := by omega
  have hl1b : l1 ≤ 1048576 := by omega
  have hlen1 : a1.length ≤ 1048576 := by omega
  have hlet1 : letters a1 ≤ 1048576 := by omega
  clear hl1c hl1b0 hneg1
  go_wp2_with fail
  refine (toValS_any _ _ _ _ (hr0.more hsz) (by omega)).mono ?_
  rintro e w3 ⟨g3, rfl, ho3, hb3⟩
  replace ho3 := Owned.mk' ho3
  have hz3 := hb3.size
  replace hr0 := hr0.below hb3 hsz
  replace hr1 := hr1.below hb3 hsz
  replace hbl := Below.stepU hbl hsz hb3
  replace hsz := Nat.le_trans hsz hz3
  clear hb3
  go_wp2_with fail
  refine (toValS_any _ _ _ _ (hr1.more hsz) (by omega)).mono ?_
  rintro e w4 ⟨g4, rfl, ho4, hb4⟩
  replace ho4 := Owned.mk' ho4
  have hz4 := hb4.size
  replace hr0 := hr0.below hb4 hsz
  replace hr1 := hr1.below hb4 hsz
  replace ho3 := ho3.step hb4
  replace hbl := Below.stepU hbl hsz hb4
  replace hsz := Nat.le_trans hsz hz4
  clear hb4
  go_wp2_with fail
  refine (spec_SameVals _ _ _ _ (ho3.reads.more (by omega)) (by omega) hi0 _ _ _ (ho4.reads.more (by omega)) (by omega) hi1).mono ?_
  rintro e w5 ⟨rfl, hb5⟩
  have hz5 := hb5.size
  replace hr0 := hr0.below hb5 hsz
  replace hr1 := hr1.below hb5 hsz
  replace ho3 := ho3.step hb5
  replace ho4 := ho4.step hb5
  replace hbl := Below.stepU hbl hsz hb5
  replace hsz := Nat.le_trans hsz hz5
  clear hb5
  go_wp2_with fail
  clear ho3
  clear ho4
  refine (toValS_any _ _ _ _ (hr0.more hsz) (by omega)).mono ?_
  rintro e w6 ⟨g6, rfl, ho6, hb6⟩
  replace ho6 := Owned.mk' ho6
  have hz6 := hb6.size
  replace hr0 := hr0.below hb6 hsz
  replace hr1 := hr1.below hb6 hsz
  replace hbl := Below.stepU hbl hsz hb6
  replace hsz := Nat.le_trans hsz hz6
  clear hb6
  go_wp2_with fail
  refine (toValS_any _ _ _ _ (hr1.more hsz) (by omega)).mono ?_
  rintro e w7 ⟨g7, rfl, ho7, hb7⟩
  replace ho7 := Owned.mk' ho7
  have hz7 := hb7.size
  replace hr0 := hr0.below hb7 hsz
  replace hr1 := hr1.below hb7 hsz
  replace ho6 := ho6.step hb7
  replace hbl := Below.stepU hbl hsz hb7
  replace hsz := Nat.le_trans hsz hz7
  clear hb7
  go_wp2_with fail
  refine (impl_SameVals _ _ _ _ (ho6.reads.more (by omega)) (by omega) hi0 _ _ _ (ho7.reads.more (by omega)) (by omega) hi1).mono ?_
  rintro e w8 ⟨rfl, hb8⟩
  have hz8 := hb8.size
  replace hr0 := hr0.below hb8 hsz
  replace hr1 := hr1.below hb8 hsz
  replace ho6 := ho6.step hb8
  replace ho7 := ho7.step hb8
  replace hbl := Below.stepU hbl hsz hb8
  replace hsz := Nat.le_trans hsz hz8
  clear hb8
  go_wp2_with fail
  refine (toValS_any _ _ _ _ (hr0.more hsz) (by omega)).mono ?_
  rintro e w9 ⟨g9, rfl, ho9, hb9⟩
  replace ho9 := Owned.mk' ho9
  have hz9 := hb9.size
  replace hr0 := hr0.below hb9 hsz
  replace hr1 := hr1.below hb9 hsz
  replace ho6 := ho6.step hb9
  replace ho7 := ho7.step hb9
  replace hbl := Below.stepU hbl hsz hb9
  replace hsz := Nat.le_trans hsz hz9
  clear hb9
  go_wp2_with fail
  refine (eqValS_same _ _ _ _ _ _ (ho6.reads.more (by omega)) (ho9.reads.more (by omega)) (by omega)).mono ?_
  rintro e w10 ⟨rfl, hb10⟩
  have hz10 := hb10.size
  replace hr0 := hr0.below hb10 hsz
  replace hr1 := hr1.below hb10 hsz
  replace ho6 := ho6.step hb10
  replace ho7 := ho7.step hb10
  replace ho9 := ho9.step hb10
  replace hbl := Below.stepU hbl hsz hb10
  replace hsz := Nat.le_trans hsz hz10
  clear hb10
  go_wp2_with fail
  clear ho9
  refine (toValS_any _ _ _ _ (hr1.more hsz) (by omega)).mono ?_
  rintro e w11 ⟨g11, rfl, ho11, hb11⟩
  replace ho11 := Owned.mk' ho11
  have hz11 := hb11.size
  replace hr0 := hr0.below hb11 hsz
  replace hr1 := hr1.below hb11 hsz
  replace ho6 := ho6.step hb11
  replace ho7 := ho7.step hb11
  replace hbl := Below.stepU hbl hsz hb11
  replace hsz := Nat.le_trans hsz hz11
  clear hb11
  go_wp2_with fail
  refine (eqValS_same _ _ _ _ _ _ (ho7.reads.more (by omega)) (ho11.reads.more (by omega)) (by omega)).mono ?_
  rintro e w12 ⟨rfl, hb12⟩
  have hz12 := hb12.size
  replace hr0 := hr0.below hb12 hsz
  replace hr1 := hr1.below hb12 hsz
  replace ho6 := ho6.step hb12
  replace ho7 := ho7.step hb12
  replace ho11 := ho11.step hb12
  replace hbl := Below.stepU hbl hsz hb12
  replace hsz := Nat.le_trans hsz hz12
  clear hb12
  go_wp2_with fail
  clear ho11
  go_ret
  exact ⟨rfl, hbl⟩

end Go.Proofs.Ytgbjllgcljdpjaa.fnExactSameVals
