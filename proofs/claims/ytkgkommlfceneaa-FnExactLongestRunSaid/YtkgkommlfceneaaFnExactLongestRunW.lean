/-
  The walk of the law FnExactLongestRun: the Go function returns true, and leaves what it was handed as it was.
-/
import Derived.Test.YtkgkommlfceneaaTurns
namespace Go.Proofs.Ytkgkommlfceneaa.fnExactLongestRun
open Go.RowKit
set_option linter.unusedVariables false

set_option maxRecDepth 100000 in
set_option maxHeartbeats 4000000 in
theorem walk (w : World) (A0 : Option Addr) (c0 : Nat) (a0 : List V) (hc0 : a0.length ≤ c0) (hm0 : c0 ≤ maxLen) (hr0 : Reads w w.heap.size 3 A0 a0.length (valCells a0)) (hi0 : ∀ x ∈ a0, x.ok) :
    Calls Try.prog 6 #[.slice A0 a0.length c0] w fun e w' => e = .returned (.bool true) ∧ Below w.heap.size w w' := by
  have hsz : w.heap.size ≤ w.heap.size := Nat.le_refl _
  have hbl := Below.refl w.heap.size w
  go_enter Try.func6, Try.ntmps6
  go_wp2_with fail
  have hmx0 : a0.length ≤ maxLen := Nat.le_trans hc0 hm0
  refine (szValS_any _ _ _ _ (hr0.more hsz) hi0 hmx0 1048576 (by omega) (by omega)).mono ?_
  rintro e w1 ⟨l0, rfl, ⟨hl0b0, hl0c⟩, hb1⟩
  have hz1 := hb1.size
  replace hr0 := hr0.below hb1 hsz
  replace hbl := Below.stepU hbl hsz hb1
  replace hsz := Nat.le_trans hsz hz1
  clear hb1
  clear hmx0
  by_cases hneg0 : l0 < 0
  · go_wp2_with fail
    go_ret
    exact ⟨rfl, hbl⟩
  replace hl0c := hl0c (by omega)
  have hl0a : 0 ≤ l0 := by omega
  have hl0b : l0 ≤ 1048576 := by omega
  have hlen0 : a0.length ≤ 1048576 := by omega
  have hlet0 : letters a0 ≤ 1048576 := by omega
  clear hl0c hl0b0 hneg0
  go_wp2_with fail
  refine (toValS_any _ _ _ _ (hr0.more hsz) (by omega)).mono ?_
  rintro e w2 ⟨g2, rfl, ho2, hb2⟩
  replace ho2 := Owned.mk' ho2
  have hz2 := hb2.size
  replace hr0 := hr0.below hb2 hsz
  replace hbl := Below.stepU hbl hsz hb2
  replace hsz := Nat.le_trans hsz hz2
  clear hb2
  go_wp2_with fail
  refine (spec_LongestRun _ _ _ _ (ho2.reads.more (by omega)) (by omega) hi0).mono ?_
  rintro e w3 ⟨rfl, hb3⟩
  have hz3 := hb3.size
  replace hr0 := hr0.below hb3 hsz
  replace ho2 := ho2.step hb3
  replace hbl := Below.stepU hbl hsz hb3
  replace hsz := Nat.le_trans hsz hz3
  clear hb3
  go_wp2_with fail
  clear ho2
  refine (toValS_any _ _ _ _ (hr0.more hsz) (by omega)).mono ?_
  rintro e w4 ⟨g4, rfl, ho4, hb4⟩
  replace ho4 := Owned.mk' ho4
  have hz4 := hb4.size
  replace hr0 := hr0.below hb4 hsz
  replace hbl := Below.stepU hbl hsz hb4
  replace hsz := Nat.le_trans hsz hz4
  clear hb4
  go_wp2_with fail
  refine (impl_LongestRun _ _ _ _ (ho4.reads.more (by omega)) (by omega) hi0).mono ?_
  rintro e w5 ⟨rfl, hb5⟩
  have hz5 := hb5.size
  replace hr0 := hr0.below hb5 hsz
  replace ho4 := ho4.step hb5
  replace hbl := Below.stepU hbl hsz hb5
  replace hsz := Nat.le_trans hsz hz5
  clear hb5
  go_wp2_with fail
  refine (toValS_any _ _ _ _ (hr0.more hsz) (by omega)).mono ?_
  rintro e w6 ⟨g6, rfl, ho6, hb6⟩
  replace ho6 := Owned.mk' ho6
  have hz6 := hb6.size
  replace hr0 := hr0.below hb6 hsz
  replace ho4 := ho4.step hb6
  replace hbl := Below.stepU hbl hsz hb6
  replace hsz := Nat.le_trans hsz hz6
  clear hb6
  go_wp2_with fail
  refine (eqValS_same _ _ _ _ _ _ (ho4.reads.more (by omega)) (ho6.reads.more (by omega)) (by omega)).mono ?_
  rintro e w7 ⟨rfl, hb7⟩
  have hz7 := hb7.size
  replace hr0 := hr0.below hb7 hsz
  replace ho4 := ho4.step hb7
  replace ho6 := ho6.step hb7
  replace hbl := Below.stepU hbl hsz hb7
  replace hsz := Nat.le_trans hsz hz7
  clear hb7
  go_wp2_with fail
  clear ho6
  go_ret
  exact ⟨rfl, hbl⟩

end Go.Proofs.Ytkgkommlfceneaa.fnExactLongestRun
