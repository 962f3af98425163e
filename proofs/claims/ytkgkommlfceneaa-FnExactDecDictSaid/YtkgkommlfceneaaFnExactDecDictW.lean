/-
  The walk of the law FnExactDecDict: the Go function returns true, and leaves what it was handed as it was.
-/
import Derived.Test.YtkgkommlfceneaaDecds
namespace Go.Proofs.Ytkgkommlfceneaa.fnExactDecDict
open Go.RowKit
set_option linter.unusedVariables false

set_option maxRecDepth 100000 in
set_option maxHeartbeats 4000000 in
theorem walk (w : World) (A0 : Option Addr) (c0 : Nat) (a0 : List UInt8) (hc0 : a0.length ≤ c0) (hm0 : c0 ≤ maxLen) (hr0 : Reads w w.heap.size 1 A0 a0.length (byteCells a0)) (a1 : Int) (ha1 : I64 a1) (a2 : Int) (ha2 : I64 a2) :
    Calls Try.prog 4 #[.slice A0 a0.length c0, .int .i64 a1, .int .i64 a2] w fun e w' => e = .returned (.bool true) ∧ Below w.heap.size w w' := by
  by_cases hg0 : 1048576 < a0.length
  · have hgm := hm0
    unfold maxLen at hgm
    go_enter Try.func4, Try.ntmps4
    go_wp2
    go_ret
    exact ⟨rfl, Below.refl _ _⟩
  have hsz : w.heap.size ≤ w.heap.size := Nat.le_refl _
  have hbl := Below.refl w.heap.size w
  go_enter Try.func4, Try.ntmps4
  go_wp2_with fail
  have hL1 : (ddL a0 a1 a2).length ≤ 1048576 := Nat.le_trans (ddL_len _ _ _) (by omega)
  refine (toByteS_any _ _ _ _ (hr0.more hsz) (by omega)).mono ?_
  rintro e w1 ⟨g1, rfl, ho1, hb1⟩
  replace ho1 := Owned.mk' ho1
  have hz1 := hb1.size
  replace hr0 := hr0.below hb1 hsz
  replace hbl := Below.stepU hbl hsz hb1
  replace hsz := Nat.le_trans hsz hz1
  clear hb1
  go_wp2_with fail
  refine (spec_DecDict _ _ _ _ (ho1.reads.more (by omega)) (by omega) (own_cap ho1.1) (own_aform ho1.1) _ ha1 _ ha2).mono ?_
  rintro e w2 ⟨A2_, c2_, rfl, hq2, hb2⟩
  replace hq2 := Owned.mk' hq2
  have hz2 := hb2.size
  replace hr0 := hr0.below hb2 hsz
  replace ho1 := ho1.step hb2
  replace hbl := Below.stepU hbl hsz hb2
  replace hsz := Nat.le_trans hsz hz2
  clear hb2
  go_wp2_with fail
  clear ho1
  refine (toByteS_any _ _ _ _ (hr0.more hsz) (by omega)).mono ?_
  rintro e w3 ⟨g3, rfl, ho3, hb3⟩
  replace ho3 := Owned.mk' ho3
  have hz3 := hb3.size
  replace hr0 := hr0.below hb3 hsz
  replace hq2 := hq2.step hb3
  replace hbl := Below.stepU hbl hsz hb3
  replace hsz := Nat.le_trans hsz hz3
  clear hb3
  go_wp2_with fail
  refine (impl_DecDict _ _ _ _ (ho3.reads.more (by omega)) (by omega) (own_cap ho3.1) (own_aform ho3.1) _ ha1 _ ha2).mono ?_
  rintro e w4 ⟨A4_, c4_, rfl, hq4, hb4⟩
  replace hq4 := Owned.mk' hq4
  have hz4 := hb4.size
  replace hr0 := hr0.below hb4 hsz
  replace hq2 := hq2.step hb4
  replace ho3 := ho3.step hb4
  replace hbl := Below.stepU hbl hsz hb4
  replace hsz := Nat.le_trans hsz hz4
  clear hb4
  go_wp2_with fail
  refine (eqValS_same _ _ _ _ _ _ (hq4.reads.more (by omega)) (hq2.reads.more (by omega)) (by omega)).mono ?_
  rintro e w5 ⟨rfl, hb5⟩
  have hz5 := hb5.size
  replace hr0 := hr0.below hb5 hsz
  replace hq2 := hq2.step hb5
  replace ho3 := ho3.step hb5
  replace hq4 := hq4.step hb5
  replace hbl := Below.stepU hbl hsz hb5
  replace hsz := Nat.le_trans hsz hz5
  clear hb5
  go_wp2_with fail
  refine (toByteS_any _ _ _ _ (hr0.more hsz) (by omega)).mono ?_
  rintro e w6 ⟨g6, rfl, ho6, hb6⟩
  replace ho6 := Owned.mk' ho6
  have hz6 := hb6.size
  replace hr0 := hr0.below hb6 hsz
  replace hq2 := hq2.step hb6
  replace ho3 := ho3.step hb6
  replace hq4 := hq4.step hb6
  replace hbl := Below.stepU hbl hsz hb6
  replace hsz := Nat.le_trans hsz hz6
  clear hb6
  go_wp2_with fail
  refine (eqByteS_same _ _ _ _ _ _ (ho3.reads.more (by omega)) (ho6.reads.more (by omega)) (by omega)).mono ?_
  rintro e w7 ⟨rfl, hb7⟩
  have hz7 := hb7.size
  replace hr0 := hr0.below hb7 hsz
  replace hq2 := hq2.step hb7
  replace ho3 := ho3.step hb7
  replace hq4 := hq4.step hb7
  replace ho6 := ho6.step hb7
  replace hbl := Below.stepU hbl hsz hb7
  replace hsz := Nat.le_trans hsz hz7
  clear hb7
  go_wp2_with fail
  clear ho6
  refine (markByteS_any _ _ _ _ _ _ _ (1) (by omega) (by omega) ho3.1 (by omega)).mono ?_
  rintro e w8 ⟨rfl, hm_, hgm8⟩
  have hz8 := hgm8.size
  replace hr0 := hr0.apart' ho3 hgm8 (by omega) (by omega)
  replace hq2 := hq2.apart' ho3 hgm8 (by omega)
  replace hq4 := hq4.apart' ho3 hgm8 (by omega)
  replace hbl := Below.apart' hbl ho3 hgm8 (by omega) (by omega)
  replace hsz := Nat.le_trans hsz hz8
  replace ho3 : Owned _ _ _ _ _ _ _ _ _ := ⟨hm_, ho3.2⟩
  clear hgm8
  go_wp2_with fail
  refine (eqValS_same _ _ _ _ _ _ (hq4.reads.more (by omega)) (hq2.reads.more (by omega)) (by omega)).mono ?_
  rintro e w9 ⟨rfl, hb9⟩
  have hz9 := hb9.size
  replace hr0 := hr0.below hb9 hsz
  replace hq2 := hq2.step hb9
  replace ho3 := ho3.step hb9
  replace hq4 := hq4.step hb9
  replace hbl := Below.stepU hbl hsz hb9
  replace hsz := Nat.le_trans hsz hz9
  clear hb9
  go_wp2_with fail
  clear ho3
  refine (markValS_any _ _ _ _ _ _ _ (1) (by omega) (by omega) hq4.1 (by omega)).mono ?_
  rintro e w10 ⟨rfl, hm_, hgm10⟩
  have hz10 := hgm10.size
  replace hr0 := hr0.apart' hq4 hgm10 (by omega) (by omega)
  replace hq2 := hq2.apart' hq4 hgm10 (by omega)
  replace hbl := Below.apart' hbl hq4 hgm10 (by omega) (by omega)
  replace hsz := Nat.le_trans hsz hz10
  replace hq4 : Owned _ _ _ _ _ _ _ _ _ := ⟨hm_, hq4.2⟩
  clear hgm10
  go_wp2_with fail
  refine (heldValS_any _ _ _ _ _ (1) (by omega) (by omega) (hq4.reads.more (by omega))).mono ?_
  rintro e w11 ⟨rfl, hb11⟩
  have hz11 := hb11.size
  replace hr0 := hr0.below hb11 hsz
  replace hq2 := hq2.step hb11
  replace hq4 := hq4.step hb11
  replace hbl := Below.stepU hbl hsz hb11
  replace hsz := Nat.le_trans hsz hz11
  clear hb11
  go_wp2_with fail
  refine (toByteS_any _ _ _ _ (hr0.more hsz) (by omega)).mono ?_
  rintro e w12 ⟨g12, rfl, ho12, hb12⟩
  replace ho12 := Owned.mk' ho12
  have hz12 := hb12.size
  replace hr0 := hr0.below hb12 hsz
  replace hq2 := hq2.step hb12
  replace hq4 := hq4.step hb12
  replace hbl := Below.stepU hbl hsz hb12
  replace hsz := Nat.le_trans hsz hz12
  clear hb12
  go_wp2_with fail
  refine (impl_DecDict _ _ _ _ (ho12.reads.more (by omega)) (by omega) (own_cap ho12.1) (own_aform ho12.1) _ ha1 _ ha2).mono ?_
  rintro e w13 ⟨A13_, c13_, rfl, hq13, hb13⟩
  replace hq13 := Owned.mk' hq13
  have hz13 := hb13.size
  replace hr0 := hr0.below hb13 hsz
  replace hq2 := hq2.step hb13
  replace hq4 := hq4.step hb13
  replace ho12 := ho12.step hb13
  replace hbl := Below.stepU hbl hsz hb13
  replace hsz := Nat.le_trans hsz hz13
  clear hb13
  go_wp2_with fail
  clear ho12
  refine (eqValS_same _ _ _ _ _ _ (hq13.reads.more (by omega)) (hq2.reads.more (by omega)) (by omega)).mono ?_
  rintro e w14 ⟨rfl, hb14⟩
  have hz14 := hb14.size
  replace hr0 := hr0.below hb14 hsz
  replace hq2 := hq2.step hb14
  replace hq4 := hq4.step hb14
  replace hq13 := hq13.step hb14
  replace hbl := Below.stepU hbl hsz hb14
  replace hsz := Nat.le_trans hsz hz14
  clear hb14
  go_wp2_with fail
  refine (heldValS_any _ _ _ _ _ (1) (by omega) (by omega) (hq4.reads.more (by omega))).mono ?_
  rintro e w15 ⟨rfl, hb15⟩
  have hz15 := hb15.size
  replace hr0 := hr0.below hb15 hsz
  replace hq2 := hq2.step hb15
  replace hq4 := hq4.step hb15
  replace hq13 := hq13.step hb15
  replace hbl := Below.stepU hbl hsz hb15
  replace hsz := Nat.le_trans hsz hz15
  clear hb15
  go_wp2_with fail
  go_ret
  exact ⟨rfl, hbl⟩

end Go.Proofs.Ytkgkommlfceneaa.fnExactDecDict
