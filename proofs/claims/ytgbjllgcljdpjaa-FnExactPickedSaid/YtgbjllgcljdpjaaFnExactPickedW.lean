/-
  The walk of the law FnExactPicked: the Go function returns true, and leaves what it was handed as it was.
-/
import Derived.Test.YtgbjllgcljdpjaaPick
namespace Go.Proofs.Ytgbjllgcljdpjaa.fnExactPicked
open Go.RowKit
set_option linter.unusedVariables false

set_option maxRecDepth 100000 in
set_option maxHeartbeats 4000000 in
theorem walk (w : World) (A0 : Option Addr) (c0 : Nat) (a0 : List V) (hc0 : a0.length ≤ c0) (hm0 : c0 ≤ maxLen) (hr0 : Reads w w.heap.size 3 A0 a0.length (valCells a0)) (hi0 : ∀ x ∈ a0, x.ok) (A1 : Option Addr) (c1 : Nat) (a1 : List Int) (hc1 : a1.length ≤ c1) (hm1 : c1 ≤ maxLen) (hr1 : Reads w w.heap.size 1 A1 a1.length (intCells a1)) (hi1 : ∀ x ∈ a1, I64 x) :
    Calls Try.prog 14 #[.slice A0 a0.length c0, .slice A1 a1.length c1] w fun e w' => e = .returned (.bool true) ∧ Below w.heap.size w w' := by
  by_cases hg1 : 1048576 < a1.length
  · have hgm := hm1
    unfold maxLen at hgm
    go_enter Try.func14, Try.ntmps14
    go_wp2
    go_ret
    exact ⟨rfl, Below.refl _ _⟩
  have hsz : w.heap.size ≤ w.heap.size := Nat.le_refl _
  have hbl := Below.refl w.heap.size w
  go_enter Try.func14, Try.ntmps14
  go_wp2_with fail
  have hmx0 : a0.length ≤ maxLen := Nat.le_trans hc0 hm0
  refine (szValS_any _ _ _ _ (hr0.more hsz) hi0 hmx0 1048576 (by omega) (by omega)).mono ?_
  rintro e w1 ⟨l0, rfl, ⟨hl0b0, hl0c⟩, hb1⟩
  have hz1 := hb1.size
  replace hr0 := hr0.below hb1 hsz
  replace hr1 := hr1.below hb1 hsz
  replace hbl := Below.stepU hbl hsz hb1
  replace hsz := Nat.le_trans hsz hz1
  clear hb1
  clear hmx0
  by_cases hneg0 : l0 < 0
  · go_wp2_with fail
    go_ret
    exact ⟨rfl, hbl⟩
  replace hl0c := hl0c (by omega)
  have hl0a : 0 ≤ l0 := by omega
  have hl0b : l0 ≤ 1048576 := by omega
  have hlen0 : a0.length ≤ 1048576 := by omega
  have hlet0 : letters a0 ≤ 1048576 := by omega
  clear hl0c hl0b0 hneg0
  go_wp2_with fail
  have hL1 : (pickedL a0 a1).length ≤ 1048576 := Nat.le_trans (pickedL_len _ _) (by omega)
  refine (toValS_any _ _ _ _ (hr0.more hsz) (by omega)).mono ?_
  rintro e w2 ⟨g2, rfl, ho2, hb2⟩
  replace ho2 := Owned.mk' ho2
  have hz2 := hb2.size
  replace hr0 := hr0.below hb2 hsz
  replace hr1 := hr1.below hb2 hsz
  replace hbl := Below.stepU hbl hsz hb2
  replace hsz := Nat.le_trans hsz hz2
  clear hb2
  go_wp2_with fail
  refine (toIntS_any _ _ _ _ (hr1.more hsz) (by omega)).mono ?_
  rintro e w3 ⟨g3, rfl, ho3, hb3⟩
  replace ho3 := Owned.mk' ho3
  have hz3 := hb3.size
  replace hr0 := hr0.below hb3 hsz
  replace hr1 := hr1.below hb3 hsz
  replace ho2 := ho2.step hb3
  replace hbl := Below.stepU hbl hsz hb3
  replace hsz := Nat.le_trans hsz hz3
  clear hb3
  go_wp2_with fail
  refine (spec_Picked _ _ _ _ (ho2.reads.more (by omega)) (by omega) hi0 _ _ _ (ho3.reads.more (by omega)) (by omega) hi1).mono ?_
  rintro e w4 ⟨A4_, c4_, rfl, hq4, hb4⟩
  replace hq4 := Owned.mk' hq4
  have hz4 := hb4.size
  replace hr0 := hr0.below hb4 hsz
  replace hr1 := hr1.below hb4 hsz
  replace ho2 := ho2.step hb4
  replace ho3 := ho3.step hb4
  replace hbl := Below.stepU hbl hsz hb4
  replace hsz := Nat.le_trans hsz hz4
  clear hb4
  go_wp2_with fail
  clear ho2
  clear ho3
  refine (toValS_any _ _ _ _ (hr0.more hsz) (by omega)).mono ?_
  rintro e w5 ⟨g5, rfl, ho5, hb5⟩
  replace ho5 := Owned.mk' ho5
  have hz5 := hb5.size
  replace hr0 := hr0.below hb5 hsz
  replace hr1 := hr1.below hb5 hsz
  replace hq4 := hq4.step hb5
  replace hbl := Below.stepU hbl hsz hb5
  replace hsz := Nat.le_trans hsz hz5
  clear hb5
  go_wp2_with fail
  refine (toIntS_any _ _ _ _ (hr1.more hsz) (by omega)).mono ?_
  rintro e w6 ⟨g6, rfl, ho6, hb6⟩
  replace ho6 := Owned.mk' ho6
  have hz6 := hb6.size
  replace hr0 := hr0.below hb6 hsz
  replace hr1 := hr1.below hb6 hsz
  replace hq4 := hq4.step hb6
  replace ho5 := ho5.step hb6
  replace hbl := Below.stepU hbl hsz hb6
  replace hsz := Nat.le_trans hsz hz6
  clear hb6
  go_wp2_with fail
  refine (impl_Picked _ _ _ _ (ho5.reads.more (by omega)) (by omega) hi0 _ _ _ (ho6.reads.more (by omega)) (by omega) hi1).mono ?_
  rintro e w7 ⟨A7_, c7_, rfl, hq7, hb7⟩
  replace hq7 := Owned.mk' hq7
  have hz7 := hb7.size
  replace hr0 := hr0.below hb7 hsz
  replace hr1 := hr1.below hb7 hsz
  replace hq4 := hq4.step hb7
  replace ho5 := ho5.step hb7
  replace ho6 := ho6.step hb7
  replace hbl := Below.stepU hbl hsz hb7
  replace hsz := Nat.le_trans hsz hz7
  clear hb7
  go_wp2_with fail
  refine (eqValS_same _ _ _ _ _ _ (hq7.reads.more (by omega)) (hq4.reads.more (by omega)) (by omega)).mono ?_
  rintro e w8 ⟨rfl, hb8⟩
  have hz8 := hb8.size
  replace hr0 := hr0.below hb8 hsz
  replace hr1 := hr1.below hb8 hsz
  replace hq4 := hq4.step hb8
  replace ho5 := ho5.step hb8
  replace ho6 := ho6.step hb8
  replace hq7 := hq7.step hb8
  replace hbl := Below.stepU hbl hsz hb8
  replace hsz := Nat.le_trans hsz hz8
  clear hb8
  go_wp2_with fail
  refine (toValS_any _ _ _ _ (hr0.more hsz) (by omega)).mono ?_
  rintro e w9 ⟨g9, rfl, ho9, hb9⟩
  replace ho9 := Owned.mk' ho9
  have hz9 := hb9.size
  replace hr0 := hr0.below hb9 hsz
  replace hr1 := hr1.below hb9 hsz
  replace hq4 := hq4.step hb9
  replace ho5 := ho5.step hb9
  replace ho6 := ho6.step hb9
  replace hq7 := hq7.step hb9
  replace hbl := Below.stepU hbl hsz hb9
  replace hsz := Nat.le_trans hsz hz9
  clear hb9
  go_wp2_with fail
  refine (eqValS_same _ _ _ _ _ _ (ho5.reads.more (by omega)) (ho9.reads.more (by omega)) (by omega)).mono ?_
  rintro e w10 ⟨rfl, hb10⟩
  have hz10 := hb10.size
  replace hr0 := hr0.below hb10 hsz
  replace hr1 := hr1.below hb10 hsz
  replace hq4 := hq4.step hb10
  replace ho5 := ho5.step hb10
  replace ho6 := ho6.step hb10
  replace hq7 := hq7.step hb10
  replace ho9 := ho9.step hb10
  replace hbl := Below.stepU hbl hsz hb10
  replace hsz := Nat.le_trans hsz hz10
  clear hb10
  go_wp2_with fail
  clear ho9
  refine (toIntS_any _ _ _ _ (hr1.more hsz) (by omega)).mono ?_
  rintro e w11 ⟨g11, rfl, ho11, hb11⟩
  replace ho11 := Owned.mk' ho11
  have hz11 := hb11.size
  replace hr0 := hr0.below hb11 hsz
  replace hr1 := hr1.below hb11 hsz
  replace hq4 := hq4.step hb11
  replace ho5 := ho5.step hb11
  replace ho6 := ho6.step hb11
  replace hq7 := hq7.step hb11
  replace hbl := Below.stepU hbl hsz hb11
  replace hsz := Nat.le_trans hsz hz11
  clear hb11
  go_wp2_with fail
  refine (eqIntS_same _ _ _ _ _ _ (ho6.reads.more (by omega)) (ho11.reads.more (by omega)) (by omega)).mono ?_
  rintro e w12 ⟨rfl, hb12⟩
  have hz12 := hb12.size
  replace hr0 := hr0.below hb12 hsz
  replace hr1 := hr1.below hb12 hsz
  replace hq4 := hq4.step hb12
  replace ho5 := ho5.step hb12
  replace ho6 := ho6.step hb12
  replace hq7 := hq7.step hb12
  replace ho11 := ho11.step hb12
  replace hbl := Below.stepU hbl hsz hb12
  replace hsz := Nat.le_trans hsz hz12
  clear hb12
  go_wp2_with fail
  clear ho11
  refine (markValS_any _ _ _ _ _ _ _ (1) (by omega) (by omega) ho5.1 (by omega)).mono ?_
  rintro e w13 ⟨rfl, hm_, hgm13⟩
  have hz13 := hgm13.size
  replace hr0 := hr0.apart' ho5 hgm13 (by omega) (by omega)
  replace hr1 := hr1.apart' ho5 hgm13 (by omega) (by omega)
  replace hq4 := hq4.apart' ho5 hgm13 (by omega)
  replace ho6 := ho6.apart' ho5 hgm13 (by omega)
  replace hq7 := hq7.apart' ho5 hgm13 (by omega)
  replace hbl := Below.apart' hbl ho5 hgm13 (by omega) (by omega)
  replace hsz := Nat.le_trans hsz hz13
  replace ho5 : Owned _ _ _ _ _ _ _ _ _ := ⟨hm_, ho5.2⟩
  clear hgm13
  go_wp2_with fail
  refine (markIntS_any _ _ _ _ _ _ _ (1 + a0.length * 3) (by omega) (by omega) ho6.1 (by omega)).mono ?_
  rintro e w14 ⟨rfl, hm_, hgm14⟩
  have hz14 := hgm14.size
  replace hr0 := hr0.apart' ho6 hgm14 (by omega) (by omega)
  replace hr1 := hr1.apart' ho6 hgm14 (by omega) (by omega)
  replace hq4 := hq4.apart' ho6 hgm14 (by omega)
  replace ho5 := ho5.apart' ho6 hgm14 (by omega)
  replace hq7 := hq7.apart' ho6 hgm14 (by omega)
  replace hbl := Below.apart' hbl ho6 hgm14 (by omega) (by omega)
  replace hsz := Nat.le_trans hsz hz14
  replace ho6 : Owned _ _ _ _ _ _ _ _ _ := ⟨hm_, ho6.2⟩
  clear hgm14
  go_wp2_with fail
  refine (eqValS_same _ _ _ _ _ _ (hq7.reads.more (by omega)) (hq4.reads.more (by omega)) (by omega)).mono ?_
  rintro e w15 ⟨rfl, hb15⟩
  have hz15 := hb15.size
  replace hr0 := hr0.below hb15 hsz
  replace hr1 := hr1.below hb15 hsz
  replace hq4 := hq4.step hb15
  replace ho5 := ho5.step hb15
  replace ho6 := ho6.step hb15
  replace hq7 := hq7.step hb15
  replace hbl := Below.stepU hbl hsz hb15
  replace hsz := Nat.le_trans hsz hz15
  clear hb15
  go_wp2_with fail
  clear ho5
  clear ho6
  refine (markValS_any _ _ _ _ _ _ _ (1) (by omega) (by omega) hq7.1 (by omega)).mono ?_
  rintro e w16 ⟨rfl, hm_, hgm16⟩
  have hz16 := hgm16.size
  replace hr0 := hr0.apart' hq7 hgm16 (by omega) (by omega)
  replace hr1 := hr1.apart' hq7 hgm16 (by omega) (by omega)
  replace hq4 := hq4.apart' hq7 hgm16 (by omega)
  replace hbl := Below.apart' hbl hq7 hgm16 (by omega) (by omega)
  replace hsz := Nat.le_trans hsz hz16
  replace hq7 : Owned _ _ _ _ _ _ _ _ _ := ⟨hm_, hq7.2⟩
  clear hgm16
  go_wp2_with fail
  refine (heldValS_any _ _ _ _ _ (1) (by omega) (by omega) (hq7.reads.more (by omega))).mono ?_
  rintro e w17 ⟨rfl, hb17⟩
  have hz17 := hb17.size
  replace hr0 := hr0.below hb17 hsz
  replace hr1 := hr1.below hb17 hsz
  replace hq4 := hq4.step hb17
  replace hq7 := hq7.step hb17
  replace hbl := Below.stepU hbl hsz hb17
  replace hsz := Nat.le_trans hsz hz17
  clear hb17
  go_wp2_with fail
  refine (toValS_any _ _ _ _ (hr0.more hsz) (by omega)).mono ?_
  rintro e w18 ⟨g18, rfl, ho18, hb18⟩
  replace ho18 := Owned.mk' ho18
  have hz18 := hb18.size
  replace hr0 := hr0.below hb18 hsz
  replace hr1 := hr1.below hb18 hsz
  replace hq4 := hq4.step hb18
  replace hq7 := hq7.step hb18
  replace hbl := Below.stepU hbl hsz hb18
  replace hsz := Nat.le_trans hsz hz18
  clear hb18
  go_wp2_with fail
  refine (toIntS_any _ _ _ _ (hr1.more hsz) (by omega)).mono ?_
  rintro e w19 ⟨g19, rfl, ho19, hb19⟩
  replace ho19 := Owned.mk' ho19
  have hz19 := hb19.size
  replace hr0 := hr0.below hb19 hsz
  replace hr1 := hr1.below hb19 hsz
  replace hq4 := hq4.step hb19
  replace hq7 := hq7.step hb19
  replace ho18 := ho18.step hb19
  replace hbl := Below.stepU hbl hsz hb19
  replace hsz := Nat.le_trans hsz hz19
  clear hb19
  go_wp2_with fail
  refine (impl_Picked _ _ _ _ (ho18.reads.more (by omega)) (by omega) hi0 _ _ _ (ho19.reads.more (by omega)) (by omega) hi1).mono ?_
  rintro e w20 ⟨A20_, c20_, rfl, hq20, hb20⟩
  replace hq20 := Owned.mk' hq20
  have hz20 := hb20.size
  replace hr0 := hr0.below hb20 hsz
  replace hr1 := hr1.below hb20 hsz
  replace hq4 := hq4.step hb20
  replace hq7 := hq7.step hb20
  replace ho18 := ho18.step hb20
  replace ho19 := ho19.step hb20
  replace hbl := Below.stepU hbl hsz hb20
  replace hsz := Nat.le_trans hsz hz20
  clear hb20
  go_wp2_with fail
  clear ho18
  clear ho19
  refine (eqValS_same _ _ _ _ _ _ (hq20.reads.more (by omega)) (hq4.reads.more (by omega)) (by omega)).mono ?_
  rintro e w21 ⟨rfl, hb21⟩
  have hz21 := hb21.size
  replace hr0 := hr0.below hb21 hsz
  replace hr1 := hr1.below hb21 hsz
  replace hq4 := hq4.step hb21
  replace hq7 := hq7.step hb21
  replace hq20 := hq20.step hb21
  replace hbl := Below.stepU hbl hsz hb21
  replace hsz := Nat.le_trans hsz hz21
  clear hb21
  go_wp2_with fail
  refine (heldValS_any _ _ _ _ _ (1) (by omega) (by omega) (hq7.reads.more (by omega))).mono ?_
  rintro e w22 ⟨rfl, hb22⟩
  have hz22 := hb22.size
  replace hr0 := hr0.below hb22 hsz
  replace hr1 := hr1.below hb22 hsz
  replace hq4 := hq4.step hb22
  replace hq7 := hq7.step hb22
  replace hq20 := hq20.step hb22
  replace hbl := Below.stepU hbl hsz hb22
  replace hsz := Nat.le_trans hsz hz22
  clear hb22
  go_wp2_with fail
  go_ret
  exact ⟨rfl, hbl⟩

end Go.Proofs.Ytgbjllgcljdpjaa.fnExactPicked
