/-
  The walk of the law FnExactPlaces: the Go function returns true, and leaves what it was handed as it was.
-/
import Derived.Test.YtckfogpjljbelaaPlaces
namespace Go.Proofs.Ytckfogpjljbelaa.fnExactPlaces
open Go.RowKit
set_option linter.unusedVariables false

set_option maxRecDepth 100000 in
set_option maxHeartbeats 4000000 in
theorem walk (w : World) (A0 : Option Addr) (c0 : Nat) (a0 : List V) (hc0 : a0.length ≤ c0) (hm0 : c0 ≤ maxLen) (hr0 : Reads w w.heap.size 3 A0 a0.length (valCells a0)) (hi0 : ∀ x ∈ a0, x.ok) (A1 : Option Addr) (c1 : Nat) (a1 : List V) (hc1 : a1.length ≤ c1) (hm1 : c1 ≤ maxLen) (hr1 : Reads w w.heap.size 3 A1 a1.length (valCells a1)) (hi1 : ∀ x ∈ a1, x.ok) :
    Calls Try.prog 4 #[.slice A0 a0.length c0, .slice A1 a1.length c1] w fun e w' => e = .returned (.bool true) ∧ Below w.heap.size w w' := by
  have hsz : w.heap.size ≤ w.heap.size := Nat.le_refl _
  have hbl := Below.refl w.heap.size w
  go_enter Try.func4, Try.ntmps4
  go_wp2_with fail
  have hmx0 : a0.length ≤ maxLen := Nat.le_trans hc0 hm0
  refine (szValS_any _ _ _ _ (hr0.more hsz) hi0 hmx0 1048576 (by omega) (by omega)).mono ?_
  rintro e w1 ⟨l0, rfl, ⟨hl0b0, hl0c⟩, hb1⟩
  have hz1 := hb1.size
  replace hr0 := hr0.below hb1 hsz
  replace hr1 := hr1.below hb1 hsz
  replace hbl := Below.stepU hbl hsz hb1
  replace hsz := Nat.le_trans hsz hz1
  clear hb1
  clear hmx0
  by_cases hneg0 : l0 < 0
  · go_wp2_with fail
    go_ret
    exact ⟨rfl, hbl⟩
  replace hl0c := hl0c (by omega)
  have hl0a : 0 ≤ l0 := by omega
  have hl0b : l0 ≤ 1048576 := by omega
  have hlen0 : a0.length ≤ 1048576 := by omega
  have hlet0 : letters a0 ≤ 1048576 := by omega
  clear hl0c hl0b0 hneg0
  go_wp2_with fail
  have hmx1 : a1.length ≤ maxLen := Nat.le_trans hc1 hm1
  refine (szValS_any _ _ _ _ (hr1.more hsz) hi1 hmx1 l0 (by omega) (by omega)).mono ?_
  rintro e w2 ⟨l1, rfl, ⟨hl1b0, hl1c⟩, hb2⟩
  have hz2 := hb2.size
  replace hr0 := hr0.below hb2 hsz
  replace hr1 := hr1.below hb2 hsz
  replace hbl := Below.stepU hbl hsz hb2
  replace hsz := Nat.le_trans hsz hz2
  clear hb2
  clear hmx1
  by_cases hneg1 : l1 < 0
  · go_wp2_with fail
    go_ret
    exact ⟨rfl, hbl⟩
  replace hl1c := hl1c (by omega)
  have hl1a : 0 ≤ l1 := by omega
  have hl1b : l1 ≤ 1048576 := by omega
  have hlen1 : a1.length ≤ 1048576 := by omega
  have hlet1 : letters a1 ≤ 1048576 := by omega
  clear hl1c hl1b0 hneg1
  go_wp2_with fail
  have hL1 : (placeL a0 a1).length ≤ 1048576 := Nat.le_trans (placeL_len _ _) (by omega)
  refine (toValS_any _ _ _ _ (hr0.more hsz) (by omega)).mono ?_
  rintro e w3 ⟨g3, rfl, ho3, hb3⟩
  replace ho3 := Owned.mk' ho3
  have hz3 := hb3.size
  replace hr0 := hr0.below hb3 hsz
  replace hr1 := hr1.below hb3 hsz
  replace hbl := Below.stepU hbl hsz hb3
  replace hsz := Nat.le_trans hsz hz3
  clear hb3
  go_wp2_with fail
  refine (toValS_any _ _ _ _ (hr1.more hsz) (by omega)).mono ?_
  rintro e w4 ⟨g4, rfl, ho4, hb4⟩
  replace ho4 := Owned.mk' ho4
  have hz4 := hb4.size
  replace hr0 := hr0.below hb4 hsz
  replace hr1 := hr1.below hb4 hsz
  replace ho3 := ho3.step hb4
  replace hbl := Below.stepU hbl hsz hb4
  replace hsz := Nat.le_trans hsz hz4
  clear hb4
  go_wp2_with fail
  refine (spec_Places _ _ _ _ (ho3.reads.more (by omega)) (by omega) hi0 _ _ _ (ho4.reads.more (by omega)) (by omega) hi1).mono ?_
  rintro e w5 ⟨A5_, c5_, rfl, hq5, hb5⟩
  replace hq5 := Owned.mk' hq5
  have hz5 := hb5.size
  replace hr0 := hr0.below hb5 hsz
  replace hr1 := hr1.below hb5 hsz
  replace ho3 := ho3.step hb5
  replace ho4 := ho4.step hb5
  replace hbl := Below.stepU hbl hsz hb5
  replace hsz := Nat.le_trans hsz hz5
  clear hb5
  go_wp2_with fail
  clear ho3
  clear ho4
  refine (toValS_any _ _ _ _ (hr0.more hsz) (by omega)).mono ?_
  rintro e w6 ⟨g6, rfl, ho6, hb6⟩
  replace ho6 := Owned.mk' ho6
  have hz6 := hb6.size
  replace hr0 := hr0.below hb6 hsz
  replace hr1 := hr1.below hb6 hsz
  replace hq5 := hq5.step hb6
  replace hbl := Below.stepU hbl hsz hb6
  replace hsz := Nat.le_trans hsz hz6
  clear hb6
  go_wp2_with fail
  refine (toValS_any _ _ _ _ (hr1.more hsz) (by omega)).mono ?_
  rintro e w7 ⟨g7, rfl, ho7, hb7⟩
  replace ho7 := Owned.mk' ho7
  have hz7 := hb7.size
  replace hr0 := hr0.below hb7 hsz
  replace hr1 := hr1.below hb7 hsz
  replace hq5 := hq5.step hb7
  replace ho6 := ho6.step hb7
  replace hbl := Below.stepU hbl hsz hb7
  replace hsz := Nat.le_trans hsz hz7
  clear hb7
  go_wp2_with fail
  refine (impl_Places _ _ _ _ (ho6.reads.more (by omega)) (by omega) hi0 _ _ _ (ho7.reads.more (by omega)) (by omega) hi1).mono ?_
  rintro e w8 ⟨A8_, c8_, rfl, hq8, hb8⟩
  replace hq8 := Owned.mk' hq8
  have hz8 := hb8.size
  replace hr0 := hr0.below hb8 hsz
  replace hr1 := hr1.below hb8 hsz
  replace hq5 := hq5.step hb8
  replace ho6 := ho6.step hb8
  replace ho7 := ho7.step hb8
  replace hbl := Below.stepU hbl hsz hb8
  replace hsz := Nat.le_trans hsz hz8
  clear hb8
  go_wp2_with fail
  refine (eqIntS_same _ _ _ _ _ _ (hq8.reads.more (by omega)) (hq5.reads.more (by omega)) (by omega)).mono ?_
  rintro e w9 ⟨rfl, hb9⟩
  have hz9 := hb9.size
  replace hr0 := hr0.below hb9 hsz
  replace hr1 := hr1.below hb9 hsz
  replace hq5 := hq5.step hb9
  replace ho6 := ho6.step hb9
  replace ho7 := ho7.step hb9
  replace hq8 := hq8.step hb9
  replace hbl := Below.stepU hbl hsz hb9
  replace hsz := Nat.le_trans hsz hz9
  clear hb9
  go_wp2_with fail
  refine (toValS_any _ _ _ _ (hr0.more hsz) (by omega)).mono ?_
  rintro e w10 ⟨g10, rfl, ho10, hb10⟩
  replace ho10 := Owned.mk' ho10
  have hz10 := hb10.size
  replace hr0 := hr0.below hb10 hsz
  replace hr1 := hr1.below hb10 hsz
  replace hq5 := hq5.step hb10
  replace ho6 := ho6.step hb10
  replace ho7 := ho7.step hb10
  replace hq8 := hq8.step hb10
  replace hbl := Below.stepU hbl hsz hb10
  replace hsz := Nat.le_trans hsz hz10
  clear hb10
  go_wp2_with fail
  refine (eqValS_same _ _ _ _ _ _ (ho6.reads.more (by omega)) (ho10.reads.more (by omega)) (by omega)).mono ?_
  rintro e w11 ⟨rfl, hb11⟩
  have hz11 := hb11.size
  replace hr0 := hr0.below hb11 hsz
  replace hr1 := hr1.below hb11 hsz
  replace hq5 := hq5.step hb11
  replace ho6 := ho6.step hb11
  replace ho7 := ho7.step hb11
  replace hq8 := hq8.step hb11
  replace ho10 := ho10.step hb11
  replace hbl := Below.stepU hbl hsz hb11
  replace hsz := Nat.le_trans hsz hz11
  clear hb11
  go_wp2_with fail
  clear ho10
  refine (toValS_any _ _ _ _ (hr1.more hsz) (by omega)).mono ?_
  rintro e w12 ⟨g12, rfl, ho12, hb12⟩
  replace ho12 := Owned.mk' ho12
  have hz12 := hb12.size
  replace hr0 := hr0.below hb12 hsz
  replace hr1 := hr1.below hb12 hsz
  replace hq5 := hq5.step hb12
  replace ho6 := ho6.step hb12
  replace ho7 := ho7.step hb12
  replace hq8 := hq8.step hb12
  replace hbl := Below.stepU hbl hsz hb12
  replace hsz := Nat.le_trans hsz hz12
  clear hb12
  go_wp2_with fail
  refine (eqValS_same _ _ _ _ _ _ (ho7.reads.more (by omega)) (ho12.reads.more (by omega)) (by omega)).mono ?_
  rintro e w13 ⟨rfl, hb13⟩
  have hz13 := hb13.size
  replace hr0 := hr0.below hb13 hsz
  replace hr1 := hr1.below hb13 hsz
  replace hq5 := hq5.step hb13
  replace ho6 := ho6.step hb13
  replace ho7 := ho7.step hb13
  replace hq8 := hq8.step hb13
  replace ho12 := ho12.step hb13
  replace hbl := Below.stepU hbl hsz hb13
  replace hsz := Nat.le_trans hsz hz13
  clear hb13
  go_wp2_with fail
  clear ho12
  refine (markValS_any _ _ _ _ _ _ _ (1) (by omega) (by omega) ho6.1 (by omega)).mono ?_
  rintro e w14 ⟨rfl, hm_, hgm14⟩
  have hz14 := hgm14.size
  replace hr0 := hr0.apart' ho6 hgm14 (by omega) (by omega)
  replace hr1 := hr1.apart' ho6 hgm14 (by omega) (by omega)
  replace hq5 := hq5.apart' ho6 hgm14 (by omega)
  replace ho7 := ho7.apart' ho6 hgm14 (by omega)
  replace hq8 := hq8.apart' ho6 hgm14 (by omega)
  replace hbl := Below.apart' hbl ho6 hgm14 (by omega) (by omega)
  replace hsz := Nat.le_trans hsz hz14
  replace ho6 : Owned _ _ _ _ _ _ _ _ _ := ⟨hm_, ho6.2⟩
  clear hgm14
  go_wp2_with fail
  refine (markValS_any _ _ _ _ _ _ _ (1 + a0.length * 3) (by omega) (by omega) ho7.1 (by omega)).mono ?_
  rintro e w15 ⟨rfl, hm_, hgm15⟩
  have hz15 := hgm15.size
  replace hr0 := hr0.apart' ho7 hgm15 (by omega) (by omega)
  replace hr1 := hr1.apart' ho7 hgm15 (by omega) (by omega)
  replace hq5 := hq5.apart' ho7 hgm15 (by omega)
  replace ho6 := ho6.apart' ho7 hgm15 (by omega)
  replace hq8 := hq8.apart' ho7 hgm15 (by omega)
  replace hbl := Below.apart' hbl ho7 hgm15 (by omega) (by omega)
  replace hsz := Nat.le_trans hsz hz15
  replace ho7 : Owned _ _ _ _ _ _ _ _ _ := ⟨hm_, ho7.2⟩
  clear hgm15
  go_wp2_with fail
  refine (eqIntS_same _ _ _ _ _ _ (hq8.reads.more (by omega)) (hq5.reads.more (by omega)) (by omega)).mono ?_
  rintro e w16 ⟨rfl, hb16⟩
  have hz16 := hb16.size
  replace hr0 := hr0.below hb16 hsz
  replace hr1 := hr1.below hb16 hsz
  replace hq5 := hq5.step hb16
  replace ho6 := ho6.step hb16
  replace ho7 := ho7.step hb16
  replace hq8 := hq8.step hb16
  replace hbl := Below.stepU hbl hsz hb16
  replace hsz := Nat.le_trans hsz hz16
  clear hb16
  go_wp2_with fail
  clear ho6
  clear ho7
  refine (markIntS_any _ _ _ _ _ _ _ (1) (by omega) (by omega) hq8.1 (by omega)).mono ?_
  rintro e w17 ⟨rfl, hm_, hgm17⟩
  have hz17 := hgm17.size
  replace hr0 := hr0.apart' hq8 hgm17 (by omega) (by omega)
  replace hr1 := hr1.apart' hq8 hgm17 (by omega) (by omega)
  replace hq5 := hq5.apart' hq8 hgm17 (by omega)
  replace hbl := Below.apart' hbl hq8 hgm17 (by omega) (by omega)
  replace hsz := Nat.le_trans hsz hz17
  replace hq8 : Owned _ _ _ _ _ _ _ _ _ := ⟨hm_, hq8.2⟩
  clear hgm17
  go_wp2_with fail
  refine (heldIntS_any _ _ _ _ _ (1) (by omega) (by omega) (hq8.reads.more (by omega))).mono ?_
  rintro e w18 ⟨rfl, hb18⟩
  have hz18 := hb18.size
  replace hr0 := hr0.below hb18 hsz
  replace hr1 := hr1.below hb18 hsz
  replace hq5 := hq5.step hb18
  replace hq8 := hq8.step hb18
  replace hbl := Below.stepU hbl hsz hb18
  replace hsz := Nat.le_trans hsz hz18
  clear hb18
  go_wp2_with fail
  refine (toValS_any _ _ _ _ (hr0.more hsz) (by omega)).mono ?_
  rintro e w19 ⟨g19, rfl, ho19, hb19⟩
  replace ho19 := Owned.mk' ho19
  have hz19 := hb19.size
  replace hr0 := hr0.below hb19 hsz
  replace hr1 := hr1.below hb19 hsz
  replace hq5 := hq5.step hb19
  replace hq8 := hq8.step hb19
  replace hbl := Below.stepU hbl hsz hb19
  replace hsz := Nat.le_trans hsz hz19
  clear hb19
  go_wp2_with fail
  refine (toValS_any _ _ _ _ (hr1.more hsz) (by omega)).mono ?_
  rintro e w20 ⟨g20, rfl, ho20, hb20⟩
  replace ho20 := Owned.mk' ho20
  have hz20 := hb20.size
  replace hr0 := hr0.below hb20 hsz
  replace hr1 := hr1.below hb20 hsz
  replace hq5 := hq5.step hb20
  replace hq8 := hq8.step hb20
  replace ho19 := ho19.step hb20
  replace hbl := Below.stepU hbl hsz hb20
  replace hsz := Nat.le_trans hsz hz20
  clear hb20
  go_wp2_with fail
  refine (impl_Places _ _ _ _ (ho19.reads.more (by omega)) (by omega) hi0 _ _ _ (ho20.reads.more (by omega)) (by omega) hi1).mono ?_
  rintro e w21 ⟨A21_, c21_, rfl, hq21, hb21⟩
  replace hq21 := Owned.mk' hq21
  have hz21 := hb21.size
  replace hr0 := hr0.below hb21 hsz
  replace hr1 := hr1.below hb21 hsz
  replace hq5 := hq5.step hb21
  replace hq8 := hq8.step hb21
  replace ho19 := ho19.step hb21
  replace ho20 := ho20.step hb21
  replace hbl := Below.stepU hbl hsz hb21
  replace hsz := Nat.le_trans hsz hz21
  clear hb21
  go_wp2_with fail
  clear ho19
  clear ho20
  refine (eqIntS_same _ _ _ _ _ _ (hq21.reads.more (by omega)) (hq5.reads.more (by omega)) (by omega)).mono ?_
  rintro e w22 ⟨rfl, hb22⟩
  have hz22 := hb22.size
  replace hr0 := hr0.below hb22 hsz
  replace hr1 := hr1.below hb22 hsz
  replace hq5 := hq5.step hb22
  replace hq8 := hq8.step hb22
  replace hq21 := hq21.step hb22
  replace hbl := Below.stepU hbl hsz hb22
  replace hsz := Nat.le_trans hsz hz22
  clear hb22
  go_wp2_with fail
  refine (heldIntS_any _ _ _ _ _ (1) (by omega) (by omega) (hq8.reads.more (by omega))).mono ?_
  rintro e w23 ⟨rfl, hb23⟩
  have hz23 := hb23.size
  replace hr0 := hr0.below hb23 hsz
  replace hr1 := hr1.below hb23 hsz
  replace hq5 := hq5.step hb23
  replace hq8 := hq8.step hb23
  replace hq21 := hq21.step hb23
  replace hbl := Below.stepU hbl hsz hb23
  replace hsz := Nat.le_trans hsz hz23
  clear hb23
  go_wp2_with fail
  go_ret
  exact ⟨rfl, hbl⟩

end Go.Proofs.Ytckfogpjljbelaa.fnExactPlaces
