/-
  The walk of the law FnExactEncDict: the Go function returns true, and leaves what it was handed as it was.
-/
import Derived.Test.YtkgkommlfceneaaEncd
namespace Go.Proofs.Ytkgkommlfceneaa.fnExactEncDict
open Go.RowKit
set_option linter.unusedVariables false

set_option maxRecDepth 100000 in
set_option maxHeartbeats 4000000 in
theorem walk (w : World) (A0 : Option Addr) (c0 : Nat) (a0 : List V) (hc0 : a0.length ≤ c0) (hm0 : c0 ≤ maxLen) (hr0 : Reads w w.heap.size 3 A0 a0.length (valCells a0)) (hi0 : ∀ x ∈ a0, x.ok) :
    Calls Try.prog 14 #[.slice A0 a0.length c0] w fun e w' => e = .returned (.bool true) ∧ Below w.heap.size w w' := by
  have hsz : w.heap.size ≤ w.heap.size := Nat.le_refl _
  have hbl := Below.refl w.heap.size w
  go_enter Try.func14, Try.ntmps14
  go_wp2_with fail
  have hmx0 : a0.length ≤ maxLen := Nat.le_trans hc0 hm0
  refine (szValS_any _ _ _ _ (hr0.more hsz) hi0 hmx0 1048576 (by omega) (by omega)).mono ?_
  rintro e w1 ⟨l0, rfl, ⟨hl0b0, hl0c⟩, hb1⟩
  have hz1 := hb1.size
  replace hr0 := hr0.below hb1 hsz
  replace hbl := Below.stepU hbl hsz hb1
  replace hsz := Nat.le_trans hsz hz1
  clear hb1
  clear hmx0
  by_cases hneg0 : l0 < 0
  · go_wp2_with fail
    go_ret
    exact ⟨rfl, hbl⟩
  replace hl0c := hl0c (by omega)
  have hl0a : 0 ≤ l0 := by omega
  have hl0b : l0 ≤ 1048576 := by omega
  have hlen0 : a0.length ≤ 1048576 := by omega
  have hlet0 : letters a0 ≤ 1048576 := by omega
  clear hl0c hl0b0 hneg0
  go_wp2_with fail
  have hL1 : (encDict a0).length ≤ 4063800 := encDict_len a0
  refine (toValS_any _ _ _ _ (hr0.more hsz) (by omega)).mono ?_
  rintro e w2 ⟨g2, rfl, ho2, hb2⟩
  replace ho2 := Owned.mk' ho2
  have hz2 := hb2.size
  replace hr0 := hr0.below hb2 hsz
  replace hbl := Below.stepU hbl hsz hb2
  replace hsz := Nat.le_trans hsz hz2
  clear hb2
  go_wp2_with fail
  refine (spec_EncDict _ _ _ _ (ho2.reads.more (by omega)) (own_nil ho2.1) (by omega) hi0).mono ?_
  rintro e w3 ⟨A3_, c3_, rfl, hq3, hb3⟩
  replace hq3 := Owned.mk' hq3
  have hz3 := hb3.size
  replace hr0 := hr0.below hb3 hsz
  replace ho2 := ho2.step hb3
  replace hbl := Below.stepU hbl hsz hb3
  replace hsz := Nat.le_trans hsz hz3
  clear hb3
  go_wp2_with fail
  clear ho2
  refine (toValS_any _ _ _ _ (hr0.more hsz) (by omega)).mono ?_
  rintro e w4 ⟨g4, rfl, ho4, hb4⟩
  replace ho4 := Owned.mk' ho4
  have hz4 := hb4.size
  replace hr0 := hr0.below hb4 hsz
  replace hq3 := hq3.step hb4
  replace hbl := Below.stepU hbl hsz hb4
  replace hsz := Nat.le_trans hsz hz4
  clear hb4
  go_wp2_with fail
  refine (impl_EncDict _ _ _ _ (ho4.reads.more (by omega)) (own_nil ho4.1) (by omega) hi0).mono ?_
  rintro e w5 ⟨A5_, c5_, rfl, hq5, hb5⟩
  replace hq5 := Owned.mk' hq5
  have hz5 := hb5.size
  replace hr0 := hr0.below hb5 hsz
  replace hq3 := hq3.step hb5
  replace ho4 := ho4.step hb5
  replace hbl := Below.stepU hbl hsz hb5
  replace hsz := Nat.le_trans hsz hz5
  clear hb5
  go_wp2_with fail
  refine (eqByteS_same _ _ _ _ _ _ (hq5.reads.more (by omega)) (hq3.reads.more (by omega)) (by omega)).mono ?_
  rintro e w6 ⟨rfl, hb6⟩
  have hz6 := hb6.size
  replace hr0 := hr0.below hb6 hsz
  replace hq3 := hq3.step hb6
  replace ho4 := ho4.step hb6
  replace hq5 := hq5.step hb6
  replace hbl := Below.stepU hbl hsz hb6
  replace hsz := Nat.le_trans hsz hz6
  clear hb6
  go_wp2_with fail
  refine (toValS_any _ _ _ _ (hr0.more hsz) (by omega)).mono ?_
  rintro e w7 ⟨g7, rfl, ho7, hb7⟩
  replace ho7 := Owned.mk' ho7
  have hz7 := hb7.size
  replace hr0 := hr0.below hb7 hsz
  replace hq3 := hq3.step hb7
  replace ho4 := ho4.step hb7
  replace hq5 := hq5.step hb7
  replace hbl := Below.stepU hbl hsz hb7
  replace hsz := Nat.le_trans hsz hz7
  clear hb7
  go_wp2_with fail
  refine (eqValS_same _ _ _ _ _ _ (ho4.reads.more (by omega)) (ho7.reads.more (by omega)) (by omega)).mono ?_
  rintro e w8 ⟨rfl, hb8⟩
  have hz8 := hb8.size
  replace hr0 := hr0.below hb8 hsz
  replace hq3 := hq3.step hb8
  replace ho4 := ho4.step hb8
  replace hq5 := hq5.step hb8
  replace ho7 := ho7.step hb8
  replace hbl := Below.stepU hbl hsz hb8
  replace hsz := Nat.le_trans hsz hz8
  clear hb8
  go_wp2_with fail
  clear ho7
  refine (markValS_any _ _ _ _ _ _ _ (1) (by omega) (by omega) ho4.1 (by omega)).mono ?_
  rintro e w9 ⟨rfl, hm_, hgm9⟩
  have hz9 := hgm9.size
  replace hr0 := hr0.apart' ho4 hgm9 (by omega) (by omega)
  replace hq3 := hq3.apart' ho4 hgm9 (by omega)
  replace hq5 := hq5.apart' ho4 hgm9 (by omega)
  replace hbl := Below.apart' hbl ho4 hgm9 (by omega) (by omega)
  replace hsz := Nat.le_trans hsz hz9
  replace ho4 : Owned _ _ _ _ _ _ _ _ _ := ⟨hm_, ho4.2⟩
  clear hgm9
  go_wp2_with fail
  refine (eqByteS_same _ _ _ _ _ _ (hq5.reads.more (by omega)) (hq3.reads.more (by omega)) (by omega)).mono ?_
  rintro e w10 ⟨rfl, hb10⟩
  have hz10 := hb10.size
  replace hr0 := hr0.below hb10 hsz
  replace hq3 := hq3.step hb10
  replace ho4 := ho4.step hb10
  replace hq5 := hq5.step hb10
  replace hbl := Below.stepU hbl hsz hb10
  replace hsz := Nat.le_trans hsz hz10
  clear hb10
  go_wp2_with fail
  clear ho4
  refine (markByteS_any _ _ _ _ _ _ _ (1) (by omega) (by omega) hq5.1 (by omega)).mono ?_
  rintro e w11 ⟨rfl, hm_, hgm11⟩
  have hz11 := hgm11.size
  replace hr0 := hr0.apart' hq5 hgm11 (by omega) (by omega)
  replace hq3 := hq3.apart' hq5 hgm11 (by omega)
  replace hbl := Below.apart' hbl hq5 hgm11 (by omega) (by omega)
  replace hsz := Nat.le_trans hsz hz11
  replace hq5 : Owned _ _ _ _ _ _ _ _ _ := ⟨hm_, hq5.2⟩
  clear hgm11
  go_wp2_with fail
  refine (heldByteS_any _ _ _ _ _ (1) (by omega) (by omega) (hq5.reads.more (by omega))).mono ?_
  rintro e w12 ⟨rfl, hb12⟩
  have hz12 := hb12.size
  replace hr0 := hr0.below hb12 hsz
  replace hq3 := hq3.step hb12
  replace hq5 := hq5.step hb12
  replace hbl := Below.stepU hbl hsz hb12
  replace hsz := Nat.le_trans hsz hz12
  clear hb12
  go_wp2_with fail
  refine (toValS_any _ _ _ _ (hr0.more hsz) (by omega)).mono ?_
  rintro e w13 ⟨g13, rfl, ho13, hb13⟩
  replace ho13 := Owned.mk' ho13
  have hz13 := hb13.size
  replace hr0 := hr0.below hb13 hsz
  replace hq3 := hq3.step hb13
  replace hq5 := hq5.step hb13
  replace hbl := Below.stepU hbl hsz hb13
  replace hsz := Nat.le_trans hsz hz13
  clear hb13
  go_wp2_with fail
  refine (impl_EncDict _ _ _ _ (ho13.reads.more (by omega)) (own_nil ho13.1) (by omega) hi0).mono ?_
  rintro e w14 ⟨A14_, c14_, rfl, hq14, hb14⟩
  replace hq14 := Owned.mk' hq14
  have hz14 := hb14.size
  replace hr0 := hr0.below hb14 hsz
  replace hq3 := hq3.step hb14
  replace hq5 := hq5.step hb14
  replace ho13 := ho13.step hb14
  replace hbl := Below.stepU hbl hsz hb14
  replace hsz := Nat.le_trans hsz hz14
  clear hb14
  go_wp2_with fail
  clear ho13
  refine (eqByteS_same _ _ _ _ _ _ (hq14.reads.more (by omega)) (hq3.reads.more (by omega)) (by omega)).mono ?_
  rintro e w15 ⟨rfl, hb15⟩
  have hz15 := hb15.size
  replace hr0 := hr0.below hb15 hsz
  replace hq3 := hq3.step hb15
  replace hq5 := hq5.step hb15
  replace hq14 := hq14.step hb15
  replace hbl := Below.stepU hbl hsz hb15
  replace hsz := Nat.le_trans hsz hz15
  clear hb15
  go_wp2_with fail
  refine (heldByteS_any _ _ _ _ _ (1) (by omega) (by omega) (hq5.reads.more (by omega))).mono ?_
  rintro e w16 ⟨rfl, hb16⟩
  have hz16 := hb16.size
  replace hr0 := hr0.below hb16 hsz
  replace hq3 := hq3.step hb16
  replace hq5 := hq5.step hb16
  replace hq14 := hq14.step hb16
  replace hbl := Below.stepU hbl hsz hb16
  replace hsz := Nat.le_trans hsz hz16
  clear hb16
  go_wp2_with fail
  go_ret
  exact ⟨rfl, hbl⟩

end Go.Proofs.Ytkgkommlfceneaa.fnExactEncDict
