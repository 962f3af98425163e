/-
  The walk of the law FnExactPutNums: the Go function returns true, and leaves what it was handed as it was.
-/
import Derived.Test.YtbmgfcoiailolaaNums
namespace Go.Proofs.Ytbmgfcoiailolaa.fnExactPutNums
open Go.RowKit
set_option linter.unusedVariables false

set_option maxRecDepth 100000 in
set_option maxHeartbeats 4000000 in
theorem walk (w : World) (A0 : Option Addr) (c0 : Nat) (a0 : List UInt8) (hc0 : a0.length ≤ c0) (hm0 : c0 ≤ maxLen) (hr0 : Reads w w.heap.size 1 A0 a0.length (byteCells a0)) (A1 : Option Addr) (c1 : Nat) (a1 : List Int) (hc1 : a1.length ≤ c1) (hm1 : c1 ≤ maxLen) (hr1 : Reads w w.heap.size 1 A1 a1.length (intCells a1)) (hi1 : ∀ x ∈ a1, I64 x) :
    Calls Try.prog 6 #[.slice A0 a0.length c0, .slice A1 a1.length c1] w fun e w' => e = .returned (.bool true) ∧ Below w.heap.size w w' := by
  by_cases hg0 : 1048576 < a0.length
  · have hgm := hm0
    unfold maxLen at hgm
    go_enter Try.func6, Try.ntmps6
    go_wp2
    go_ret
    exact ⟨rfl, Below.refl _ _⟩
  by_cases hg1 : 1048576 < a1.length
  · have hgm := hm1
    unfold maxLen at hgm
    go_enter Try.func6, Try.ntmps6
    go_wp2
    go_ret
    exact ⟨rfl, Below.refl _ _⟩
  have hsz : w.heap.size ≤ w.heap.size := Nat.le_refl _
  have hbl := Below.refl w.heap.size w
  go_enter Try.func6, Try.ntmps6
  go_wp2_with fail
  have hL1 : (putNums a0 a1).length ≤ 8388608 := Nat.le_trans (putNums_len _ _) (by omega)
  refine (toByteS_any _ _ _ _ (hr0.more hsz) (by omega)).mono ?_
  rintro e w1 ⟨g1, rfl, ho1, hb1⟩
  replace ho1 := Owned.mk' ho1
  have hz1 := hb1.size
  replace hr0 := hr0.below hb1 hsz
  replace hr1 := hr1.below hb1 hsz
  replace hbl := Below.stepU hbl hsz hb1
  replace hsz := Nat.le_trans hsz hz1
  clear hb1
  go_wp2_with fail
  refine (toIntS_any _ _ _ _ (hr1.more hsz) (by omega)).mono ?_
  rintro e w2 ⟨g2, rfl, ho2, hb2⟩
  replace ho2 := Owned.mk' ho2
  have hz2 := hb2.size
  replace hr0 := hr0.below hb2 hsz
  replace hr1 := hr1.below hb2 hsz
  replace ho1 := ho1.step hb2
  replace hbl := Below.stepU hbl hsz hb2
  replace hsz := Nat.le_trans hsz hz2
  clear hb2
  go_wp2_with fail
  refine (spec_PutNums _ _ _ _ (ho1.reads.more (by omega)) (own_nil ho1.1) (by omega) _ _ _ (ho2.reads.more (by omega)) (by omega) hi1).mono ?_
  rintro e w3 ⟨A3_, c3_, rfl, hq3, hb3⟩
  replace hq3 := Owned.mk' hq3
  have hz3 := hb3.size
  replace hr0 := hr0.below hb3 hsz
  replace hr1 := hr1.below hb3 hsz
  replace ho1 := ho1.step hb3
  replace ho2 := ho2.step hb3
  replace hbl := Below.stepU hbl hsz hb3
  replace hsz := Nat.le_trans hsz hz3
  clear hb3
  go_wp2_with fail
  clear ho1
  clear ho2
  refine (toByteS_any _ _ _ _ (hr0.more hsz) (by omega)).mono ?_
  rintro e w4 ⟨g4, rfl, ho4, hb4⟩
  replace ho4 := Owned.mk' ho4
  have hz4 := hb4.size
  replace hr0 := hr0.below hb4 hsz
  replace hr1 := hr1.below hb4 hsz
  replace hq3 := hq3.step hb4
  replace hbl := Below.stepU hbl hsz hb4
  replace hsz := Nat.le_trans hsz hz4
  clear hb4
  go_wp2_with fail
  refine (toIntS_any _ _ _ _ (hr1.more hsz) (by omega)).mono ?_
  rintro e w5 ⟨g5, rfl, ho5, hb5⟩
  replace ho5 := Owned.mk' ho5
  have hz5 := hb5.size
  replace hr0 := hr0.below hb5 hsz
  replace hr1 := hr1.below hb5 hsz
  replace hq3 := hq3.step hb5
  replace ho4 := ho4.step hb5
  replace hbl := Below.stepU hbl hsz hb5
  replace hsz := Nat.le_trans hsz hz5
  clear hb5
  go_wp2_with fail
  refine (impl_PutNums _ _ _ _ (ho4.reads.more (by omega)) (own_nil ho4.1) (by omega) _ _ _ (ho5.reads.more (by omega)) (by omega) hi1).mono ?_
  rintro e w6 ⟨A6_, c6_, rfl, hq6, hb6⟩
  replace hq6 := Owned.mk' hq6
  have hz6 := hb6.size
  replace hr0 := hr0.below hb6 hsz
  replace hr1 := hr1.below hb6 hsz
  replace hq3 := hq3.step hb6
  replace ho4 := ho4.step hb6
  replace ho5 := ho5.step hb6
  replace hbl := Below.stepU hbl hsz hb6
  replace hsz := Nat.le_trans hsz hz6
  clear hb6
  go_wp2_with fail
  refine (eqByteS_same _ _ _ _ _ _ (hq6.reads.more (by omega)) (hq3.reads.more (by omega)) (by omega)).mono ?_
  rintro e w7 ⟨rfl, hb7⟩
  have hz7 := hb7.size
  replace hr0 := hr0.below hb7 hsz
  replace hr1 := hr1.below hb7 hsz
  replace hq3 := hq3.step hb7
  replace ho4 := ho4.step hb7
  replace ho5 := ho5.step hb7
  replace hq6 := hq6.step hb7
  replace hbl := Below.stepU hbl hsz hb7
  replace hsz := Nat.le_trans hsz hz7
  clear hb7
  go_wp2_with fail
  refine (toByteS_any _ _ _ _ (hr0.more hsz) (by omega)).mono ?_
  rintro e w8 ⟨g8, rfl, ho8, hb8⟩
  replace ho8 := Owned.mk' ho8
  have hz8 := hb8.size
  replace hr0 := hr0.below hb8 hsz
  replace hr1 := hr1.below hb8 hsz
  replace hq3 := hq3.step hb8
  replace ho4 := ho4.step hb8
  replace ho5 := ho5.step hb8
  replace hq6 := hq6.step hb8
  replace hbl := Below.stepU hbl hsz hb8
  replace hsz := Nat.le_trans hsz hz8
  clear hb8
  go_wp2_with fail
  refine (eqByteS_same _ _ _ _ _ _ (ho4.reads.more (by omega)) (ho8.reads.more (by omega)) (by omega)).mono ?_
  rintro e w9 ⟨rfl, hb9⟩
  have hz9 := hb9.size
  replace hr0 := hr0.below hb9 hsz
  replace hr1 := hr1.below hb9 hsz
  replace hq3 := hq3.step hb9
  replace ho4 := ho4.step hb9
  replace ho5 := ho5.step hb9
  replace hq6 := hq6.step hb9
  replace ho8 := ho8.step hb9
  replace hbl := Below.stepU hbl hsz hb9
  replace hsz := Nat.le_trans hsz hz9
  clear hb9
  go_wp2_with fail
  clear ho8
  refine (toIntS_any _ _ _ _ (hr1.more hsz) (by omega)).mono ?_
  rintro e w10 ⟨g10, rfl, ho10, hb10⟩
  replace ho10 := Owned.mk' ho10
  have hz10 := hb10.size
  replace hr0 := hr0.below hb10 hsz
  replace hr1 := hr1.below hb10 hsz
  replace hq3 := hq3.step hb10
  replace ho4 := ho4.step hb10
  replace ho5 := ho5.step hb10
  replace hq6 := hq6.step hb10
  replace hbl := Below.stepU hbl hsz hb10
  replace hsz := Nat.le_trans hsz hz10
  clear hb10
  go_wp2_with fail
  refine (eqIntS_same _ _ _ _ _ _ (ho5.reads.more (by omega)) (ho10.reads.more (by omega)) (by omega)).mono ?_
  rintro e w11 ⟨rfl, hb11⟩
  have hz11 := hb11.size
  replace hr0 := hr0.below hb11 hsz
  replace hr1 := hr1.below hb11 hsz
  replace hq3 := hq3.step hb11
  replace ho4 := ho4.step hb11
  replace ho5 := ho5.step hb11
  replace hq6 := hq6.step hb11
  replace ho10 := ho10.step hb11
  replace hbl := Below.stepU hbl hsz hb11
  replace hsz := Nat.le_trans hsz hz11
  clear hb11
  go_wp2_with fail
  clear ho10
  refine (markByteS_any _ _ _ _ _ _ _ (1) (by omega) (by omega) ho4.1 (by omega)).mono ?_
  rintro e w12 ⟨rfl, hm_, hgm12⟩
  have hz12 := hgm12.size
  replace hr0 := hr0.apart' ho4 hgm12 (by omega) (by omega)
  replace hr1 := hr1.apart' ho4 hgm12 (by omega) (by omega)
  replace hq3 := hq3.apart' ho4 hgm12 (by omega)
  replace ho5 := ho5.apart' ho4 hgm12 (by omega)
  replace hq6 := hq6.apart' ho4 hgm12 (by omega)
  replace hbl := Below.apart' hbl ho4 hgm12 (by omega) (by omega)
  replace hsz := Nat.le_trans hsz hz12
  replace ho4 : Owned _ _ _ _ _ _ _ _ _ := ⟨hm_, ho4.2⟩
  clear hgm12
  go_wp2_with fail
  refine (markIntS_any _ _ _ _ _ _ _ (1 + a0.length) (by omega) (by omega) ho5.1 (by omega)).mono ?_
  rintro e w13 ⟨rfl, hm_, hgm13⟩
  have hz13 := hgm13.size
  replace hr0 := hr0.apart' ho5 hgm13 (by omega) (by omega)
  replace hr1 := hr1.apart' ho5 hgm13 (by omega) (by omega)
  replace hq3 := hq3.apart' ho5 hgm13 (by omega)
  replace ho4 := ho4.apart' ho5 hgm13 (by omega)
  replace hq6 := hq6.apart' ho5 hgm13 (by omega)
  replace hbl := Below.apart' hbl ho5 hgm13 (by omega) (by omega)
  replace hsz := Nat.le_trans hsz hz13
  replace ho5 : Owned _ _ _ _ _ _ _ _ _ := ⟨hm_, ho5.2⟩
  clear hgm13
  go_wp2_with fail
  refine (eqByteS_same _ _ _ _ _ _ (hq6.reads.more (by omega)) (hq3.reads.more (by omega)) (by omega)).mono ?_
  rintro e w14 ⟨rfl, hb14⟩
  have hz14 := hb14.size
  replace hr0 := hr0.below hb14 hsz
  replace hr1 := hr1.below hb14 hsz
  replace hq3 := hq3.step hb14
  replace ho4 := ho4.step hb14
  replace ho5 := ho5.step hb14
  replace hq6 := hq6.step hb14
  replace hbl := Below.stepU hbl hsz hb14
  replace hsz := Nat.le_trans hsz hz14
  clear hb14
  go_wp2_with fail
  clear ho4
  clear ho5
  refine (markByteS_any _ _ _ _ _ _ _ (1) (by omega) (by omega) hq6.1 (by omega)).mono ?_
  rintro e w15 ⟨rfl, hm_, hgm15⟩
  have hz15 := hgm15.size
  replace hr0 := hr0.apart' hq6 hgm15 (by omega) (by omega)
  replace hr1 := hr1.apart' hq6 hgm15 (by omega) (by omega)
  replace hq3 := hq3.apart' hq6 hgm15 (by omega)
  replace hbl := Below.apart' hbl hq6 hgm15 (by omega) (by omega)
  replace hsz := Nat.le_trans hsz hz15
  replace hq6 : Owned _ _ _ _ _ _ _ _ _ := ⟨hm_, hq6.2⟩
  clear hgm15
  go_wp2_with fail
  refine (heldByteS_any _ _ _ _ _ (1) (by omega) (by omega) (hq6.reads.more (by omega))).mono ?_
  rintro e w16 ⟨rfl, hb16⟩
  have hz16 := hb16.size
  replace hr0 := hr0.below hb16 hsz
  replace hr1 := hr1.below hb16 hsz
  replace hq3 := hq3.step hb16
  replace hq6 := hq6.step hb16
  replace hbl := Below.stepU hbl hsz hb16
  replace hsz := Nat.le_trans hsz hz16
  clear hb16
  go_wp2_with fail
  refine (toByteS_any _ _ _ _ (hr0.more hsz) (by omega)).mono ?_
  rintro e w17 ⟨g17, rfl, ho17, hb17⟩
  replace ho17 := Owned.mk' ho17
  have hz17 := hb17.size
  replace hr0 := hr0.below hb17 hsz
  replace hr1 := hr1.below hb17 hsz
  replace hq3 := hq3.step hb17
  replace hq6 := hq6.step hb17
  replace hbl := Below.stepU hbl hsz hb17
  replace hsz := Nat.le_trans hsz hz17
  clear hb17
  go_wp2_with fail
  refine (toIntS_any _ _ _ _ (hr1.more hsz) (by omega)).mono ?_
  rintro e w18 ⟨g18, rfl, ho18, hb18⟩
  replace ho18 := Owned.mk' ho18
  have hz18 := hb18.size
  replace hr0 := hr0.below hb18 hsz
  replace hr1 := hr1.below hb18 hsz
  replace hq3 := hq3.step hb18
  replace hq6 := hq6.step hb18
  replace ho17 := ho17.step hb18
  replace hbl := Below.stepU hbl hsz hb18
  replace hsz := Nat.le_trans hsz hz18
  clear hb18
  go_wp2_with fail
  refine (impl_PutNums _ _ _ _ (ho17.reads.more (by omega)) (own_nil ho17.1) (by omega) _ _ _ (ho18.reads.more (by omega)) (by omega) hi1).mono ?_
  rintro e w19 ⟨A19_, c19_, rfl, hq19, hb19⟩
  replace hq19 := Owned.mk' hq19
  have hz19 := hb19.size
  replace hr0 := hr0.below hb19 hsz
  replace hr1 := hr1.below hb19 hsz
  replace hq3 := hq3.step hb19
  replace hq6 := hq6.step hb19
  replace ho17 := ho17.step hb19
  replace ho18 := ho18.step hb19
  replace hbl := Below.stepU hbl hsz hb19
  replace hsz := Nat.le_trans hsz hz19
  clear hb19
  go_wp2_with fail
  clear ho17
  clear ho18
  refine (eqByteS_same _ _ _ _ _ _ (hq19.reads.more (by omega)) (hq3.reads.more (by omega)) (by omega)).mono ?_
  rintro e w20 ⟨rfl, hb20⟩
  have hz20 := hb20.size
  replace hr0 := hr0.below hb20 hsz
  replace hr1 := hr1.below hb20 hsz
  replace hq3 := hq3.step hb20
  replace hq6 := hq6.step hb20
  replace hq19 := hq19.step hb20
  replace hbl := Below.stepU hbl hsz hb20
  replace hsz := Nat.le_trans hsz hz20
  clear hb20
  go_wp2_with fail
  refine (heldByteS_any _ _ _ _ _ (1) (by omega) (by omega) (hq6.reads.more (by omega))).mono ?_
  rintro e w21 ⟨rfl, hb21⟩
  have hz21 := hb21.size
  replace hr0 := hr0.below hb21 hsz
  replace hr1 := hr1.below hb21 hsz
  replace hq3 := hq3.step hb21
  replace hq6 := hq6.step hb21
  replace hq19 := hq19.step hb21
  replace hbl := Below.stepU hbl hsz hb21
  replace hsz := Nat.le_trans hsz hz21
  clear hb21
  go_wp2_with fail
  go_ret
  exact ⟨rfl, hbl⟩

end Go.Proofs.Ytbmgfcoiailolaa.fnExactPutNums
