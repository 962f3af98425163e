/-
  The walk of the law FnExactColumn: the Go function returns true, and leaves what it was handed as it was.
-/
import Derived.Test.YtpchffcecmoieaaCol
import Derived.Test.YtpchffcecmoieaaRows3
namespace Go.Proofs.Ytpchffcecmoieaa.fnExactColumn
open Go.RowKit
set_option linter.unusedVariables false

set_option maxRecDepth 100000 in
set_option maxHeartbeats 4000000 in
theorem walk (w : World) (A0 : Option Addr) (c0 : Nat) (a0 : List RowV) (hc0 : a0.length ≤ c0) (hm0 : c0 ≤ maxLen) (hr0 : Reads w w.heap.size 2 A0 a0.length (a0.flatMap RowV.enc)) (hi0 : ∀ x ∈ a0, x.ok w) (a1 : Int) (ha1 : I64 a1) :
    Calls Try.prog 3 #[.slice A0 a0.length c0, .int .i64 a1] w fun e w' => e = .returned (.bool true) ∧ Below w.heap.size w w' := by
  have hin0 : RowsIn w w.heap.size a0 := fun r hr => (hi0 r hr).2.2.2.1
  have hok0 : ∀ r ∈ a0, r.l.length ≤ maxLen ∧ ∀ x ∈ r.l, x.ok := fun r hr => ⟨Nat.le_trans (hi0 r hr).2.1 (hi0 r hr).2.2.1, (hi0 r hr).2.2.2.2⟩
  have hmx0 : a0.length ≤ maxLen := Nat.le_trans hc0 hm0
  clear hi0
  have hbl := Below.refl w.heap.size w
  have hsz : w.heap.size ≤ w.heap.size := Nat.le_refl _
  go_enter Try.func3, Try.ntmps3
  go_wp2_with fail
  refine (szRowS_sum _ _ _ _ (hr0.more (by omega)) (hin0.more (by omega)) hok0 hmx0 1048576 (by omega) (by omega)).mono ?_
  rintro e w1 ⟨l0, rfl, ⟨hl0a, hl0b⟩, hb1⟩
  have hz1 := hb1.size
  replace hr0 := hr0.below hb1 hsz
  replace hin0 := hin0.below hb1 hsz
  replace hbl := Below.stepU hbl hsz hb1
  replace hsz := Nat.le_trans hsz hz1
  clear hb1
  have HL0 := Lib.hid hl0b
  clear hl0b hok0 hmx0
  by_cases hneg0 : l0 < 0
  · go_wp2_with fail
    go_ret
    exact ⟨rfl, hbl⟩
  obtain ⟨hle0, hsm0⟩ := HL0.out (by omega)
  have hlen0 : a0.length ≤ 1048576 := by omega
  have hsum0 : sumLen a0 ≤ 1048576 := by omega
  clear HL0
  replace hsm0 := Lib.hid hsm0
  have hL1 : (colOf a0 a1).length ≤ 1048576 := Nat.le_trans (colOf_len a0 a1) hlen0
  go_wp2_with fail
  refine (toRowS_any _ _ _ _ (hr0.more (by omega)) (hin0.more (by omega)) hsm0.out (by omega)).mono ?_
  rintro e w2 ⟨g2, rs2, rfl, hx2, hy2, hz_2, hb2⟩
  replace hx2 := own_reads hx2
  have hs2 := Lib.hid (small_key hy2 hsm0.out)
  have hN2 := Lib.hid (show rs2.length = a0.length from key_len hy2)
  replace hy2 := Lib.hid hy2
  have hz2 := hb2.size
  replace hr0 := hr0.below hb2 hsz
  replace hin0 := hin0.below hb2 hsz
  replace hbl := Below.stepU hbl hsz hb2
  replace hsz := Nat.le_trans hsz hz2
  clear hb2
  go_wp2_with fail
  refine (spec_Column_at _ _ _ _ rs2 hN2.out (hx2.more (by omega)) (hz_2.more (by omega)) hs2.out (by omega) a1 ha1).mono ?_
  rintro e w3 ⟨A3, c3, rfl, ho3, hb3⟩
  rw [colOf_key a1 hy2.out] at ho3 ⊢
  replace ho3 := Owned.mk' ho3
  have hz3 := hb3.size
  replace hr0 := hr0.below hb3 hsz
  replace hin0 := hin0.below hb3 hsz
  replace hx2 := hx2.below hb3 (by omega)
  replace hz_2 := hz_2.below hb3 (by omega)
  replace hbl := Below.stepU hbl hsz hb3
  replace hsz := Nat.le_trans hsz hz3
  clear hb3
  go_wp2_with fail
  clear hx2 hz_2
  obtain ⟨lo4, hlo4⟩ : ∃ lo, lo = w3.heap.size := ⟨_, rfl⟩
  refine (toRowS_own _ _ _ _ (hr0.more (by omega)) (hin0.more (by omega)) hsm0.out (by omega)).mono ?_
  rintro e w4 ⟨g4, rs4, rfl, hx4, hy4, hg4, hI4, hP4, hb4⟩
  subst hg4
  rw [← hlo4] at hx4 hI4 ⊢
  have hs4 := Lib.hid (small_key hy4 hsm0.out)
  have hN4 := Lib.hid (show rs4.length = a0.length from key_len hy4)
  have hu4 := Lib.hid (sumLen_key hy4)
  replace hy4 := Lib.hid hy4
  replace hP4 := Lib.hid hP4
  obtain ⟨hi4, hhi4⟩ : ∃ hi, hi = w4.heap.size := ⟨_, rfl⟩
  have HB4 : Hid ((∀ r ∈ rs4, ∀ b, r.A = some ⟨b, 0, none⟩ → b < hi4) ∧ lo4 < hi4) := Lib.hid (by
    refine ⟨fun r hr b hb => ?_, ?_⟩
    · obtain ⟨b1, h1, _, _, h4⟩ := hI4 r hr
      rw [h1] at hb; injection hb with hb; injection hb with hb
      have := (h4.lt b1 (by simp [Value.ownBlock])).2; omega
    · have := (hx4.lt lo4 (by simp [Value.ownBlock])).2; omega)
  have hlh4 : lo4 ≤ hi4 := Nat.le_of_lt HB4.out.2
  replace hI4 := Lib.hid hI4
  have hla4 : w3.heap.size ≤ lo4 := by omega
  have hlb4 : lo4 ≤ w3.heap.size := by omega
  have hha4 : w4.heap.size ≤ hi4 := by omega
  have hhb4 : hi4 ≤ w4.heap.size := by omega
  clear hlo4 hhi4
  have hz4 := hb4.size
  replace hr0 := hr0.below hb4 hsz
  replace hin0 := hin0.below hb4 hsz
  replace ho3 := ho3.step hb4
  replace hbl := Below.stepU hbl hsz hb4
  replace hsz := Nat.le_trans hsz hz4
  clear hb4
  go_wp2_with fail
  refine (impl_Column_at _ _ _ _ rs4 hN4.out (own_reads hx4) (fun r hr => (hI4.out r hr).reads) hs4.out (by omega) a1 ha1).mono ?_
  rintro e w5 ⟨A5, c5, rfl, ho5, hb5⟩
  rw [colOf_key a1 hy4.out] at ho5 ⊢
  replace ho5 := Owned.mk' ho5
  have hz5 := hb5.size
  replace hr0 := hr0.below hb5 hsz
  replace hin0 := hin0.below hb5 hsz
  replace ho3 := ho3.step hb5
  replace hx4 := own_step hx4 hb5
  replace hI4 := Lib.hid (fun r hr => (hI4.out r hr).step hb5)
  replace hbl := Below.stepU hbl hsz hb5
  replace hsz := Nat.le_trans hsz hz5
  clear hb5
  go_wp2_with fail
  refine (eqValS_same _ _ _ _ _ _ (ho5.reads.more (by omega)) (ho3.reads.more (by omega)) (by omega)).mono ?_
  rintro e w6 ⟨rfl, hb6⟩
  have hz6 := hb6.size
  replace hr0 := hr0.below hb6 hsz
  replace hin0 := hin0.below hb6 hsz
  replace ho3 := ho3.step hb6
  replace hx4 := own_step hx4 hb6
  replace hI4 := Lib.hid (fun r hr => (hI4.out r hr).step hb6)
  replace ho5 := ho5.step hb6
  replace hbl := Below.stepU hbl hsz hb6
  replace hsz := Nat.le_trans hsz hz6
  clear hb6
  go_wp2_with fail
  refine (toRowS_any _ _ _ _ (hr0.more (by omega)) (hin0.more (by omega)) hsm0.out (by omega)).mono ?_
  rintro e w7 ⟨g7, rs7, rfl, hx7, hy7, hz_7, hb7⟩
  replace hx7 := own_reads hx7
  have hs7 := Lib.hid (small_key hy7 hsm0.out)
  have hN7 := Lib.hid (show rs7.length = a0.length from key_len hy7)
  replace hy7 := Lib.hid hy7
  have hz7 := hb7.size
  replace hr0 := hr0.below hb7 hsz
  replace hin0 := hin0.below hb7 hsz
  replace ho3 := ho3.step hb7
  replace hx4 := own_step hx4 hb7
  replace hI4 := Lib.hid (fun r hr => (hI4.out r hr).step hb7)
  replace ho5 := ho5.step hb7
  replace hbl := Below.stepU hbl hsz hb7
  replace hsz := Nat.le_trans hsz hz7
  clear hb7
  go_wp2_with fail
  refine (eqRowS_same _ _ _ _ _ _ rs4 rs7 hN4.out hN7.out (own_reads hx4) (fun r hr => (hI4.out r hr).reads) (hx7.more (by omega)) (hz_7.more (by omega)) (hy4.out.trans hy7.out.symm) hs4.out (by omega)).mono ?_
  rintro e w8 ⟨rfl, hb8⟩
  have hz8 := hb8.size
  replace hr0 := hr0.below hb8 hsz
  replace hin0 := hin0.below hb8 hsz
  replace ho3 := ho3.step hb8
  replace hx4 := own_step hx4 hb8
  replace hI4 := Lib.hid (fun r hr => (hI4.out r hr).step hb8)
  replace ho5 := ho5.step hb8
  replace hx7 := hx7.below hb8 (by omega)
  replace hz_7 := hz_7.below hb8 (by omega)
  replace hbl := Below.stepU hbl hsz hb8
  replace hsz := Nat.le_trans hsz hz8
  clear hb8
  clear hx7 hz_7
  go_wp2_with fail
  have hu := hu4.out
  refine (markRowS_any _ lo4 hi4 _ rs4 hN4.out hx4 hI4.out hP4.out (.inr HB4.out) 1 (by omega)).mono ?_
  rintro e w9 ⟨q0, rfl, hT9⟩
  have hz9 := hT9.size
  replace hin0 : RowsIn w9 w.heap.size a0 := fun r hr => (hin0 r hr).turned hT9 (by omega) (by omega)
  replace hr0 := hr0.turned hT9 (by omega) (by omega)
  replace ho3 := ho3.turned hT9 (by omega)
  replace ho5 := ho5.turned hT9 (by omega)
  replace hbl := Below.turned hbl hT9 (by omega) (by omega)
  replace hsz := Nat.le_trans hsz hz9
  have hq0 : decide ((q0 : Int) < 0) = false := by simp
  clear hT9 hx4 hI4 hu
  go_wp2_with fail
  refine (eqValS_same _ _ _ _ _ _ (ho5.reads.more (by omega)) (ho3.reads.more (by omega)) (by omega)).mono ?_
  rintro e w10 ⟨rfl, hb10⟩
  have hz10 := hb10.size
  replace hr0 := hr0.below hb10 hsz
  replace hin0 := hin0.below hb10 hsz
  replace ho3 := ho3.step hb10
  replace ho5 := ho5.step hb10
  replace hbl := Below.stepU hbl hsz hb10
  replace hsz := Nat.le_trans hsz hz10
  clear hb10
  go_wp2_with fail
  refine (markValS_any _ _ _ _ _ _ _ 1 (by omega) (by omega) ho5.1 (by omega)).mono ?_
  rintro e w11 ⟨rfl, hm_, hgm11⟩
  have hz11 := hgm11.size
  replace hr0 := hr0.apart' ho5 hgm11 (by omega) (by omega)
  replace hin0 : RowsIn w11 w.heap.size a0 := fun r hr => (hin0 r hr).apart' ho5 hgm11 (by omega) (by omega)
  replace ho3 := ho3.apart' ho5 hgm11 (by omega)
  replace hbl := Below.apart' hbl ho5 hgm11 (by omega) (by omega)
  replace hsz := Nat.le_trans hsz hz11
  replace ho5 : Owned _ _ _ _ _ _ _ _ _ := ⟨hm_, ho5.2⟩
  clear hgm11
  go_wp2_with fail
  refine (heldValS_any _ _ _ _ _ 1 (by omega) (by omega) (ho5.reads.more (by omega))).mono ?_
  rintro e w12 ⟨rfl, hb12⟩
  have hz12 := hb12.size
  replace hr0 := hr0.below hb12 hsz
  replace hin0 := hin0.below hb12 hsz
  replace ho3 := ho3.step hb12
  replace ho5 := ho5.step hb12
  replace hbl := Below.stepU hbl hsz hb12
  replace hsz := Nat.le_trans hsz hz12
  clear hb12
  go_wp2_with fail
  refine (toRowS_any _ _ _ _ (hr0.more (by omega)) (hin0.more (by omega)) hsm0.out (by omega)).mono ?_
  rintro e w13 ⟨g13, rs13, rfl, hx13, hy13, hz_13, hb13⟩
  replace hx13 := own_reads hx13
  have hs13 := Lib.hid (small_key hy13 hsm0.out)
  have hN13 := Lib.hid (show rs13.length = a0.length from key_len hy13)
  replace hy13 := Lib.hid hy13
  have hz13 := hb13.size
  replace hr0 := hr0.below hb13 hsz
  replace hin0 := hin0.below hb13 hsz
  replace ho3 := ho3.step hb13
  replace ho5 := ho5.step hb13
  replace hbl := Below.stepU hbl hsz hb13
  replace hsz := Nat.le_trans hsz hz13
  clear hb13
  go_wp2_with fail
  refine (impl_Column_at _ _ _ _ rs13 hN13.out (hx13.more (by omega)) (hz_13.more (by omega)) hs13.out (by omega) a1 ha1).mono ?_
  rintro e w14 ⟨A14, c14, rfl, ho14, hb14⟩
  rw [colOf_key a1 hy13.out] at ho14 ⊢
  replace ho14 := Owned.mk' ho14
  have hz14 := hb14.size
  replace hr0 := hr0.below hb14 hsz
  replace hin0 := hin0.below hb14 hsz
  replace ho3 := ho3.step hb14
  replace ho5 := ho5.step hb14
  replace hx13 := hx13.below hb14 (by omega)
  replace hz_13 := hz_13.below hb14 (by omega)
  replace hbl := Below.stepU hbl hsz hb14
  replace hsz := Nat.le_trans hsz hz14
  clear hb14
  go_wp2_with fail
  clear hx13 hz_13
  refine (eqValS_same _ _ _ _ _ _ (ho14.reads.more (by omega)) (ho3.reads.more (by omega)) (by omega)).mono ?_
  rintro e w15 ⟨rfl, hb15⟩
  have hz15 := hb15.size
  replace hr0 := hr0.below hb15 hsz
  replace hin0 := hin0.below hb15 hsz
  replace ho3 := ho3.step hb15
  replace ho5 := ho5.step hb15
  replace ho14 := ho14.step hb15
  replace hbl := Below.stepU hbl hsz hb15
  replace hsz := Nat.le_trans hsz hz15
  clear hb15
  go_wp2_with fail
  refine (heldValS_any _ _ _ _ _ 1 (by omega) (by omega) (ho5.reads.more (by omega))).mono ?_
  rintro e w16 ⟨rfl, hb16⟩
  have hz16 := hb16.size
  replace hr0 := hr0.below hb16 hsz
  replace hin0 := hin0.below hb16 hsz
  replace ho3 := ho3.step hb16
  replace ho5 := ho5.step hb16
  replace ho14 := ho14.step hb16
  replace hbl := Below.stepU hbl hsz hb16
  replace hsz := Nat.le_trans hsz hz16
  clear hb16
  go_wp2_with fail
  go_ret
  exact ⟨rfl, hbl⟩

end Go.Proofs.Ytpchffcecmoieaa.fnExactColumn
