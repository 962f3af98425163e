/-
  The walk of the law FnExactSameRows: the Go function returns true, and leaves what it was handed as it was.
-/
import Derived.Test.YtckfogpjljbelaaRows2
namespace Go.Proofs.Ytckfogpjljbelaa.fnExactSameRows
open Go.RowKit
set_option linter.unusedVariables false

set_option maxRecDepth 100000 in
set_option maxHeartbeats 4000000 in
theorem walk (w : World) (A0 : Option Addr) (c0 : Nat) (a0 : List RowV) (hc0 : a0.length ≤ c0) (hm0 : c0 ≤ maxLen) (hr0 : Reads w w.heap.size 2 A0 a0.length (a0.flatMap RowV.enc)) (hi0 : ∀ x ∈ a0, x.ok w) (A1 : Option Addr) (c1 : Nat) (a1 : List RowV) (hc1 : a1.length ≤ c1) (hm1 : c1 ≤ maxLen) (hr1 : Reads w w.heap.size 2 A1 a1.length (a1.flatMap RowV.enc)) (hi1 : ∀ x ∈ a1, x.ok w) :
    Calls Try.prog 7 #[.slice A0 a0.length c0, .slice A1 a1.length c1] w fun e w' => e = .returned (.bool true) ∧ Below w.heap.size w w' := by
  have hin0 : RowsIn w w.heap.size a0 := fun r hr => (hi0 r hr).2.2.2.1
  have hok0 : ∀ r ∈ a0, r.l.length ≤ maxLen ∧ ∀ x ∈ r.l, x.ok := fun r hr => ⟨Nat.le_trans (hi0 r hr).2.1 (hi0 r hr).2.2.1, (hi0 r hr).2.2.2.2⟩
  have hmx0 : a0.length ≤ maxLen := Nat.le_trans hc0 hm0
  clear hi0
  have hin1 : RowsIn w w.heap.size a1 := fun r hr => (hi1 r hr).2.2.2.1
  have hok1 : ∀ r ∈ a1, r.l.length ≤ maxLen ∧ ∀ x ∈ r.l, x.ok := fun r hr => ⟨Nat.le_trans (hi1 r hr).2.1 (hi1 r hr).2.2.1, (hi1 r hr).2.2.2.2⟩
  have hmx1 : a1.length ≤ maxLen := Nat.le_trans hc1 hm1
  clear hi1
  have hbl := Below.refl w.heap.size w
  have hsz : w.heap.size ≤ w.heap.size := Nat.le_refl _
  go_enter Try.func7, Try.ntmps7
  go_wp2_with fail
  refine (szRowS_any _ _ _ _ (hr0.more (by omega)) (hin0.more (by omega)) hok0 hmx0 1048576 (by omega) (by omega)).mono ?_
  rintro e w1 ⟨l0, rfl, ⟨hl0a, hl0b⟩, hb1⟩
  have hz1 := hb1.size
  replace hr0 := hr0.below hb1 hsz
  replace hin0 := hin0.below hb1 hsz
  replace hr1 := hr1.below hb1 hsz
  replace hin1 := hin1.below hb1 hsz
  replace hbl := Below.stepU hbl hsz hb1
  replace hsz := Nat.le_trans hsz hz1
  clear hb1
  have HL0 := Lib.hid hl0b
  clear hl0b hok0 hmx0
  by_cases hneg0 : l0 < 0
  · go_wp2_with fail
    go_ret
    exact ⟨rfl, hbl⟩
  obtain ⟨hle0, hsm0⟩ := HL0.out (by omega)
  have hlen0 : a0.length ≤ 1048576 := by omega
  clear HL0
  go_wp2_with fail
  refine (szRowS_any _ _ _ _ (hr1.more (by omega)) (hin1.more (by omega)) hok1 hmx1 l0 (by omega) (by omega)).mono ?_
  rintro e w2 ⟨l1, rfl, ⟨hl1a, hl1b⟩, hb2⟩
  have hz2 := hb2.size
  replace hr0 := hr0.below hb2 hsz
  replace hin0 := hin0.below hb2 hsz
  replace hr1 := hr1.below hb2 hsz
  replace hin1 := hin1.below hb2 hsz
  replace hbl := Below.stepU hbl hsz hb2
  replace hsz := Nat.le_trans hsz hz2
  clear hb2
  have HL1 := Lib.hid hl1b
  clear hl1b hok1 hmx1
  by_cases hneg1 : l1 < 0
  · go_wp2_with fail
    go_ret
    exact ⟨rfl, hbl⟩
  obtain ⟨hle1, hsm1⟩ := HL1.out (by omega)
  have hlen1 : a1.length ≤ 1048576 := by omega
  clear HL1
  go_wp2_with fail
  refine (toRowS_any _ _ _ _ (hr0.more (by omega)) (hin0.more (by omega)) hsm0 (by omega)).mono ?_
  rintro e w3 ⟨g3, rs3, rfl, hx3, hy3, hz_3, hb3⟩
  replace hx3 := own_reads hx3
  have hs3 : Small rs3 := small_key hy3 hsm0
  have hN3 := Lib.hid (show rs3.length = a0.length from key_len hy3)
  replace hy3 := Lib.hid hy3
  replace hs3 := Lib.hid hs3
  have hz3 := hb3.size
  replace hr0 := hr0.below hb3 hsz
  replace hin0 := hin0.below hb3 hsz
  replace hr1 := hr1.below hb3 hsz
  replace hin1 := hin1.below hb3 hsz
  replace hbl := Below.stepU hbl hsz hb3
  replace hsz := Nat.le_trans hsz hz3
  clear hb3
  go_wp2_with fail
  refine (toRowS_any _ _ _ _ (hr1.more (by omega)) (hin1.more (by omega)) hsm1 (by omega)).mono ?_
  rintro e w4 ⟨g4, rs4, rfl, hx4, hy4, hz_4, hb4⟩
  replace hx4 := own_reads hx4
  have hs4 : Small rs4 := small_key hy4 hsm1
  have hN4 := Lib.hid (show rs4.length = a1.length from key_len hy4)
  replace hy4 := Lib.hid hy4
  replace hs4 := Lib.hid hs4
  have hz4 := hb4.size
  replace hr0 := hr0.below hb4 hsz
  replace hin0 := hin0.below hb4 hsz
  replace hr1 := hr1.below hb4 hsz
  replace hin1 := hin1.below hb4 hsz
  replace hx3 := hx3.below hb4 (by omega)
  replace hz_3 := hz_3.below hb4 (by omega)
  replace hbl := Below.stepU hbl hsz hb4
  replace hsz := Nat.le_trans hsz hz4
  clear hb4
  go_wp2_with fail
  refine (spec_SameRows _ _ _ _ rs3 hN3.out (hx3.more (by omega)) (hz_3.more (by omega)) hs3.out (by omega) _ _ _ rs4 hN4.out (hx4.more (by omega)) (hz_4.more (by omega)) hs4.out (by omega)).mono ?_
  rintro e w5 ⟨rfl, hb5⟩
  have hz5 := hb5.size
  replace hr0 := hr0.below hb5 hsz
  replace hin0 := hin0.below hb5 hsz
  replace hr1 := hr1.below hb5 hsz
  replace hin1 := hin1.below hb5 hsz
  replace hx3 := hx3.below hb5 (by omega)
  replace hz_3 := hz_3.below hb5 (by omega)
  replace hx4 := hx4.below hb5 (by omega)
  replace hz_4 := hz_4.below hb5 (by omega)
  replace hbl := Below.stepU hbl hsz hb5
  replace hsz := Nat.le_trans hsz hz5
  clear hb5
  rw [same_keys hy3.out hy4.out]
  go_wp2_with fail
  clear hx3 hz_3
  clear hx4 hz_4
  refine (toRowS_any _ _ _ _ (hr0.more (by omega)) (hin0.more (by omega)) hsm0 (by omega)).mono ?_
  rintro e w6 ⟨g6, rs6, rfl, hx6, hy6, hz_6, hb6⟩
  replace hx6 := own_reads hx6
  have hs6 : Small rs6 := small_key hy6 hsm0
  have hN6 := Lib.hid (show rs6.length = a0.length from key_len hy6)
  replace hy6 := Lib.hid hy6
  replace hs6 := Lib.hid hs6
  have hz6 := hb6.size
  replace hr0 := hr0.below hb6 hsz
  replace hin0 := hin0.below hb6 hsz
  replace hr1 := hr1.below hb6 hsz
  replace hin1 := hin1.below hb6 hsz
  replace hbl := Below.stepU hbl hsz hb6
  replace hsz := Nat.le_trans hsz hz6
  clear hb6
  go_wp2_with fail
  refine (toRowS_any _ _ _ _ (hr1.more (by omega)) (hin1.more (by omega)) hsm1 (by omega)).mono ?_
  rintro e w7 ⟨g7, rs7, rfl, hx7, hy7, hz_7, hb7⟩
  replace hx7 := own_reads hx7
  have hs7 : Small rs7 := small_key hy7 hsm1
  have hN7 := Lib.hid (show rs7.length = a1.length from key_len hy7)
  replace hy7 := Lib.hid hy7
  replace hs7 := Lib.hid hs7
  have hz7 := hb7.size
  replace hr0 := hr0.below hb7 hsz
  replace hin0 := hin0.below hb7 hsz
  replace hr1 := hr1.below hb7 hsz
  replace hin1 := hin1.below hb7 hsz
  replace hx6 := hx6.below hb7 (by omega)
  replace hz_6 := hz_6.below hb7 (by omega)
  replace hbl := Below.stepU hbl hsz hb7
  replace hsz := Nat.le_trans hsz hz7
  clear hb7
  go_wp2_with fail
  refine (impl_SameRows _ _ _ _ rs6 hN6.out (hx6.more (by omega)) (hz_6.more (by omega)) hs6.out (by omega) _ _ _ rs7 hN7.out (hx7.more (by omega)) (hz_7.more (by omega)) hs7.out (by omega)).mono ?_
  rintro e w8 ⟨rfl, hb8⟩
  have hz8 := hb8.size
  replace hr0 := hr0.below hb8 hsz
  replace hin0 := hin0.below hb8 hsz
  replace hr1 := hr1.below hb8 hsz
  replace hin1 := hin1.below hb8 hsz
  replace hx6 := hx6.below hb8 (by omega)
  replace hz_6 := hz_6.below hb8 (by omega)
  replace hx7 := hx7.below hb8 (by omega)
  replace hz_7 := hz_7.below hb8 (by omega)
  replace hbl := Below.stepU hbl hsz hb8
  replace hsz := Nat.le_trans hsz hz8
  clear hb8
  rw [same_keys hy6.out hy7.out]
  go_wp2_with fail
  refine (toRowS_any _ _ _ _ (hr0.more (by omega)) (hin0.more (by omega)) hsm0 (by omega)).mono ?_
  rintro e w9 ⟨g9, rs9, rfl, hx9, hy9, hz_9, hb9⟩
  replace hx9 := own_reads hx9
  have hs9 : Small rs9 := small_key hy9 hsm0
  have hN9 := Lib.hid (show rs9.length = a0.length from key_len hy9)
  replace hy9 := Lib.hid hy9
  replace hs9 := Lib.hid hs9
  have hz9 := hb9.size
  replace hr0 := hr0.below hb9 hsz
  replace hin0 := hin0.below hb9 hsz
  replace hr1 := hr1.below hb9 hsz
  replace hin1 := hin1.below hb9 hsz
  replace hx6 := hx6.below hb9 (by omega)
  replace hz_6 := hz_6.below hb9 (by omega)
  replace hx7 := hx7.below hb9 (by omega)
  replace hz_7 := hz_7.below hb9 (by omega)
  replace hbl := Below.stepU hbl hsz hb9
  replace hsz := Nat.le_trans hsz hz9
  clear hb9
  go_wp2_with fail
  refine (eqRowS_same _ _ _ _ _ _ rs6 rs9 hN6.out hN9.out (hx6.more (by omega)) (hz_6.more (by omega)) (hx9.more (by omega)) (hz_9.more (by omega)) (hy6.out.trans hy9.out.symm) hs6.out (by omega)).mono ?_
  rintro e w10 ⟨rfl, hb10⟩
  have hz10 := hb10.size
  replace hr0 := hr0.below hb10 hsz
  replace hin0 := hin0.below hb10 hsz
  replace hr1 := hr1.below hb10 hsz
  replace hin1 := hin1.below hb10 hsz
  replace hx6 := hx6.below hb10 (by omega)
  replace hz_6 := hz_6.below hb10 (by omega)
  replace hx7 := hx7.below hb10 (by omega)
  replace hz_7 := hz_7.below hb10 (by omega)
  replace hx9 := hx9.below hb10 (by omega)
  replace hz_9 := hz_9.below hb10 (by omega)
  replace hbl := Below.stepU hbl hsz hb10
  replace hsz := Nat.le_trans hsz hz10
  clear hb10
  go_wp2_with fail
  refine (toRowS_any _ _ _ _ (hr1.more (by omega)) (hin1.more (by omega)) hsm1 (by omega)).mono ?_
  rintro e w11 ⟨g11, rs11, rfl, hx11, hy11, hz_11, hb11⟩
  replace hx11 := own_reads hx11
  have hs11 : Small rs11 := small_key hy11 hsm1
  have hN11 := Lib.hid (show rs11.length = a1.length from key_len hy11)
  replace hy11 := Lib.hid hy11
  replace hs11 := Lib.hid hs11
  have hz11 := hb11.size
  replace hr0 := hr0.below hb11 hsz
  replace hin0 := hin0.below hb11 hsz
  replace hr1 := hr1.below hb11 hsz
  replace hin1 := hin1.below hb11 hsz
  replace hx6 := hx6.below hb11 (by omega)
  replace hz_6 := hz_6.below hb11 (by omega)
  replace hx7 := hx7.below hb11 (by omega)
  replace hz_7 := hz_7.below hb11 (by omega)
  replace hx9 := hx9.below hb11 (by omega)
  replace hz_9 := hz_9.below hb11 (by omega)
  replace hbl := Below.stepU hbl hsz hb11
  replace hsz := Nat.le_trans hsz hz11
  clear hb11
  go_wp2_with fail
  refine (eqRowS_same _ _ _ _ _ _ rs7 rs11 hN7.out hN11.out (hx7.more (by omega)) (hz_7.more (by omega)) (hx11.more (by omega)) (hz_11.more (by omega)) (hy7.out.trans hy11.out.symm) hs7.out (by omega)).mono ?_
  rintro e w12 ⟨rfl, hb12⟩
  have hz12 := hb12.size
  replace hr0 := hr0.below hb12 hsz
  replace hin0 := hin0.below hb12 hsz
  replace hr1 := hr1.below hb12 hsz
  replace hin1 := hin1.below hb12 hsz
  replace hx6 := hx6.below hb12 (by omega)
  replace hz_6 := hz_6.below hb12 (by omega)
  replace hx7 := hx7.below hb12 (by omega)
  replace hz_7 := hz_7.below hb12 (by omega)
  replace hx9 := hx9.below hb12 (by omega)
  replace hz_9 := hz_9.below hb12 (by omega)
  replace hx11 := hx11.below hb12 (by omega)
  replace hz_11 := hz_11.below hb12 (by omega)
  replace hbl := Below.stepU hbl hsz hb12
  replace hsz := Nat.le_trans hsz hz12
  clear hb12
  go_wp2_with fail
  go_ret
  exact ⟨rfl, hbl⟩

end Go.Proofs.Ytckfogpjljbelaa.fnExactSameRows
