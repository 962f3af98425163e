/-
  The walk of the law FnDigits: the Go function returns true, and leaves what it was handed as it was.
-/
import Derived.Test.YtgpimlmolcjeoaaDoorNdraw
import Derived.Test.YtgpimlmolcjeoaaDoorPnum
namespace Go.Proofs.YtgpimlmolcjeoaaDoor.fnDigits
open Go.RowKit
set_option linter.unusedVariables false
set_option maxRecDepth 100000
set_option maxHeartbeats 4000000 in
theorem walk (w : World) (A0 : Option Addr) (c0 : Nat) (a0 : List UInt8) (hc0 : a0.length ≤ c0) (hm0 : c0 ≤ maxLen) (hr0 : Reads w w.heap.size 1 A0 a0.length (byteCells a0)) (hL : laidMet Tryd.prog Rows.fnDigitsRow.laid w) :
    Calls Tryd.prog 7 #[.slice A0 a0.length c0] w fun e w' => e = .returned (.bool true) ∧ Below w.heap.size w w' := by
  have hT0 : Tab w := tab_of hL
  have hE0 : Errs w := errs_of hL
  have hbl0 := Below.refl w.heap.size w
  clear hL
  have hmx : a0.length ≤ maxLen := Nat.le_trans hc0 hm0
  unfold maxLen at hmx
  by_cases hbig : 1048576 < (a0.length : Int)
  · go_enter Tryd.func7, Tryd.ntmps7
    go_wp2_with fail
    refine (big_any _ _ _ _).mono ?_
    rintro e w1 ⟨rfl, rfl⟩
    rw [decide_eq_true hbig]
    go_wp2
    go_ret
    exact ⟨rfl, Below.refl _ _⟩
  have hlen : a0.length ≤ 1048576 := by omega
  go_enter Tryd.func7, Tryd.ntmps7
  go_wp2_with fail
  refine (big_any _ _ _ _).mono ?_
  rintro e w1 ⟨rfl, rfl⟩
  rw [decide_eq_false (show ¬ 1048576 < (a0.length : Int) by omega)]
  clear hbig
  go_wp2_with fail
  refine (DrawNumText_any _ _ _ _ hr0 (by omega)).mono ?_
  rintro e w1 ⟨n, rfl, hn, hb1⟩
  have hbl1 := hbl0.trans (hb1.mono hbl0.size)
  have hT1 := hT0.below hb1
  have hE1 := hE0.below hb1
  clear hb1 hbl0 hT0 hE0
  replace hr0 := (hr0.below hbl1 (Nat.le_refl _)).more hbl1.size
  go_wp2_with fail
  refine (DrawParseNum_any _ _ _ _ hr0 (by omega)).mono ?_
  rintro e w2 ⟨s, rfl, hs, hb2⟩
  have hbl2 := hbl1.trans (hb2.mono hbl1.size)
  have hT2 := hT1.below hb2
  have hE2 := hE1.below hb2
  clear hb2 hbl1 hT1 hE1
  clear hr0
  have hns := numText_size hn
  go_wp2_with fail
  refine (impl_NumText _ n hn hT2).mono ?_
  rintro e w3 ⟨rfl, hb3⟩
  have hbl3 := hbl2.trans (hb3.mono hbl2.size)
  have hT3 := hT2.below hb3
  have hE3 := hE2.below hb3
  clear hb3 hbl2 hT2 hE2
  go_wp2_with fail
  refine (impl_ParseNum _ (numText n) (by omega) hT3 hE3).mono ?_
  rintro e w4 ⟨rfl, hb4⟩
  have hbl4 := hbl3.trans (hb4.mono hbl3.size)
  have hT4 := hT3.below hb4
  have hE4 := hE3.below hb4
  clear hb4 hbl3 hT3 hE3
  cases hN : inB n (-1000000000) 1000000000
  · have hn0 : ¬ IsN n := inB_not.1 hN
    rw [show pnT (numText n) = .tuple #[.int .i64 0, .bool false] from (pnT_none (pnOf_itoa_big hn0)).symm]
    clear hN
    unfold IsN at hn0
    go_wp2_with fail
    refine (impl_ParseNum _ s (by omega) hT4 hE4).mono ?_
    rintro e w5 ⟨rfl, hb5⟩
    have hbl5 := hbl4.trans (hb5.mono hbl4.size)
    have hT5 := hT4.below hb5
    have hE5 := hE4.below hb5
    clear hb5 hbl4 hT4 hE4
    cases hp : pnOf s.data.toList with
    | none =>
      have hP := Lib.hid (show pnT s = .tuple #[.int .i64 0, .bool false] from (pnT_none hp).symm)
      clear hp
      rw [hP.out]
      go_wp2_with fail
      refine (spec_ParseNum _ s (by omega)).mono ?_
      rintro e w6 ⟨rfl, hb6⟩
      have hbl6 := hbl5.trans (hb6.mono hbl5.size)
      have hT6 := hT5.below hb6
      have hE6 := hE5.below hb6
      clear hb6 hbl5 hT5 hE5
      rw [hP.out]
      go_wp2_with fail
      refine (impl_NumText _ n hn hT6).mono ?_
      rintro e w7 ⟨rfl, hb7⟩
      have hbl7 := hbl6.trans (hb7.mono hbl6.size)
      have hT7 := hT6.below hb7
      have hE7 := hE6.below hb7
      clear hb7 hbl6 hT6 hE6
      go_wp2_with fail
      refine (spec_NumText _ n hn).mono ?_
      rintro e w8 ⟨rfl, hb8⟩
      have hbl8 := hbl7.trans (hb8.mono hbl7.size)
      have hT8 := hT7.below hb8
      have hE8 := hE7.below hb8
      clear hb8 hbl7 hT7 hE7
      rcases (show n < -1000000000 ∨ (¬ n < -1000000000 ∧ 1000000000 < n) by omega) with q1 | ⟨q1, q2⟩
      all_goals
        first | (have d1 : decide (n ≤ 1000000000) = false := by simp; omega) | skip
        go_wp2
        go_ret
        exact ⟨rfl, hbl8⟩
    | some m =>
      have hP := Lib.hid (show pnT s = .tuple #[.int .i64 m, .bool true] from (pnT_some hp).symm)
      have hm1 : I64 m := by have := (pnOf_some.1 hp).1; unfold IsN at this; unfold I64; omega
      have hm2 : (numText m).toList == s.toList := by rw [numText_eq.2 (pnOf_some.1 hp).2]; exact beq_self_eq_true _
      clear hp
      rw [hP.out]
      go_wp2_with fail
      refine (spec_ParseNum _ s (by omega)).mono ?_
      rintro e w6 ⟨rfl, hb6⟩
      have hbl6 := hbl5.trans (hb6.mono hbl5.size)
      have hT6 := hT5.below hb6
      have hE6 := hE5.below hb6
      clear hb6 hbl5 hT5 hE5
      rw [hP.out]
      go_wp2_with fail
      refine (impl_NumText _ n hn hT6).mono ?_
      rintro e w7 ⟨rfl, hb7⟩
      have hbl7 := hbl6.trans (hb7.mono hbl6.size)
      have hT7 := hT6.below hb7
      have hE7 := hE6.below hb7
      clear hb7 hbl6 hT6 hE6
      go_wp2_with fail
      refine (spec_NumText _ n hn).mono ?_
      rintro e w8 ⟨rfl, hb8⟩
      have hbl8 := hbl7.trans (hb8.mono hbl7.size)
      have hT8 := hT7.below hb8
      have hE8 := hE7.below hb8
      clear hb8 hbl7 hT7 hE7
      rcases (show n < -1000000000 ∨ (¬ n < -1000000000 ∧ 1000000000 < n) by omega) with q1 | ⟨q1, q2⟩
      all_goals
        first | (have d1 : decide (n ≤ 1000000000) = false := by simp; omega) | skip
        go_wp2_with fail
        refine (impl_NumText _ m hm1 hT8).mono ?_
        rintro e w9 ⟨rfl, hb9⟩
        have hbl9 := hbl8.trans (hb9.mono hbl8.size)
        have hT9 := hT8.below hb9
        have hE9 := hE8.below hb9
        clear hb9 hbl8 hT8 hE8
        go_wp2
        go_ret
        exact ⟨rfl, hbl9⟩
  · have hn0 : IsN n := inB_iff.1 hN
    rw [show pnT (numText n) = .tuple #[.int .i64 n, .bool true] from (pnT_some (pnOf_itoa hn0)).symm]
    clear hN
    unfold IsN at hn0
    go_wp2_with fail
    refine (impl_ParseNum _ s (by omega) hT4 hE4).mono ?_
    rintro e w5 ⟨rfl, hb5⟩
    have hbl5 := hbl4.trans (hb5.mono hbl4.size)
    have hT5 := hT4.below hb5
    have hE5 := hE4.below hb5
    clear hb5 hbl4 hT4 hE4
    cases hp : pnOf s.data.toList with
    | none =>
      have hP := Lib.hid (show pnT s = .tuple #[.int .i64 0, .bool false] from (pnT_none hp).symm)
      clear hp
      rw [hP.out]
      go_wp2_with fail
      refine (spec_ParseNum _ s (by omega)).mono ?_
      rintro e w6 ⟨rfl, hb6⟩
      have hbl6 := hbl5.trans (hb6.mono hbl5.size)
      have hT6 := hT5.below hb6
      have hE6 := hE5.below hb6
      clear hb6 hbl5 hT5 hE5
      rw [hP.out]
      go_wp2_with fail
      refine (impl_NumText _ n hn hT6).mono ?_
      rintro e w7 ⟨rfl, hb7⟩
      have hbl7 := hbl6.trans (hb7.mono hbl6.size)
      have hT7 := hT6.below hb7
      have hE7 := hE6.below hb7
      clear hb7 hbl6 hT6 hE6
      go_wp2_with fail
      refine (spec_NumText _ n hn).mono ?_
      rintro e w8 ⟨rfl, hb8⟩
      have hbl8 := hbl7.trans (hb8.mono hbl7.size)
      have hT8 := hT7.below hb8
      have hE8 := hE7.below hb8
      clear hb8 hbl7 hT7 hE7
      go_wp2
      go_ret
      exact ⟨rfl, hbl8⟩
    | some m =>
      have hP := Lib.hid (show pnT s = .tuple #[.int .i64 m, .bool true] from (pnT_some hp).symm)
      have hm1 : I64 m := by have := (pnOf_some.1 hp).1; unfold IsN at this; unfold I64; omega
      have hm2 : (numText m).toList == s.toList := by rw [numText_eq.2 (pnOf_some.1 hp).2]; exact beq_self_eq_true _
      clear hp
      rw [hP.out]
      go_wp2_with fail
      refine (spec_ParseNum _ s (by omega)).mono ?_
      rintro e w6 ⟨rfl, hb6⟩
      have hbl6 := hbl5.trans (hb6.mono hbl5.size)
      have hT6 := hT5.below hb6
      have hE6 := hE5.below hb6
      clear hb6 hbl5 hT5 hE5
      rw [hP.out]
      go_wp2_with fail
      refine (impl_NumText _ n hn hT6).mono ?_
      rintro e w7 ⟨rfl, hb7⟩
      have hbl7 := hbl6.trans (hb7.mono hbl6.size)
      have hT7 := hT6.below hb7
      have hE7 := hE6.below hb7
      clear hb7 hbl6 hT6 hE6
      go_wp2_with fail
      refine (spec_NumText _ n hn).mono ?_
      rintro e w8 ⟨rfl, hb8⟩
      have hbl8 := hbl7.trans (hb8.mono hbl7.size)
      have hT8 := hT7.below hb8
      have hE8 := hE7.below hb8
      clear hb8 hbl7 hT7 hE7
      go_wp2_with fail
      refine (impl_NumText _ m hm1 hT8).mono ?_
      rintro e w9 ⟨rfl, hb9⟩
      have hbl9 := hbl8.trans (hb9.mono hbl8.size)
      have hT9 := hT8.below hb9
      have hE9 := hE8.below hb9
      clear hb9 hbl8 hT8 hE8
      go_wp2
      go_ret
      exact ⟨rfl, hbl9⟩
end Go.Proofs.YtgpimlmolcjeoaaDoor.fnDigits
