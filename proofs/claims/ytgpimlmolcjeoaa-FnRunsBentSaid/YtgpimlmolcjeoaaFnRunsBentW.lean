/-
  The walk of the law FnRunsBent: the Go function returns true, and leaves what it was handed as it was.
-/
import Derived.Test.YtgpimlmolcjeoaaTdraw
import Derived.Test.YtgpimlmolcjeoaaSamev
import Derived.Test.YtgpimlmolcjeoaaBackr
import Derived.Test.YtgpimlmolcjeoaaDecri
import Derived.Test.YtgpimlmolcjeoaaDecrs
namespace Go.Proofs.Ytgpimlmolcjeoaa.fnRunsBent
open Go.RowKit
set_option linter.unusedVariables false

set_option maxRecDepth 100000 in
set_option maxHeartbeats 3200000 in
theorem walk (w : World) (A0 : Option Addr) (c0 : Nat) (a0 : List UInt8) (hc0 : a0.length ≤ c0) (hm0 : c0 ≤ maxLen) (hr0 : Reads w w.heap.size 1 A0 a0.length (byteCells a0)) :
    Calls Try.prog 6 #[.slice A0 a0.length c0] w fun e w' => e = .returned (.bool true) ∧ Below w.heap.size w w' := by
  have hmx : a0.length ≤ maxLen := Nat.le_trans hc0 hm0
  unfold maxLen at hmx
  by_cases hbig : 1048576 < (a0.length : Int)
  · go_enter Try.func6, Try.ntmps6
    go_wp2_with fail
    refine (big_any _ _ _ _).mono ?_
    rintro e w1 ⟨rfl, rfl⟩
    rw [decide_eq_true hbig]
    go_wp2
    go_ret
    exact ⟨rfl, Below.refl _ _⟩
  have hlen : a0.length ≤ 1048576 := by omega
  go_enter Try.func6, Try.ntmps6
  go_wp2_with fail
  refine (big_any _ _ _ _).mono ?_
  rintro e w1 ⟨rfl, rfl⟩
  rw [decide_eq_false (show ¬ 1048576 < (a0.length : Int) by omega)]
  clear hbig
  go_wp2_with fail
  refine (DrawDecRuns_any _ _ _ _ hr0 (by omega)).mono ?_
  rintro e w1 ⟨Ab, cb, b, ty, k, rfl, hb9, hty, hk, hob, hbl1⟩
  go_wp2_with fail
  refine (impl_DecRuns _ _ _ b (own_reads hob) (by omega) (own_cap hob) (own_aform hob) ty hty k hk).mono ?_
  rintro e w2 ⟨Al, cl, rfl, hol, hb_2⟩
  have hbl2 := hbl1.trans (hb_2.mono hbl1.size)
  replace hob := own_step hob hb_2
  replace hol := own_lower hol hbl1.size
  clear hb_2 hbl1
  go_wp2_with fail
  refine (spec_DecRuns _ _ _ b (own_reads hob) (by omega) (own_cap hob) (own_aform hob) ty hty k hk).mono ?_
  rintro e w3 ⟨Am, cm, rfl, hom, hb_3⟩
  have hbl3 := hbl2.trans (hb_3.mono hbl2.size)
  replace hob := own_step hob hb_3
  replace hol := own_step hol hb_3
  replace hom := own_lower hom hbl2.size
  clear hb_3 hbl2
  have hdp := dr_facts (bs := b) (ty := ty) (k := k)
  generalize drL b ty k = l at hdp hol hom ⊢
  generalize drOk b ty k = ok at hdp ⊢
  obtain ⟨hlo, hl64, hdp⟩ := hdp
  clear hty
  go_wp2_with fail
  refine (DrawSpread_any _ _ _ a0 ((hr0.below hbl3 (Nat.le_refl _)).more hbl3.size) (by omega)).mono ?_
  rintro e w4 ⟨Ar, cr, rs, rfl, hrl, hro, hor, hb_4⟩
  have hbl4 := hbl3.trans (hb_4.mono hbl3.size)
  replace hob := own_step hob hb_4
  replace hol := own_step hol hb_4
  replace hom := own_step hom hb_4
  replace hor := own_lower hor hbl3.size
  clear hb_4 hbl3 hr0
  go_wp2_with fail
  refine (laws_sameVals _ _ _ l (own_reads hol) (by omega) hlo _ _ l (own_reads hom) (by omega) hlo).mono ?_
  rintro e w5 ⟨rfl, hb_5⟩
  rw [sameVals_self]
  have hbl5 := hbl4.trans (hb_5.mono hbl4.size)
  replace hob := own_step hob hb_5
  replace hol := own_step hol hb_5
  replace hor := own_step hor hb_5
  clear hb_5 hbl4 hom
  have hso := spread_ok hro
  have hsl := spreadOf_len rs
  go_wp2_with fail
  refine (impl_Spread _ _ _ rs (own_reads hor) (by omega) hro).mono ?_
  rintro e w6 ⟨A6, c6, rfl, ho6, hb_6⟩
  have hbl6 := hbl5.trans (hb_6.mono hbl5.size)
  replace hob := own_step hob hb_6
  replace hol := own_step hol hb_6
  replace hor := own_step hor hb_6
  replace ho6 := own_lower ho6 hbl5.size
  clear hb_6 hbl5
  go_wp2_with fail
  refine (spec_Spread _ _ _ rs (own_reads hor) (by omega) hro).mono ?_
  rintro e w7 ⟨A7, c7, rfl, ho7, hb_7⟩
  have hbl7 := hbl6.trans (hb_7.mono hbl6.size)
  replace hob := own_step hob hb_7
  replace hol := own_step hol hb_7
  replace ho6 := own_step ho6 hb_7
  clear hb_7 hbl6 hor
  go_wp2_with fail
  refine (laws_sameVals _ _ _ (spreadOf rs) (own_reads ho6) (by omega) hso _ _ (spreadOf rs) (own_reads ho7) (by omega) hso).mono ?_
  rintro e w8 ⟨rfl, hb_8⟩
  rw [sameVals_self]
  have hbl8 := hbl7.trans (hb_8.mono hbl7.size)
  replace hob := own_step hob hb_8
  replace hol := own_step hol hb_8
  clear hb_8 hbl7 ho6 ho7 hso hsl
  cases ok
  · go_wp2
    go_ret
    exact ⟨rfl, hbl8⟩
  · obtain ⟨hd1, hd2, hd3⟩ := hdp rfl
    subst hd2
    subst hd3
    have HE := Lib.hid hd1
    clear hd1 hdp
    go_wp2_with fail
    refine (impl_EncRuns _ _ _ l (own_reads hol) (by omega) hlo).mono ?_
    rintro e w9 ⟨A9, c9, rfl, ho9, hb_9⟩
    rw [HE.out] at ho9 ⊢
    have hbl9 := hbl8.trans (hb_9.mono hbl8.size)
    replace hob := own_step hob hb_9
    replace hol := own_step hol hb_9
    clear hb_9 hbl8
    go_wp2_with fail
    refine (same_same _ _ _ _ _ _ (own_reads ho9) (own_reads hob) (by omega)).mono ?_
    rintro e w10 ⟨rfl, hb_10⟩
    have hbl10 := hbl9.trans (hb_10.mono hbl9.size)
    replace hol := own_step hol hb_10
    clear hb_10 hbl9 hob ho9
    go_wp2_with fail
    refine (impl_TypeOf _ _ _ l (own_reads hol) (by omega) hlo).mono ?_
    rintro e w11 ⟨rfl, hb_11⟩
    have hbl11 := hbl10.trans (hb_11.mono hbl10.size)
    clear hb_11 hbl10 hol
    go_wp2
    go_ret
    exact ⟨rfl, hbl11⟩

end Go.Proofs.Ytgpimlmolcjeoaa.fnRunsBent
