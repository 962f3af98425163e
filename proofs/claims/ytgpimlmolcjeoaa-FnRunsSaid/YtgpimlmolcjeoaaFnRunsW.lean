/-
  The walk of the law FnRuns: the Go function returns true, and leaves what it was handed as it was.
-/
import Derived.Test.YtgpimlmolcjeoaaSamev
import Derived.Test.YtgpimlmolcjeoaaBackr
import Derived.Test.YtgpimlmolcjeoaaTurns
import Derived.Test.YtgpimlmolcjeoaaDecri
namespace Go.Proofs.Ytgpimlmolcjeoaa.fnRuns
open Go.RowKit
set_option linter.unusedVariables false

set_option maxRecDepth 100000 in
set_option maxHeartbeats 3200000 in
theorem walk (w : World) (A0 : Option Addr) (c0 : Nat) (a0 : List UInt8) (hc0 : a0.length ≤ c0) (hm0 : c0 ≤ maxLen) (hr0 : Reads w w.heap.size 1 A0 a0.length (byteCells a0)) :
    Calls Try.prog 4 #[.slice A0 a0.length c0] w fun e w' => e = .returned (.bool true) ∧ Below w.heap.size w w' := by
  have hmx : a0.length ≤ maxLen := Nat.le_trans hc0 hm0
  unfold maxLen at hmx
  have hgt := eqGuard_Val
  by_cases hbig : 1048576 < (a0.length : Int)
  · go_enter Try.func4, Try.ntmps4
    go_wp2_with fail
    refine (big_any _ _ _ _).mono ?_
    rintro e w1 ⟨rfl, rfl⟩
    rw [decide_eq_true hbig]
    go_wp2
    go_ret
    exact ⟨rfl, Below.refl _ _⟩
  have hlen : a0.length ≤ 1048576 := by omega
  go_enter Try.func4, Try.ntmps4
  go_wp2_with fail
  refine (big_any _ _ _ _).mono ?_
  rintro e w1 ⟨rfl, rfl⟩
  rw [decide_eq_false (show ¬ 1048576 < (a0.length : Int) by omega)]
  clear hbig
  go_wp2_with fail
  refine (DrawRuns_any _ _ _ _ hr0 (by omega)).mono ?_
  rintro e w1 ⟨Al, cl, l, rfl, hll, hlo, hol, hbl1⟩
  clear hr0
  go_wp2_with fail
  refine (impl_Runs _ _ _ l (own_reads hol) (by omega) hlo).mono ?_
  rintro e w2 ⟨Ar, cr, rfl, hor, hb_2⟩
  have hbl2 := hbl1.trans (hb_2.mono hbl1.size)
  replace hol := own_step hol hb_2
  replace hor := own_lower hor hbl1.size
  clear hb_2 hbl1
  go_wp2_with fail
  refine (impl_EncRuns _ _ _ l (own_reads hol) (by omega) hlo).mono ?_
  rintro e w3 ⟨Ab, cb, rfl, hob, hb_3⟩
  have hbl3 := hbl2.trans (hb_3.mono hbl2.size)
  replace hol := own_step hol hb_3
  replace hor := own_step hor hb_3
  replace hob := own_lower hob hbl2.size
  clear hb_3 hbl2
  have hel := encRuns_len l
  go_wp2_with fail
  refine (spec_EncRuns _ _ _ l (own_reads hol) (by omega) hlo).mono ?_
  rintro e w4 ⟨Ac, cc, rfl, hoc, hb_4⟩
  have hbl4 := hbl3.trans (hb_4.mono hbl3.size)
  replace hol := own_step hol hb_4
  replace hor := own_step hor hb_4
  replace hob := own_step hob hb_4
  clear hb_4 hbl3
  go_wp2_with fail
  refine (same_same _ _ _ _ _ _ (own_reads hob) (own_reads hoc) (by omega)).mono ?_
  rintro e w5 ⟨rfl, hb_5⟩
  have hbl5 := hbl4.trans (hb_5.mono hbl4.size)
  replace hol := own_step hol hb_5
  replace hor := own_step hor hb_5
  replace hob := own_step hob hb_5
  clear hb_5 hbl4 hoc
  go_wp2_with fail
  refine (impl_LongestRun _ _ _ l (own_reads hol) (by omega) hlo).mono ?_
  rintro e w6 ⟨rfl, hb_6⟩
  have hbl6 := hbl5.trans (hb_6.mono hbl5.size)
  replace hol := own_step hol hb_6
  replace hor := own_step hor hb_6
  replace hob := own_step hob hb_6
  clear hb_6 hbl5
  go_wp2_with fail
  refine (spec_LongestRun _ _ _ l (own_reads hol) (by omega) hlo).mono ?_
  rintro e w7 ⟨rfl, hb_7⟩
  have hbl7 := hbl6.trans (hb_7.mono hbl6.size)
  replace hol := own_step hol hb_7
  replace hor := own_step hor hb_7
  replace hob := own_step hob hb_7
  clear hb_7 hbl6
  generalize longest l = lg
  go_wp2_with fail
  refine (impl_Turns _ _ _ l (own_reads hol) (by omega) hlo).mono ?_
  rintro e w8 ⟨rfl, hb_8⟩
  have hbl8 := hbl7.trans (hb_8.mono hbl7.size)
  replace hol := own_step hol hb_8
  replace hor := own_step hor hb_8
  replace hob := own_step hob hb_8
  clear hb_8 hbl7
  go_wp2_with fail
  refine (spec_Turns _ _ _ l (own_reads hol) (by omega) hlo).mono ?_
  rintro e w9 ⟨rfl, hb_9⟩
  have hbl9 := hbl8.trans (hb_9.mono hbl8.size)
  replace hol := own_step hol hb_9
  replace hor := own_step hor hb_9
  replace hob := own_step hob hb_9
  clear hb_9 hbl8
  have htu := fun h => turns_pos (l := l) h
  have hsp := spread_runs hlo (show l.length ≤ 64 by omega)
  have hgood := runsOf_good hlo
  have hadj := adj_runs l
  have hbd := sumK_bd hlo
  have hend := sumK_end hlo
  have hrl := runsOf_len l
  have himT : ∀ (w : World), Reads w w.heap.size 3 Al l.length (valCells l) → Calls Try.prog 26 #[.slice Al l.length cl] w fun e w' => e = .returned (.int .i64 (turnsOf l)) ∧ Below w.heap.size w w' := fun w h => impl_Turns w Al cl l h (by omega) hlo
  generalize turnsOf l = T at htu himT ⊢
  generalize runsOf l = rs at htu hsp hgood hadj hbd hend hrl hor ⊢
  have hro : ∀ r ∈ rs, runOk r := fun r hr => ⟨(hgood r hr).1, by have h1 := (hgood r hr).2.1; omega, by have h2 := (hgood r hr).2.2; omega⟩
  go_wp2_with fail
  refine (impl_Spread _ _ _ rs (own_reads hor) (by omega) hro).mono ?_
  rintro e w10 ⟨Ax, cx, rfl, hox, hb_10⟩
  rw [hsp] at hox ⊢
  have hbl10 := hbl9.trans (hb_10.mono hbl9.size)
  replace hol := own_step hol hb_10
  replace hor := own_step hor hb_10
  replace hob := own_step hob hb_10
  clear hb_10 hbl9 hsp hro
  go_wp2_with fail
  refine (laws_sameVals _ _ _ l (own_reads hox) (by omega) hlo _ _ l (own_reads hol) (by omega) hlo).mono ?_
  rintro e w11 ⟨rfl, hb_11⟩
  rw [sameVals_self]
  have hbl11 := hbl10.trans (hb_11.mono hbl10.size)
  replace hol := own_step hol hb_11
  replace hor := own_step hor hb_11
  replace hob := own_step hob hb_11
  clear hb_11 hbl10 hox
  have hrr := own_reads hor
  have hs11 := hbl11.size
  have HE := Lib.hid hend
  clear hend
  go_wp2
  go_loopw [6, 7] (fun n i wr => ∃ k : Nat, k ≤ rs.length ∧ i = .int .i64 k ∧ n = .int .i64 (sumK rs k) ∧ Below w11.heap.size w11 wr) (fun n i _ => rs.length - (intOf i).toNat)
  case atStart => exact ⟨0, Nat.zero_le _, rfl, by rw [sumK_zero], Below.refl _ _⟩
  case round =>
    obtain ⟨k, hk, rfl, rfl, hblr⟩ := hrel
    by_cases hlt : k < rs.length
    · obtain ⟨b, off, x, q, he, hb, hx, c0', c1', c2', c3'⟩ := hrr.run hlt
      have hmem := hgood (x, q) (List.mem_of_getElem? hx.out)
      have hq1 : 1 ≤ q := hmem.2.1
      have hq2 : q ≤ l.length := hmem.2.2
      have d0 : wr.cell? ⟨b, off + k * 4, none⟩ = some (.int .i64 x.ty) := (hblr.cell (p := ⟨b, off + k * 4, none⟩) hb).trans c0'
      have d1 : wr.cell? ⟨b, off + k * 4 + 1, none⟩ = some (.int .i64 x.n) := (hblr.cell (p := ⟨b, off + k * 4 + 1, none⟩) hb).trans c1'
      have d2 : wr.cell? ⟨b, off + k * 4 + 2, none⟩ = some (.string x.s) := (hblr.cell (p := ⟨b, off + k * 4 + 2, none⟩) hb).trans c2'
      have d3 : wr.cell? ⟨b, off + k * 4 + 3, none⟩ = some (.int .i64 q) := (hblr.cell (p := ⟨b, off + k * 4 + 3, none⟩) hb).trans c3'
      have hsn := Lib.hid (sumK_snoc hx.out hq1)
      have hbd1 := hbd k
      have hbd2 := hbd (k + 1)
      rw [hsn.out] at hbd2
      have hqt : decide (q < 1) = false := decide_eq_false (by omega)
      subst he
      clear c0' c1' c2' c3' hmem
      rcases (show k = 0 ∨ 0 < k by omega) with hk0 | hk0
      · have hkt : decide ((0 : Int) < (k : Int)) = false := decide_eq_false (by omega)
        have hkt2 : decide (0 < k) = false := decide_eq_false (by omega)
        clear hk0
        go_wp2_with fail
        go_quiet (fail)
        have e3 : (wr.drewN nq).cell? ⟨b, off + k * 4 + 3, none⟩ = some (.int .i64 q) := d3
        clear d0 d1 d2 d3
        go_wp2
        go_roundw
        case rel => exact ⟨k + 1, by omega, by go_num, by rw [hsn.out], below_drewN hblr _⟩
        case measure => simp [intOf]; omega
      · obtain ⟨j, hj⟩ : ∃ j, k = j + 1 := ⟨k - 1, by omega⟩
        have hkt : decide ((0 : Int) < (k : Int)) = true := decide_eq_true (by omega)
        have hkt2 : decide (0 < k) = true := decide_eq_true hk0
        have hkm : IntKind.i64.wrap ((k : Int) - 1) = (j : Int) := by rw [IntKind.wrap_i64]; omega
        have hjl : j < rs.length := by omega
        obtain ⟨b', off', y, q', he, hb', hy, c0', c1', c2', c3'⟩ := hrr.run hjl
        injection he with he
        injection he with he1 he2
        subst he1
        subst he2
        have g0 : wr.cell? ⟨b, off + j * 4, none⟩ = some (.int .i64 y.ty) := (hblr.cell (p := ⟨b, off + j * 4, none⟩) hb').trans c0'
        have g1 : wr.cell? ⟨b, off + j * 4 + 1, none⟩ = some (.int .i64 y.n) := (hblr.cell (p := ⟨b, off + j * 4 + 1, none⟩) hb').trans c1'
        have g2 : wr.cell? ⟨b, off + j * 4 + 2, none⟩ = some (.string y.s) := (hblr.cell (p := ⟨b, off + j * 4 + 2, none⟩) hb').trans c2'
        have hne : veq x y = false := by
          cases hv : veq x y
          · rfl
          · exact absurd (veq_iff.1 hv).symm (hadj j (y, q') (x, q) hy.out (by rw [← hj]; exact hx.out))
        have heq := equalIn_Val x y
        rw [hne] at heq
        have HJ := Lib.hid hj
        clear hk0 c0' c1' c2' c3' hne hj
        go_wp2_with fail
        go_quiet (fail)
        have e3 : (wr.drewN nq).cell? ⟨b, off + k * 4 + 3, none⟩ = some (.int .i64 q) := d3
        clear d0 d1 d2 d3 g0 g1 g2
        go_wp2
        go_roundw
        case rel => exact ⟨k + 1, by omega, by go_num, by rw [hsn.out], below_drewN hblr _⟩
        case measure => simp [intOf]; omega
    · have hkn : k = rs.length := by omega
      subst hkn
      rw [HE.out]
      have hbl12 := hbl11.trans (hblr.mono hs11)
      replace hol := own_step hol hblr
      replace hob := own_step hob hblr
      clear hblr hbl11 hgood hadj hbd hor hrr
      by_cases h0 : l.length = 0
      · obtain rfl : l = [] := List.eq_nil_of_length_eq_zero h0
        have ht0 : typeOf [] = 0 := rfl
        rw [show encRuns [] = [] from encRuns_none ht0]
        clear himT htu HE hob h0
        go_wp2_with fail
        refine (impl_TypeOf _ _ _ [] (own_reads hol) (by simp) hlo).mono ?_
        rintro e w13 ⟨rfl, hb_13⟩
        rw [ht0]
        have hbl13 := hbl12.trans (hb_13.mono hbl12.size)
        clear hol hb_13 hbl12 ht0
        go_wp2
        go_ret
        exact ⟨rfl, hbl13⟩
      · obtain ⟨M, hT, hrsl⟩ := htu (by omega)
        subst hT
        rw [hrsl]
        have hM : M + 1 ≤ 16 := by omega
        have hl1 : 0 < l.length := by omega
        have hl2 : (0 : Int) < (l.length : Int) := by omega
        clear htu HE h0 hrsl hrl hk hlt
        go_wp2_with fail
        refine (himT _ (own_reads hol)).mono ?_
        rintro e w13 ⟨rfl, hb_13⟩
        have hbl13 := hbl12.trans (hb_13.mono hbl12.size)
        replace hol := own_step hol hb_13
        replace hob := own_step hob hb_13
        clear hb_13 hbl12 himT
        go_wp2_with fail
        refine (impl_TypeOf _ _ _ l (own_reads hol) (by omega) hlo).mono ?_
        rintro e w14 ⟨rfl, hb_14⟩
        have hbl14 := hbl13.trans (hb_14.mono hbl13.size)
        replace hol := own_step hol hb_14
        replace hob := own_step hob hb_14
        clear hb_14 hbl13
        by_cases ht : typeOf l = 0
        · have hlb : (((encRuns l).length : Int) == 0) = true := by rw [encRuns_none ht]; rfl
          have htb : (typeOf l == 0) = true := by simp [ht]
          clear ht hob hol
          go_wp2
          go_ret
          exact ⟨rfl, hbl14⟩
        · have htb : (typeOf l == 0) = false := by simp [ht]
          have HB := Lib.hid (runs_back hlo ht)
          have hty : I64 (typeOf l) := by
            have h1 := typeOf_bd l
            exact ⟨by omega, by omega⟩
          clear ht
          go_wp2_with fail
          refine (impl_DecRuns _ _ _ (encRuns l) (own_reads hob) (by omega) (own_cap hob) (own_aform hob) (typeOf l) hty (l.length : Int) ⟨by omega, by omega⟩).mono ?_
          rintro e w15 ⟨A15, c15, rfl, hown15, hb_15⟩
          rw [HB.out.1] at hown15 ⊢
          rw [HB.out.2]
          have hbl15 := hbl14.trans (hb_15.mono hbl14.size)
          replace hol := own_step hol hb_15
          clear hb_15 hbl14 HB hob htb hel hty
          go_wp2_with fail
          refine (laws_sameVals _ _ _ l (own_reads hown15) (by omega) hlo _ _ l (own_reads hol) (by omega) hlo).mono ?_
          rintro e w16 ⟨rfl, hb_16⟩
          have hbl16 := hbl15.trans (hb_16.mono hbl15.size)
          rw [sameVals_self]
          go_wp2
          go_ret
          exact ⟨rfl, hbl16⟩

end Go.Proofs.Ytgpimlmolcjeoaa.fnRuns
