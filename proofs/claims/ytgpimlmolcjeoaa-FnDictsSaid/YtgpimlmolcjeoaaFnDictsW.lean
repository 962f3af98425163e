/-
  The walk of the law FnDicts: the Go function returns true, and leaves what it was handed as it was.
-/
import Derived.Test.YtgpimlmolcjeoaaSamev
import Derived.Test.YtgpimlmolcjeoaaBackd
import Derived.Test.YtgpimlmolcjeoaaLdraw
namespace Go.Proofs.Ytgpimlmolcjeoaa.fnDicts
open Go.RowKit
set_option linter.unusedVariables false

set_option maxRecDepth 100000 in
set_option maxHeartbeats 3200000 in
theorem walk (w : World) (A0 : Option Addr) (c0 : Nat) (a0 : List UInt8) (hc0 : a0.length ≤ c0) (hm0 : c0 ≤ maxLen) (hr0 : Reads w w.heap.size 1 A0 a0.length (byteCells a0)) :
    Calls Try.prog 3 #[.slice A0 a0.length c0] w fun e w' => e = .returned (.bool true) ∧ Below w.heap.size w w' := by
  have hmx : a0.length ≤ maxLen := Nat.le_trans hc0 hm0
  unfold maxLen at hmx
  have hgt := eqGuard_Val
  by_cases hbig : 1048576 < (a0.length : Int)
  · go_enter Try.func3, Try.ntmps3
    go_wp2_with fail
    refine (big_any _ _ _ _).mono ?_
    rintro e w1 ⟨rfl, rfl⟩
    rw [decide_eq_true hbig]
    go_wp2
    go_ret
    exact ⟨rfl, Below.refl _ _⟩
  have hlen : a0.length ≤ 1048576 := by omega
  go_enter Try.func3, Try.ntmps3
  go_wp2_with fail
  refine (big_any _ _ _ _).mono ?_
  rintro e w1 ⟨rfl, rfl⟩
  rw [decide_eq_false (show ¬ 1048576 < (a0.length : Int) by omega)]
  clear hbig
  go_wp2_with fail
  refine (DrawDict_any _ _ _ _ hr0 (by omega)).mono ?_
  rintro e w1 ⟨Al, cl, l, rfl, hll, hlo, hol, hbl1⟩
  clear hr0
  go_wp2_with fail
  refine (impl_Dict _ _ _ l (own_reads hol) (own_nil hol) (by omega) hlo).mono ?_
  rintro e w2 ⟨Ad, cd, rfl, hod, hb_2⟩
  have hbl2 := hbl1.trans (hb_2.mono hbl1.size)
  replace hol := own_step hol hb_2
  replace hod := own_lower hod hbl1.size
  clear hb_2 hbl1 
  have hdl := dict_len l
  have hdo : ∀ x ∈ dictOf l, x.ok := fun x hx => hlo x ((dict_mem l x).1 hx)
  have hel : (encDict l).length ≤ 1099511627776 := Nat.le_trans (encDict_len l) (by omega)
  have hdp := dict_place l
  have hpl := placeL_len (dictOf l) l
  have hpi := place_I64 (D := dictOf l) (l := l) (by omega)
  go_wp2_with fail
  refine (impl_EncDict _ _ _ l (own_reads hol) (own_nil hol) (by omega) hlo).mono ?_
  rintro e w3 ⟨Ab, cb, rfl, hob, hb_3⟩
  have hbl3 := hbl2.trans (hb_3.mono hbl2.size)
  replace hol := own_step hol hb_3
  replace hod := own_step hod hb_3
  replace hob := own_lower hob hbl2.size
  clear hb_3 hbl2 
  go_wp2_with fail
  refine (impl_Places _ _ _ (dictOf l) (own_reads hod) (by omega) hdo _ _ l (own_reads hol) (by omega) hlo).mono ?_
  rintro e w4 ⟨Ap, cp, rfl, hop, hb_4⟩
  rw [hdp.1]
  have hbl4 := hbl3.trans (hb_4.mono hbl3.size)
  replace hol := own_step hol hb_4
  replace hod := own_step hod hb_4
  replace hob := own_step hob hb_4
  replace hop := own_lower hop hbl3.size
  clear hb_4 hbl3 
  go_wp2_with fail
  refine (impl_Picked _ _ _ (dictOf l) (own_reads hod) (by omega) hdo _ _ (placeL (dictOf l) l) (own_reads hop) (by omega) hpi).mono ?_
  rintro e w5 ⟨Ax, cx, rfl, hox, hb_5⟩
  rw [hdp.2.1]
  rw [hdp.2.2] at hox ⊢
  have hbl5 := hbl4.trans (hb_5.mono hbl4.size)
  replace hol := own_step hol hb_5
  replace hod := own_step hod hb_5
  replace hob := own_step hob hb_5
  replace hop := own_step hop hb_5
  replace hox := own_lower hox hbl4.size
  clear hb_5 hbl4 hop
  clear hdp hpl hpi
  go_wp2_with fail
  refine (spec_EncDict _ _ _ l (own_reads hol) (own_nil hol) (by omega) hlo).mono ?_
  rintro e w6 ⟨Ac, cc, rfl, hoc, hb_6⟩
  have hbl6 := hbl5.trans (hb_6.mono hbl5.size)
  replace hol := own_step hol hb_6
  replace hod := own_step hod hb_6
  replace hob := own_step hob hb_6
  replace hox := own_step hox hb_6
  replace hoc := own_lower hoc hbl5.size
  clear hb_6 hbl5 
  go_wp2_with fail
  refine (same_same _ _ _ _ _ _ (own_reads hob) (own_reads hoc) hel).mono ?_
  rintro e w7 ⟨rfl, hb_7⟩
  have hbl7 := hbl6.trans (hb_7.mono hbl6.size)
  replace hol := own_step hol hb_7
  replace hod := own_step hod hb_7
  replace hob := own_step hob hb_7
  replace hox := own_step hox hb_7
  replace hoc := own_step hoc hb_7
  clear hb_7 hbl6 hoc
  go_wp2_with fail
  refine (spec_Dict _ _ _ l (own_reads hol) (own_nil hol) (by omega) hlo).mono ?_
  rintro e w8 ⟨Ae, ce, rfl, hoe, hb_8⟩
  have hbl8 := hbl7.trans (hb_8.mono hbl7.size)
  replace hol := own_step hol hb_8
  replace hod := own_step hod hb_8
  replace hob := own_step hob hb_8
  replace hox := own_step hox hb_8
  replace hoe := own_lower hoe hbl7.size
  clear hb_8 hbl7 
  go_wp2_with fail
  refine (laws_sameVals _ _ _ (dictOf l) (own_reads hod) (by omega) hdo _ _ (dictOf l) (own_reads hoe) (by omega) hdo).mono ?_
  rintro e w9 ⟨rfl, hb_9⟩
  rw [sameVals_self]
  have hbl9 := hbl8.trans (hb_9.mono hbl8.size)
  replace hol := own_step hol hb_9
  replace hod := own_step hod hb_9
  replace hob := own_step hob hb_9
  replace hox := own_step hox hb_9
  replace hoe := own_step hoe hb_9
  clear hb_9 hbl8 hoe
  go_wp2_with fail
  refine (laws_sameVals _ _ _ l (own_reads hox) (by omega) hlo _ _ l (own_reads hol) (by omega) hlo).mono ?_
  rintro e w10 ⟨rfl, hb_10⟩
  rw [sameVals_self]
  have hbl10 := hbl9.trans (hb_10.mono hbl9.size)
  replace hol := own_step hol hb_10
  replace hod := own_step hod hb_10
  replace hob := own_step hob hb_10
  replace hox := own_step hox hb_10
  clear hb_10 hbl9 hox
  have hsN := hbl10.size
  have hrd := own_reads hod
  have hless := fun j x y => dict_less (l := l) (j := j) (x := x) (y := y)
  generalize dictOf l = d at hod hrd hless hdl hdo ⊢
  have hd64 : d.length ≤ 16 := by omega
  clear hdl hdo hod
  go_wp2
  go_loopw [10] (fun i wr => ∃ k : Nat, 1 ≤ k ∧ i = .int .i64 k ∧ Below w10.heap.size w10 wr) (fun i _ => d.length - (intOf i).toNat)
  case atStart => exact ⟨1, Nat.le_refl _, rfl, Below.refl _ _⟩
  case round =>
    obtain ⟨k, hk1, rfl, hblr⟩ := hrel
    by_cases hlt : k < d.length
    · obtain ⟨j, hj⟩ : ∃ j, k = j + 1 := ⟨k - 1, by omega⟩
      have hjl : j < d.length := by omega
      have hkm : IntKind.i64.wrap ((k : Int) - 1) = (j : Int) := by rw [IntKind.wrap_i64]; omega
      obtain ⟨b, off, x, he, hb, hx, c0', c1', c2'⟩ := hrd.v hlt
      obtain ⟨b', off', y, he', hb', hy, c3', c4', c5'⟩ := hrd.v hjl
      subst he
      injection he' with he'
      injection he' with he1 he2
      subst he1
      subst he2
      have d0 : wr.cell? ⟨b, off + k * 3, none⟩ = some (.int .i64 x.ty) := (hblr.cell (p := ⟨b, off + k * 3, none⟩) hb).trans c0'
      have d1 : wr.cell? ⟨b, off + k * 3 + 1, none⟩ = some (.int .i64 x.n) := (hblr.cell (p := ⟨b, off + k * 3 + 1, none⟩) hb).trans c1'
      have d2 : wr.cell? ⟨b, off + k * 3 + 2, none⟩ = some (.string x.s) := (hblr.cell (p := ⟨b, off + k * 3 + 2, none⟩) hb).trans c2'
      have g0 : wr.cell? ⟨b, off + j * 3, none⟩ = some (.int .i64 y.ty) := (hblr.cell (p := ⟨b, off + j * 3, none⟩) hb').trans c3'
      have g1 : wr.cell? ⟨b, off + j * 3 + 1, none⟩ = some (.int .i64 y.n) := (hblr.cell (p := ⟨b, off + j * 3 + 1, none⟩) hb').trans c4'
      have g2 : wr.cell? ⟨b, off + j * 3 + 2, none⟩ = some (.string y.s) := (hblr.cell (p := ⟨b, off + j * 3 + 2, none⟩) hb').trans c5'
      have hLV : ∀ w : World, Calls Try.prog 17 #[.agg #[.int .i64 y.ty, .int .i64 y.n, .string y.s], .agg #[.int .i64 x.ty, .int .i64 x.n, .string x.s]] w fun e w' => e = .returned (.bool true) ∧ Below w.heap.size w w' := fun w => by
        have h1 := impl_LessVal w y x
        rw [hless j y x hy.out (by rw [← hj]; exact hx.out)] at h1
        exact h1
      have HJ := Lib.hid hj
      clear c0' c1' c2' c3' c4' c5' hless hj
      go_wp2_with fail
      go_region_held3 (fun w' => w'.cell? ⟨b, off + k * 3, none⟩ = some (.int .i64 x.ty) ∧ w'.cell? ⟨b, off + k * 3 + 1, none⟩ = some (.int .i64 x.n) ∧ w'.cell? ⟨b, off + k * 3 + 2, none⟩ = some (.string x.s) ∧ w'.cell? ⟨b, off + j * 3, none⟩ = some (.int .i64 y.ty) ∧ w'.cell? ⟨b, off + j * 3 + 1, none⟩ = some (.int .i64 y.n) ∧ w'.cell? ⟨b, off + j * 3 + 2, none⟩ = some (.string y.s) ∧ Below w10.heap.size w10 w')
          (first
            | (exact ⟨d0, d1, d2, g0, g1, g2, hblr.drew⟩)
            | (go_split_ands
               exact ⟨cell_keep hbz (by assumption), cell_keep hbz (by assumption), cell_keep hbz (by assumption), cell_keep hbz (by assumption), cell_keep hbz (by assumption), cell_keep hbz (by assumption), Below.trans (by assumption) (hbz.mono (Below.size (by assumption)))⟩)
            | (go_split_ands
               exact ⟨by assumption, by assumption, by assumption, by assumption, by assumption, by assumption, by assumption⟩))
          (first
            | (go_at_call 17; refine (hLV _).mono ?_; rintro e wz ⟨rfl, hbz⟩))
      go_wp2
      go_roundw
      case rel => exact ⟨k + 1, by omega, by go_num, hblr.drew.trans (hbz.mono (Below.size hblr.drew))⟩
      case measure => simp [intOf]; omega
    · have hblM := hbl10.trans (hblr.mono hsN)
      replace hol := own_step hol hblr
      replace hob := own_step hob hblr
      clear hblr hbl10 hless hrd
      go_wp2_with fail
      refine (impl_TypeOf _ _ _ l (own_reads hol) (by omega) hlo).mono ?_
      rintro e w14 ⟨rfl, hb_14⟩
      have hbl14 := hblM.trans (hb_14.mono hblM.size)
      replace hol := own_step hol hb_14
      replace hob := own_step hob hb_14
      clear hb_14 hblM
      by_cases ht : typeOf l = 0
      · have hlb : (((encDict l).length : Int) == 0) = true := by rw [encD_none ht]; rfl
        have htb : (typeOf l == 0) = true := by simp [ht]
        clear ht hob hol
        go_wp2
        go_ret
        exact ⟨rfl, hbl14⟩
      · have htb : (typeOf l == 0) = false := by simp [ht]
        have HB := Lib.hid (dict_back ht)
        have hty : I64 (typeOf l) := by
          have h1 := typeOf_bd l
          exact ⟨by omega, by omega⟩
        clear ht
        go_wp2_with fail
        refine (impl_DecDict _ _ _ (encDict l) (own_reads hob) hel (own_cap hob) (own_aform hob) (typeOf l) hty (l.length : Int) ⟨by omega, by omega⟩).mono ?_
        rintro e w15 ⟨A15, c15, rfl, hown15, hb_15⟩
        rw [HB.out.1] at hown15 ⊢
        rw [HB.out.2]
        have hbl15 := hbl14.trans (hb_15.mono hbl14.size)
        replace hol := own_step hol hb_15
        clear hb_15 hbl14 HB hob htb hel hty
        go_wp2_with fail
        refine (laws_sameVals _ _ _ l (own_reads hown15) (by omega) hlo _ _ l (own_reads hol) (by omega) hlo).mono ?_
        rintro e w16 ⟨rfl, hb_16⟩
        have hbl16 := hbl15.trans (hb_16.mono hbl15.size)
        rw [sameVals_self]
        go_wp2
        go_ret
        exact ⟨rfl, hbl16⟩

end Go.Proofs.Ytgpimlmolcjeoaa.fnDicts
