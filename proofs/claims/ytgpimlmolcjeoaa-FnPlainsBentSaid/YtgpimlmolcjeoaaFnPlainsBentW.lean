/-
  The walk of the law FnPlainsBent: the Go function returns true, and leaves what it was handed as it was.
-/
import Derived.Test.YtgpimlmolcjeoaaTdraw
import Derived.Test.YtgpimlmolcjeoaaSamev
import Derived.Test.YtgpimlmolcjeoaaBackp
import Derived.Test.YtgpimlmolcjeoaaDeci
import Derived.Test.YtgpimlmolcjeoaaDecs
namespace Go.Proofs.Ytgpimlmolcjeoaa.fnPlainsBent
open Go.RowKit
set_option linter.unusedVariables false

theorem dp_facts {bs : List UInt8} {ty k : Int} : (∀ x ∈ dpL bs ty k, x.ok) ∧ (dpL bs ty k).length ≤ 64 ∧ (dpOk bs ty k = true → encPlain (dpL bs ty k) = bs ∧ ((dpL bs ty k).length : Int) = k) := by
  cases hin : inB k 1 64
  · obtain ⟨h1, h2⟩ := dp_wide (bs := bs) (ty := ty) hin
    rw [h1, h2]
    exact ⟨by simp, by simp, fun h => by cases h⟩
  · obtain ⟨K, rfl, hk1, hk2⟩ := inB_nat hin
    cases hd : dvAcc bs ty K [] 0 with
    | none =>
      obtain ⟨h1, h2⟩ := dp_none hd
      rw [h1, h2]
      exact ⟨by simp, by simp, fun h => by cases h⟩
    | some r =>
      obtain ⟨l, q⟩ := r
      by_cases hq : q = (bs.length : Int)
      · obtain ⟨h1, h2⟩ := dp_good hk1 hk2 hd hq
        obtain ⟨e1, _, _, e4, _⟩ := enc_dv hk1 hk2 hd
        rw [h1]
        exact ⟨e4, by omega, fun _ => ⟨(dec_full hk1 hk2 hd).2 hq, by omega⟩⟩
      · obtain ⟨h1, h2⟩ := dp_cut hd hq
        rw [h1, h2]
        exact ⟨by simp, by simp, fun h => by cases h⟩
theorem gv_case (c : List UInt8) (i t : Int) : gvOk c i t = false ∨ ∃ p q : Nat, i = (p : Int) ∧ gvP c i t = (q : Int) ∧ gvOk c i t = true ∧ p < q ∧ q ≤ c.length ∧ (gvV c i t).ok ∧ putVal (c.take p) (gvV c i t) = c.take q := by
  cases hg : getVal c i t with
  | none => exact .inl (gv_nothing hg).2.2
  | some r =>
    obtain ⟨x, q⟩ := r
    obtain ⟨g1, g2, g3⟩ := gv_parts hg
    have h0 : 0 ≤ i := by
      by_cases h : 0 ≤ i
      · exact h
      · exfalso
        unfold getVal at hg
        split at hg
        · cases hn : getNum c i with
          | none => rw [hn] at hg; cases hg
          | some r => obtain ⟨n, q⟩ := r; exact h (getNum_neg hn)
        · rw [if_neg (by omega)] at hg
          cases hg
    obtain ⟨p, rfl⟩ := Int.eq_ofNat_of_zero_le h0
    obtain ⟨k1, k2, k3, _, _, k6⟩ := getVal_put hg
    exact .inr ⟨p, q, rfl, g2, g3, k1, k2, by rw [g1]; exact valOk_ok k3, by rw [g1]; exact k6⟩
theorem own_capb {w : World} {base size n c : Nat} {e : TypeId} {A : Option Addr} {xs : List Value} (h : w.ownsRow base e size (.slice A n c) n xs) : n ≤ c := own_cap h

set_option maxRecDepth 100000 in
set_option maxHeartbeats 6400000 in
theorem walk (w : World) (A0 : Option Addr) (c0 : Nat) (a0 : List UInt8) (hc0 : a0.length ≤ c0) (hm0 : c0 ≤ maxLen) (hr0 : Reads w w.heap.size 1 A0 a0.length (byteCells a0)) :
    Calls Try.prog 5 #[.slice A0 a0.length c0] w fun e w' => e = .returned (.bool true) ∧ Below w.heap.size w w' := by
  have hmx : a0.length ≤ maxLen := Nat.le_trans hc0 hm0
  unfold maxLen at hmx
  by_cases hbig : 1048576 < (a0.length : Int)
  · go_enter Try.func5, Try.ntmps5
    go_wp2_with fail
    refine (big_any _ _ _ _).mono ?_
    rintro e w1 ⟨rfl, rfl⟩
    rw [decide_eq_true hbig]
    go_wp2
    go_ret
    exact ⟨rfl, Below.refl _ _⟩
  have hlen : a0.length ≤ 1048576 := by omega
  have hgt := eqGuard_Val
  go_enter Try.func5, Try.ntmps5
  go_wp2_with fail
  refine (big_any _ _ _ _).mono ?_
  rintro e w1 ⟨rfl, rfl⟩
  rw [decide_eq_false (show ¬ 1048576 < (a0.length : Int) by omega)]
  clear hbig
  go_wp2_with fail
  refine (DrawDecPlain_any _ _ _ _ hr0 (by omega)).mono ?_
  rintro e w1 ⟨Ab, cb, b, ty, k, rfl, hbl9b, hty, hk, hob, hbl1⟩
  go_wp2_with fail
  refine (impl_DecPlain _ _ _ b (own_reads hob) (by omega) (own_cap hob) (own_aform hob) ty hty k hk).mono ?_
  rintro e w2 ⟨Al, cl, rfl, hol, hb_2⟩
  have hbl2 := hbl1.trans (hb_2.mono hbl1.size)
  replace hob := own_step hob hb_2
  replace hol := own_lower hol hbl1.size
  clear hb_2 hbl1
  go_wp2_with fail
  refine (spec_DecPlain _ _ _ b (own_reads hob) (by omega) (own_cap hob) (own_aform hob) ty hty k hk).mono ?_
  rintro e w3 ⟨Am, cm, rfl, hom, hb_3⟩
  have hbl3 := hbl2.trans (hb_3.mono hbl2.size)
  replace hob := own_step hob hb_3
  replace hol := own_step hol hb_3
  replace hom := own_lower hom hbl2.size
  clear hb_3 hbl2
  have hdp := dp_facts (bs := b) (ty := ty) (k := k)
  generalize dpL b ty k = l at hdp hol hom ⊢
  generalize dpOk b ty k = ok at hdp ⊢
  obtain ⟨hlo, hl64, hdp⟩ := hdp
  clear hty
  go_wp2_with fail
  refine (DrawGetVal_any _ _ _ a0 ((hr0.below hbl3 (Nat.le_refl _)).more hbl3.size) (by omega)).mono ?_
  rintro e w4 ⟨Ac, cc, c, i, t, rfl, hcl, hi, ht, hoc, hb_4⟩
  have hbl4 := hbl3.trans (hb_4.mono hbl3.size)
  replace hob := own_step hob hb_4
  replace hol := own_step hol hb_4
  replace hom := own_step hom hb_4
  replace hoc := own_lower hoc hbl3.size
  clear hb_4 hbl3 hr0
  go_wp2_with fail
  refine (impl_GetVal _ _ _ c (own_reads hoc) (by omega) (own_cap hoc) i hi t ht).mono ?_
  rintro e w5 ⟨rfl, hb_5⟩
  have hgc := gv_case c i t
  have hbl5 := hbl4.trans (hb_5.mono hbl4.size)
  replace hob := own_step hob hb_5
  replace hol := own_step hol hb_5
  replace hom := own_step hom hb_5
  replace hoc := own_step hoc hb_5
  clear hb_5 hbl4
  unfold gvT
  obtain ⟨W5, hW⟩ : ∃ W, W = w5.alloc (.cells #[.int .i64 (gvV c i t).ty, .int .i64 (gvV c i t).n, .string (gvV c i t).s] 37) := ⟨_, rfl⟩
  have hbv : Box W5 w5.heap.size (gvV c i t) := by rw [hW]; exact Box.new w5 _
  have hb2 : Below w5.heap.size w5 W5 := by rw [hW]; exact (Below.refl _ _).alloc (Nat.le_refl _) _
  have hbl6 := hbl5.trans (hb2.mono hbl5.size)
  replace hob := own_step hob hb2
  replace hol := own_step hol hb2
  replace hom := own_step hom hb2
  replace hoc := own_step hoc hb2
  clear hb2 hbl5
  go_wp2_with fail
  rw [← hW]
  clear hW
  refine (spec_GetVal _ _ _ c (own_reads hoc) (by omega) (own_cap hoc) i hi t ht).mono ?_
  rintro e w6 ⟨rfl, hb_6⟩
  unfold gvT
  obtain ⟨B, hB⟩ : ∃ B, B = w5.heap.size := ⟨_, rfl⟩
  rw [← hB] at hbv ⊢
  replace hbv := hbv.below hb_6
  have hbl7 := hbl6.trans (hb_6.mono hbl6.size)
  replace hob := own_step hob hb_6
  replace hol := own_step hol hb_6
  replace hom := own_step hom hb_6
  replace hoc := own_step hoc hb_6
  clear hb_6 hbl6 hB
  generalize gvV c i t = x at hgc hbv ⊢
  generalize gvP c i t = nx at hgc ⊢
  generalize gvOk c i t = may at hgc ⊢
  obtain ⟨W6, hW⟩ : ∃ W, W = w6.alloc (.cells #[.int .i64 x.ty, .int .i64 x.n, .string x.s] 37) := ⟨_, rfl⟩
  have hbu : Box W6 w6.heap.size x := by rw [hW]; exact Box.new w6 _
  have hb2 : Below w6.heap.size w6 W6 := by rw [hW]; exact (Below.refl _ _).alloc (Nat.le_refl _) _
  replace hbv := hbv.below hb2
  have hbl8 := hbl7.trans (hb2.mono hbl7.size)
  replace hob := own_step hob hb2
  replace hol := own_step hol hb2
  replace hom := own_step hom hb2
  replace hoc := own_step hoc hb2
  clear hb2 hbl7
  go_wp2_with fail
  rw [← hW]
  clear hW
  refine (laws_sameVals _ _ _ l (own_reads hol) (by omega) hlo _ _ l (own_reads hom) (by omega) hlo).mono ?_
  rintro e w7 ⟨rfl, hb_7⟩
  rw [sameVals_self]
  obtain ⟨B2, hB⟩ : ∃ B, B = w6.heap.size := ⟨_, rfl⟩
  rw [← hB] at hbu ⊢
  replace hbv := hbv.below hb_7
  replace hbu := hbu.below hb_7
  have hbl9 := hbl8.trans (hb_7.mono hbl8.size)
  replace hob := own_step hob hb_7
  replace hol := own_step hol hb_7
  replace hoc := own_step hoc hb_7
  clear hb_7 hbl8 hom hB
  obtain ⟨v0, v1, v2, _, _, _⟩ := hbv.cells
  obtain ⟨u0, u1, u2, _, _, _⟩ := hbu.cells
  have heq := equalIn_Val x x
  rw [veq_self] at heq
  clear hbu hbv
  rcases hgc with rfl | ⟨p, q, rfl, rfl, rfl, hpq, hql, hxo, hput⟩
  · cases ok
    · clear hdp
      go_wp2_with fail
      go_quiet (fail)
      all_goals go_wp2
      go_ret
      exact ⟨rfl, below_drewN hbl9 _⟩
    · have hd := hdp rfl
      have HE := Lib.hid hd.1
      have hkk := hd.2
      clear hdp hd
      subst hkk
      go_wp2_with fail
      refine wp_region_any (by kernel_rfl) ?_
      change wpAny _ _ _ _ _ _ _ (World.drew _)
      refine wpAny_take (i := 0) (v := .bool true) rfl (by kernel_rfl) (by kernel_rfl) (by kernel_rfl) (fun _ _ _ h => h) (Or.inl ⟨by kernel_rfl, fun _ => by kernel_rfl⟩) ?_
      refine wpAny_take (i := 1) (v := .bool false) rfl (by kernel_rfl) (by kernel_rfl) (by kernel_rfl) (fun _ _ _ h => h) (Or.inl ⟨by kernel_rfl, fun _ => by go_simp⟩) ?_
      refine wpAny_take (i := 2) (v := .bool false) rfl (by kernel_rfl) (by kernel_rfl) (by kernel_rfl) (fun _ _ _ h => h) (Or.inl ⟨by kernel_rfl, fun _ => by kernel_rfl⟩) ?_
      refine wpAny_take (i := 3) (v := .slice Al l.length cl) rfl (by kernel_rfl) (by kernel_rfl) (by kernel_rfl) (fun _ _ _ h => h) (Or.inl ⟨by kernel_rfl, fun _ => by kernel_rfl⟩) ?_
      refine wpAny_take (i := 5) (v := .slice Ab b.length cb) rfl (by kernel_rfl) (by kernel_rfl) (by kernel_rfl) (fun _ _ _ h => h) (Or.inl ⟨by kernel_rfl, fun _ => by kernel_rfl⟩) ?_
      refine wpAny_ready (rs := [4]) (by kernel_rfl) (by simp) ?_
      refine AllReady.cons rfl (fun K hK => ?_) AllReady.nil
      go_simp
      refine (impl_EncPlain _ _ _ l (own_reads (own_step hol ((Below.refl w7.heap.size w7).drew))) (by omega) hlo).mono ?_
      rintro e w8 ⟨A8, c8, rfl, hown8, hb8⟩
      rw [HE.out] at hown8 ⊢
      try go_simp
      refine hK _ _ ?_
      clear hK K
      refine wpAny_ready (rs := [6]) (by kernel_rfl) (by simp) ?_
      refine AllReady.cons rfl (fun K hK => ?_) AllReady.nil
      go_simp
      refine (same_same _ _ _ _ _ _ (own_reads hown8) (own_reads (own_step hob (((Below.refl w7.heap.size w7).drew).trans hb8))) (by omega)).mono ?_
      rintro e w9 ⟨rfl, hb9⟩
      try go_simp
      refine hK _ _ ?_
      clear hK K
      refine wpAny_take (i := 7) (v := .bool true) rfl (by kernel_rfl) (by kernel_rfl) (by kernel_rfl) (fun _ _ _ h => h) (Or.inl ⟨by kernel_rfl, fun _ => by kernel_rfl⟩) ?_
      refine wpAny_take (i := 8) (v := .slice Al l.length cl) rfl (by kernel_rfl) (by kernel_rfl) (by kernel_rfl) (fun _ _ _ h => h) (Or.inl ⟨by kernel_rfl, fun _ => by kernel_rfl⟩) ?_
      refine wpAny_take (i := 9) (v := .int .i64 (l.length : Int)) rfl (by kernel_rfl) (by kernel_rfl) (by kernel_rfl) (fun _ _ _ h => h) (Or.inl ⟨by kernel_rfl, fun _ => by go_simp⟩) ?_
      refine wpAny_take (i := 10) (v := .int .i64 (l.length : Int)) rfl (by kernel_rfl) (by kernel_rfl) (by kernel_rfl) (fun _ _ _ h => h) (Or.inl ⟨by kernel_rfl, fun _ => by kernel_rfl⟩) ?_
      refine wpAny_take (i := 11) (v := .bool true) rfl (by kernel_rfl) (by kernel_rfl) (by kernel_rfl) (fun _ _ _ h => h) (Or.inl ⟨by kernel_rfl, fun _ => by go_simp⟩) ?_
      refine wpAny_take (i := 12) (v := .bool true) rfl (by kernel_rfl) (by kernel_rfl) (by kernel_rfl) (fun _ _ _ h => h) (Or.inl ⟨by kernel_rfl, fun _ => by go_simp⟩) ?_
      refine wpAny_take (i := 13) (v := .bool true) rfl (by kernel_rfl) (by kernel_rfl) (by kernel_rfl) (fun _ _ _ h => h) (Or.inl ⟨by kernel_rfl, fun _ => by go_simp⟩) ?_
      refine wpAny_take (i := 14) (v := .bool true) rfl (by kernel_rfl) (by kernel_rfl) (by kernel_rfl) (fun _ _ _ h => h) (Or.inl ⟨by kernel_rfl, fun _ => by kernel_rfl⟩) ?_
      refine wpAny_take (i := 15) (v := .bool false) rfl (by kernel_rfl) (by kernel_rfl) (by kernel_rfl) (fun _ _ _ h => h) (Or.inl ⟨by kernel_rfl, fun _ => by kernel_rfl⟩) ?_
      refine wpAny_take (i := 16) (v := .bool true) rfl (by kernel_rfl) (by kernel_rfl) (by kernel_rfl) (fun _ _ _ h => h) (Or.inl ⟨by kernel_rfl, fun _ => by go_simp⟩) ?_
      refine wpAny_take (i := 17) (v := .bool true) rfl (by kernel_rfl) (by kernel_rfl) (by kernel_rfl) (fun _ _ _ h => h) (Or.inl ⟨by kernel_rfl, fun _ => by kernel_rfl⟩) ?_
      refine wpAny_take (i := 18) (v := undef) rfl (by kernel_rfl) (by kernel_rfl) (by kernel_rfl) (fun _ _ _ h => h) (Or.inr ⟨by kernel_rfl, rfl⟩) ?_
      refine wpAny_take (i := 19) (v := undef) rfl (by kernel_rfl) (by kernel_rfl) (by kernel_rfl) (fun _ _ _ h => h) (Or.inr ⟨by kernel_rfl, rfl⟩) ?_
      refine wpAny_take (i := 20) (v := undef) rfl (by kernel_rfl) (by kernel_rfl) (by kernel_rfl) (fun _ _ _ h => h) (Or.inr ⟨by kernel_rfl, rfl⟩) ?_
      refine wpAny_take (i := 21) (v := undef) rfl (by kernel_rfl) (by kernel_rfl) (by kernel_rfl) (fun _ _ _ h => h) (Or.inr ⟨by kernel_rfl, rfl⟩) ?_
      refine wpAny_take (i := 22) (v := undef) rfl (by kernel_rfl) (by kernel_rfl) (by kernel_rfl) (fun _ _ _ h => h) (Or.inr ⟨by kernel_rfl, rfl⟩) ?_
      refine wpAny_take (i := 23) (v := undef) rfl (by kernel_rfl) (by kernel_rfl) (by kernel_rfl) (fun _ _ _ h => h) (Or.inr ⟨by kernel_rfl, rfl⟩) ?_
      refine wpAny_take (i := 24) (v := undef) rfl (by kernel_rfl) (by kernel_rfl) (by kernel_rfl) (fun _ _ _ h => h) (Or.inr ⟨by kernel_rfl, rfl⟩) ?_
      refine wpAny_take (i := 25) (v := undef) rfl (by kernel_rfl) (by kernel_rfl) (by kernel_rfl) (fun _ _ _ h => h) (Or.inr ⟨by kernel_rfl, rfl⟩) ?_
      refine wpAny_take (i := 26) (v := undef) rfl (by kernel_rfl) (by kernel_rfl) (by kernel_rfl) (fun _ _ _ h => h) (Or.inr ⟨by kernel_rfl, rfl⟩) ?_
      refine wpAny_take (i := 27) (v := .bool true) rfl (by kernel_rfl) (by kernel_rfl) (by kernel_rfl) (fun _ _ _ h => h) (Or.inl ⟨by kernel_rfl, fun _ => by go_simp⟩) ?_
      refine wpAny_take (i := 28) (v := .bool true) rfl (by kernel_rfl) (by kernel_rfl) (by kernel_rfl) (fun _ _ _ h => h) (Or.inl ⟨by kernel_rfl, fun _ => by go_simp⟩) ?_
      refine wpAny_ready (rs := [29]) (by kernel_rfl) (by simp) ?_
      refine AllReady.cons rfl (fun K hK => ?_) AllReady.nil
      go_simp
      refine hK _ _ ?_
      clear hK K
      refine wpAny_done (by kernel_rfl) ?_ _
      have hfin := hbl9.trans (((((Below.refl w7.heap.size w7).drew).trans hb8).trans (hb9.mono (Below.size (((Below.refl w7.heap.size w7).drew).trans hb8)))).mono hbl9.size)
      go_wp2
      go_ret
      exact ⟨rfl, hfin⟩
  · cases ok
    · clear hdp
      obtain ⟨g, cap, hv, hg, hgl⟩ := hoc.form (by omega)
      obtain ⟨rfl, rfl⟩ : Ac = some ⟨g, 0, none⟩ ∧ cc = cap := by injection hv with h1 h2 h3; exact ⟨h1, h3⟩
      have hcap := own_capb hoc
      clear hv
      have hX0 := own_shrink hoc (show p ≤ c.length by omega)
      have hY0 := own_shrink hoc hql
      rw [show (byteCells c).take p = byteCells (c.take p) by simp [byteCells, List.map_take]] at hX0
      rw [show (byteCells c).take q = byteCells (c.take q) by simp [byteCells, List.map_take]] at hY0
      have hXl : (c.take p).length = p := by simp; omega
      have hYl : (c.take q).length = q := by simp; omega
      generalize c.take p = X at hput hX0 hXl
      generalize c.take q = Y at hput hY0 hYl
      subst hXl
      subst hYl
      have hP := Lib.hid hput
      have k0 : (0 : Int) ≤ (X.length : Int) := by omega
      have k1 : (0 : Int) ≤ (Y.length : Int) := by omega
      have k2 : (X.length : Int) ≤ (cc : Int) := by omega
      have k3 : (Y.length : Int) ≤ (cc : Int) := by omega
      have k4 : (X.length : Int) ≤ (c.length : Int) := by omega
      have k5 : (Y.length : Int) ≤ (c.length : Int) := by omega
      clear hput hoc
      go_wp2_with fail
      have d0 : w7.drew.cell? ⟨B, 0, none⟩ = some (.int .i64 x.ty) := v0
      have d1 : w7.drew.cell? ⟨B, 1, none⟩ = some (.int .i64 x.n) := v1
      have d2 : w7.drew.cell? ⟨B, 2, none⟩ = some (.string x.s) := v2
      refine wp_region_any (by kernel_rfl) ?_
      change wpAny _ _ _ _ _ _ _ (World.drew _)
      refine wpAny_take (i := 0) (v := .bool false) rfl (by kernel_rfl) (by kernel_rfl) (by kernel_rfl) (fun _ _ _ h => h) (Or.inl ⟨by kernel_rfl, fun _ => by kernel_rfl⟩) ?_
      refine wpAny_take (i := 1) (v := .bool true) rfl (by kernel_rfl) (by kernel_rfl) (by kernel_rfl) (fun _ _ _ h => h) (Or.inl ⟨by kernel_rfl, fun _ => by go_simp⟩) ?_
      refine wpAny_take (i := 2) (v := .bool true) rfl (by kernel_rfl) (by kernel_rfl) (by kernel_rfl) (fun _ _ _ h => h) (Or.inl ⟨by kernel_rfl, fun _ => by kernel_rfl⟩) ?_
      refine wpAny_take (i := 3) (v := undef) rfl (by kernel_rfl) (by kernel_rfl) (by kernel_rfl) (fun _ _ _ h => h) (Or.inr ⟨by kernel_rfl, rfl⟩) ?_
      refine wpAny_take (i := 4) (v := undef) rfl (by kernel_rfl) (by kernel_rfl) (by kernel_rfl) (fun _ _ _ h => h) (Or.inr ⟨by kernel_rfl, rfl⟩) ?_
      refine wpAny_take (i := 5) (v := undef) rfl (by kernel_rfl) (by kernel_rfl) (by kernel_rfl) (fun _ _ _ h => h) (Or.inr ⟨by kernel_rfl, rfl⟩) ?_
      refine wpAny_take (i := 6) (v := undef) rfl (by kernel_rfl) (by kernel_rfl) (by kernel_rfl) (fun _ _ _ h => h) (Or.inr ⟨by kernel_rfl, rfl⟩) ?_
      refine wpAny_take (i := 7) (v := undef) rfl (by kernel_rfl) (by kernel_rfl) (by kernel_rfl) (fun _ _ _ h => h) (Or.inr ⟨by kernel_rfl, rfl⟩) ?_
      refine wpAny_take (i := 8) (v := undef) rfl (by kernel_rfl) (by kernel_rfl) (by kernel_rfl) (fun _ _ _ h => h) (Or.inr ⟨by kernel_rfl, rfl⟩) ?_
      refine wpAny_take (i := 9) (v := undef) rfl (by kernel_rfl) (by kernel_rfl) (by kernel_rfl) (fun _ _ _ h => h) (Or.inr ⟨by kernel_rfl, rfl⟩) ?_
      refine wpAny_take (i := 10) (v := undef) rfl (by kernel_rfl) (by kernel_rfl) (by kernel_rfl) (fun _ _ _ h => h) (Or.inr ⟨by kernel_rfl, rfl⟩) ?_
      refine wpAny_take (i := 11) (v := undef) rfl (by kernel_rfl) (by kernel_rfl) (by kernel_rfl) (fun _ _ _ h => h) (Or.inr ⟨by kernel_rfl, rfl⟩) ?_
      refine wpAny_take (i := 12) (v := undef) rfl (by kernel_rfl) (by kernel_rfl) (by kernel_rfl) (fun _ _ _ h => h) (Or.inr ⟨by kernel_rfl, rfl⟩) ?_
      refine wpAny_take (i := 13) (v := .bool true) rfl (by kernel_rfl) (by kernel_rfl) (by kernel_rfl) (fun _ _ _ h => h) (Or.inl ⟨by kernel_rfl, fun _ => by go_simp⟩) ?_
      refine wpAny_take (i := 14) (v := .bool true) rfl (by kernel_rfl) (by kernel_rfl) (by kernel_rfl) (fun _ _ _ h => h) (Or.inl ⟨by kernel_rfl, fun _ => by kernel_rfl⟩) ?_
      refine wpAny_take (i := 15) (v := .bool true) rfl (by kernel_rfl) (by kernel_rfl) (by kernel_rfl) (fun _ _ _ h => h) (Or.inl ⟨by kernel_rfl, fun _ => by kernel_rfl⟩) ?_
      refine wpAny_take (i := 16) (v := .bool false) rfl (by kernel_rfl) (by kernel_rfl) (by kernel_rfl) (fun _ _ _ h => h) (Or.inl ⟨by kernel_rfl, fun _ => by go_simp⟩) ?_
      refine wpAny_take (i := 17) (v := .bool false) rfl (by kernel_rfl) (by kernel_rfl) (by kernel_rfl) (fun _ _ _ h => h) (Or.inl ⟨by kernel_rfl, fun _ => by kernel_rfl⟩) ?_
      refine wpAny_take (i := 18) (v := .slice (some ⟨g, 0, none⟩) c.length cc) rfl (by kernel_rfl) (by kernel_rfl) (by kernel_rfl) (fun _ _ _ h => h) (Or.inl ⟨by kernel_rfl, fun _ => by kernel_rfl⟩) ?_
      refine wpAny_take (i := 19) (v := .int .i64 (X.length : Int)) rfl (by kernel_rfl) (by kernel_rfl) (by kernel_rfl) (fun _ _ _ h => h) (Or.inl ⟨by kernel_rfl, fun _ => by kernel_rfl⟩) ?_
      refine wpAny_take (i := 20) (v := .slice (some ⟨g, 0, none⟩) X.length cc) rfl (by kernel_rfl) (by kernel_rfl) (by kernel_rfl) (fun _ _ _ h => h) (Or.inl ⟨by kernel_rfl, fun _ => by go_simp⟩) ?_
      refine wpAny_take (i := 23) (v := .slice (some ⟨g, 0, none⟩) c.length cc) rfl (by kernel_rfl) (by kernel_rfl) (by kernel_rfl) (fun _ _ _ h => h) (Or.inl ⟨by kernel_rfl, fun _ => by kernel_rfl⟩) ?_
      refine wpAny_take (i := 24) (v := .int .i64 (Y.length : Int)) rfl (by kernel_rfl) (by kernel_rfl) (by kernel_rfl) (fun _ _ _ h => h) (Or.inl ⟨by kernel_rfl, fun _ => by kernel_rfl⟩) ?_
      refine wpAny_take (i := 25) (v := .slice (some ⟨g, 0, none⟩) Y.length cc) rfl (by kernel_rfl) (by kernel_rfl) (by kernel_rfl) (fun _ _ _ h => h) (Or.inl ⟨by kernel_rfl, fun _ => by go_simp⟩) ?_
      refine wpAny_ready (rs := [21]) (by kernel_rfl) (by simp) ?_
      refine AllReady.cons rfl (fun K hK => ?_) AllReady.nil
      go_simp
      refine hK _ _ ?_
      clear hK K
      refine wpAny_ready (rs := [22]) (by kernel_rfl) (by simp) ?_
      refine AllReady.cons rfl (fun K hK => ?_) AllReady.nil
      go_simp
      refine (impl_PutVal _ _ _ X (own_reads (own_step hX0 ((Below.refl w7.heap.size w7).drew))) (fun h => by cases h) (by omega) x hxo).mono ?_
      rintro e w10 ⟨A10, c10, rfl, hown10, hb10⟩
      rw [hP.out] at hown10 ⊢
      try go_simp
      refine hK _ _ ?_
      clear hK K
      refine wpAny_ready (rs := [26]) (by kernel_rfl) (by simp) ?_
      refine AllReady.cons rfl (fun K hK => ?_) AllReady.nil
      go_simp
      refine (same_same _ _ _ _ _ _ (own_reads hown10) (own_reads (own_step hY0 (((Below.refl w7.heap.size w7).drew).trans hb10))) (by omega)).mono ?_
      rintro e w11 ⟨rfl, hb11⟩
      try go_simp
      refine hK _ _ ?_
      clear hK K
      refine wpAny_take (i := 27) (v := .bool true) rfl (by kernel_rfl) (by kernel_rfl) (by kernel_rfl) (fun _ _ _ h => h) (Or.inl ⟨by kernel_rfl, fun _ => by go_simp⟩) ?_
      refine wpAny_take (i := 28) (v := .bool true) rfl (by kernel_rfl) (by kernel_rfl) (by kernel_rfl) (fun _ _ _ h => h) (Or.inl ⟨by kernel_rfl, fun _ => by go_simp⟩) ?_
      refine wpAny_ready (rs := [29]) (by kernel_rfl) (by simp) ?_
      refine AllReady.cons rfl (fun K hK => ?_) AllReady.nil
      go_simp
      refine hK _ _ ?_
      clear hK K
      refine wpAny_done (by kernel_rfl) ?_ _
      have hfin := hbl9.trans (((((Below.refl w7.heap.size w7).drew).trans hb10).trans (hb11.mono (Below.size (((Below.refl w7.heap.size w7).drew).trans hb10)))).mono hbl9.size)
      go_wp2
      go_ret
      exact ⟨rfl, hfin⟩
    · have hd := hdp rfl
      have HE := Lib.hid hd.1
      have hkk := hd.2
      clear hdp hd
      subst hkk
      obtain ⟨g, cap, hv, hg, hgl⟩ := hoc.form (by omega)
      obtain ⟨rfl, rfl⟩ : Ac = some ⟨g, 0, none⟩ ∧ cc = cap := by injection hv with h1 h2 h3; exact ⟨h1, h3⟩
      have hcap := own_capb hoc
      clear hv
      have hX0 := own_shrink hoc (show p ≤ c.length by omega)
      have hY0 := own_shrink hoc hql
      rw [show (byteCells c).take p = byteCells (c.take p) by simp [byteCells, List.map_take]] at hX0
      rw [show (byteCells c).take q = byteCells (c.take q) by simp [byteCells, List.map_take]] at hY0
      have hXl : (c.take p).length = p := by simp; omega
      have hYl : (c.take q).length = q := by simp; omega
      generalize c.take p = X at hput hX0 hXl
      generalize c.take q = Y at hput hY0 hYl
      subst hXl
      subst hYl
      have hP := Lib.hid hput
      have k0 : (0 : Int) ≤ (X.length : Int) := by omega
      have k1 : (0 : Int) ≤ (Y.length : Int) := by omega
      have k2 : (X.length : Int) ≤ (cc : Int) := by omega
      have k3 : (Y.length : Int) ≤ (cc : Int) := by omega
      have k4 : (X.length : Int) ≤ (c.length : Int) := by omega
      have k5 : (Y.length : Int) ≤ (c.length : Int) := by omega
      clear hput hoc
      go_wp2_with fail
      go_region_held3 (fun w' => w'.cell? ⟨B, 0, none⟩ = some (.int .i64 x.ty) ∧ w'.cell? ⟨B, 1, none⟩ = some (.int .i64 x.n) ∧ w'.cell? ⟨B, 2, none⟩ = some (.string x.s) ∧ Below w7.heap.size w7 w')
        (first
          | (exact ⟨v0, v1, v2, ((Below.refl w7.heap.size w7).drew)⟩)
          | (go_split_ands
             exact ⟨cell_keep hb11 (by assumption), cell_keep hb11 (by assumption), cell_keep hb11 (by assumption), ((((((Below.refl w7.heap.size w7).drew).trans hb8).trans (hb9.mono (Below.size (((Below.refl w7.heap.size w7).drew).trans hb8)))).trans (hb10.mono (Below.size ((((Below.refl w7.heap.size w7).drew).trans hb8).trans (hb9.mono (Below.size (((Below.refl w7.heap.size w7).drew).trans hb8))))))).trans (hb11.mono (Below.size (((((Below.refl w7.heap.size w7).drew).trans hb8).trans (hb9.mono (Below.size (((Below.refl w7.heap.size w7).drew).trans hb8)))).trans (hb10.mono (Below.size ((((Below.refl w7.heap.size w7).drew).trans hb8).trans (hb9.mono (Below.size (((Below.refl w7.heap.size w7).drew).trans hb8))))))))))⟩)
          | (go_split_ands
             exact ⟨cell_keep hb10 (by assumption), cell_keep hb10 (by assumption), cell_keep hb10 (by assumption), (((((Below.refl w7.heap.size w7).drew).trans hb8).trans (hb9.mono (Below.size (((Below.refl w7.heap.size w7).drew).trans hb8)))).trans (hb10.mono (Below.size ((((Below.refl w7.heap.size w7).drew).trans hb8).trans (hb9.mono (Below.size (((Below.refl w7.heap.size w7).drew).trans hb8)))))))⟩)
          | (go_split_ands
             exact ⟨cell_keep hb9 (by assumption), cell_keep hb9 (by assumption), cell_keep hb9 (by assumption), ((((Below.refl w7.heap.size w7).drew).trans hb8).trans (hb9.mono (Below.size (((Below.refl w7.heap.size w7).drew).trans hb8))))⟩)
          | (go_split_ands
             exact ⟨cell_keep hb8 (by assumption), cell_keep hb8 (by assumption), cell_keep hb8 (by assumption), (((Below.refl w7.heap.size w7).drew).trans hb8)⟩)
          | (go_split_ands
             exact ⟨by assumption, by assumption, by assumption, by assumption⟩))
        (first
          | (go_at_call 36; refine (impl_EncPlain _ _ _ l (own_reads (own_step hol ((Below.refl w7.heap.size w7).drew))) (by omega) hlo).mono ?_; rintro e w8 ⟨A8, c8, rfl, hown8, hb8⟩; rw [HE.out] at hown8 ⊢)
          | (go_at_call 37; refine (impl_PutVal _ _ _ X (own_reads (own_step hX0 ((((Below.refl w7.heap.size w7).drew).trans hb8).trans (hb9.mono (Below.size (((Below.refl w7.heap.size w7).drew).trans hb8)))))) (fun h => by cases h) (by omega) x hxo).mono ?_; rintro e w10 ⟨A10, c10, rfl, hown10, hb10⟩; rw [hP.out] at hown10 ⊢)
          | (go_at_call 13; refine (same_same _ _ _ _ _ _ (own_reads hown10) (own_reads (own_step hY0 (((((Below.refl w7.heap.size w7).drew).trans hb8).trans (hb9.mono (Below.size (((Below.refl w7.heap.size w7).drew).trans hb8)))).trans (hb10.mono (Below.size ((((Below.refl w7.heap.size w7).drew).trans hb8).trans (hb9.mono (Below.size (((Below.refl w7.heap.size w7).drew).trans hb8))))))))) (by omega)).mono ?_; rintro e w11 ⟨rfl, hb11⟩)
          | (go_at_call 13; refine (same_same _ _ _ _ _ _ (own_reads hown8) (own_reads (own_step hob (((Below.refl w7.heap.size w7).drew).trans hb8))) (by omega)).mono ?_; rintro e w9 ⟨rfl, hb9a⟩; have hb9 := hb9a))
      all_goals
        have hfin := hbl9.trans (((((((Below.refl w7.heap.size w7).drew).trans hb8).trans (hb9.mono (Below.size (((Below.refl w7.heap.size w7).drew).trans hb8)))).trans (hb10.mono (Below.size ((((Below.refl w7.heap.size w7).drew).trans hb8).trans (hb9.mono (Below.size (((Below.refl w7.heap.size w7).drew).trans hb8))))))).trans (hb11.mono (Below.size (((((Below.refl w7.heap.size w7).drew).trans hb8).trans (hb9.mono (Below.size (((Below.refl w7.heap.size w7).drew).trans hb8)))).trans (hb10.mono (Below.size ((((Below.refl w7.heap.size w7).drew).trans hb8).trans (hb9.mono (Below.size (((Below.refl w7.heap.size w7).drew).trans hb8)))))))))).mono hbl9.size)
        go_wp2
        go_ret
        exact ⟨rfl, hfin⟩
end Go.Proofs.Ytgpimlmolcjeoaa.fnPlainsBent
