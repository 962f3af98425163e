/-
  The walk of the law FnExactPutVal: the Go function returns true, and leaves what it was handed as it was.
-/
import Derived.Test.YtckfogpjljbelaaPutv
namespace Go.Proofs.Ytckfogpjljbelaa.fnExactPutVal
open Go.RowKit
set_option linter.unusedVariables false

set_option maxRecDepth 100000 in
set_option maxHeartbeats 4000000 in
theorem walk (w : World) (A0 : Option Addr) (c0 : Nat) (a0 : List UInt8) (hc0 : a0.length ≤ c0) (hm0 : c0 ≤ maxLen) (hr0 : Reads w w.heap.size 1 A0 a0.length (byteCells a0)) (a1 : V) (h1 : a1.ok) :
    Calls Try.prog 3 #[.slice A0 a0.length c0, .agg #[.int .i64 a1.ty, .int .i64 a1.n, .string a1.s]] w fun e w' => e = .returned (.bool true) ∧ Below w.heap.size w w' := by
  by_cases hg0 : 1048576 < a0.length
  · have hgm := hm0
    unfold maxLen at hgm
    go_enter Try.func3, Try.ntmps3
    go_wp2
    go_ret
    exact ⟨rfl, Below.alloc0 (Below.refl _ _) _⟩
  have hsz : w.heap.size ≤ w.heap.size := Nat.le_refl _
  have hbl := Below.refl w.heap.size w
  go_enter Try.func3, Try.ntmps3
  go_wp2_with fail
  obtain ⟨w1, hww1⟩ : ∃ w1, w1 = w.alloc (.cells #[.int .i64 a1.ty, .int .i64 a1.n, .string a1.s] 24) := ⟨_, rfl⟩
  have hszw1 : w1.heap.size = w.heap.size + 1 := by rw [hww1]; simp
  replace hbl : Below w.heap.size w w1 := by rw [hww1]; exact Below.alloc0 (Below.refl _ _) _
  replace hr0 := hr0.below hbl (Nat.le_refl _)
  have hk1_0 : w1.cell? ⟨w.heap.size, 0, none⟩ = some (.int .i64 a1.ty) := by rw [hww1]; simp [go_sem]
  have hk1_1 : w1.cell? ⟨w.heap.size, 1, none⟩ = some (.int .i64 a1.n) := by rw [hww1]; simp [go_sem]
  have hk1_2 : w1.cell? ⟨w.heap.size, 2, none⟩ = some (.string a1.s) := by rw [hww1]; simp [go_sem]
  replace hsz : w.heap.size ≤ w1.heap.size := hbl.size
  rw [← hww1]
  have hbx : w.heap.size + 1 ≤ w1.heap.size := by omega
  clear hww1 hszw1
  refine (szVal_any _ a1 h1 1048576 (by omega) (by omega)).mono ?_
  rintro e w2 ⟨rfl, hb2⟩
  have hz2 := hb2.size
  replace hr0 := hr0.below hb2 hsz
  replace hk1_0 := cell_keep hb2 hk1_0
  replace hk1_1 := cell_keep hb2 hk1_1
  replace hk1_2 := cell_keep hb2 hk1_2
  replace hbl := Below.stepU hbl hsz hb2
  replace hsz := Nat.le_trans hsz hz2
  clear hb2
  by_cases hneg1 : 1048576 - (a1.s.size : Int) < 0
  · rw [if_pos hneg1]
    go_wp2_with fail
    go_ret
    exact ⟨rfl, hbl⟩
  rw [if_neg hneg1]
  obtain ⟨l1, hl1⟩ : ∃ l : Int, l = 1048576 - (a1.s.size : Int) := ⟨_, rfl⟩
  have hl1a : 0 ≤ l1 := by omega
  have hl1b : l1 ≤ 1048576 := by omega
  have hsl1 : a1.s.size ≤ 1048576 := by omega
  rw [← hl1]
  clear hl1 hneg1
  go_wp2_with fail
  have hL1 : (putVal a0 a1).length ≤ 1048583 := Nat.le_trans (putVal_len _ _) (by omega)
  go_region_held3 (fun w' => w'.cell? ⟨w.heap.size, 0, none⟩ = some (.int .i64 a1.ty) ∧ w'.cell? ⟨w.heap.size, 1, none⟩ = some (.int .i64 a1.n) ∧ w'.cell? ⟨w.heap.size, 2, none⟩ = some (.string a1.s) ∧ Below w2.heap.size w2 w')
    (first
      | (exact ⟨hk1_0, hk1_1, hk1_2, (Below.refl _ _).drew⟩)
      | (go_split_ands; exact ⟨cell_keep hbm5 (by assumption), cell_keep hbm5 (by assumption), cell_keep hbm5 (by assumption), Below.trans (by assumption) (hbm5.mono (Below.size (by assumption)))⟩)
      | (go_split_ands; exact ⟨cell_keep hbm4 (by assumption), cell_keep hbm4 (by assumption), cell_keep hbm4 (by assumption), Below.trans (by assumption) (hbm4.mono (Below.size (by assumption)))⟩)
      | (go_split_ands; exact ⟨cell_keep hbm3 (by assumption), cell_keep hbm3 (by assumption), cell_keep hbm3 (by assumption), Below.trans (by assumption) (hbm3.mono (Below.size (by assumption)))⟩))
    (first
      | (go_at_call 17; refine (toByteS_any _ _ _ _ ((hr0.below (show _ ∧ _ ∧ _ ∧ Below w2.heap.size w2 _ by assumption).2.2.2 hsz).more (Nat.le_trans hsz (Below.size (show _ ∧ _ ∧ _ ∧ Below w2.heap.size w2 _ by assumption).2.2.2))) (by omega)).mono ?_; rintro e wm3 ⟨gm3, rfl, hom3, hbm3⟩)
      | (go_at_call 18; refine (toVal_any _ a1).mono ?_; rintro e wm4 ⟨rfl, hbm4⟩)
      | (go_at_call 16; refine (spec_PutVal _ _ _ _ (own_reads (own_step hom3 hbm4)) (own_nil (own_step hom3 hbm4)) (by omega) a1 h1).mono ?_; rintro e w5 ⟨A5_, c5_, rfl, hq5, hbm5⟩))
  have hb5 : Below w2.heap.size w2 w5 := (show _ ∧ _ ∧ _ ∧ Below w2.heap.size w2 w5 by assumption).2.2.2
  replace hq5 := Owned.mk' (own_lower (base' := w2.heap.size) hq5 (Nat.le_trans hbm3.size hbm4.size))
  clear hbm3 hbm4 hbm5 hom3
  have hz5 := hb5.size
  replace hr0 := hr0.below hb5 hsz
  replace hk1_0 := cell_keep hb5 hk1_0
  replace hk1_1 := cell_keep hb5 hk1_1
  replace hk1_2 := cell_keep hb5 hk1_2
  replace hbl := Below.stepU hbl hsz hb5
  replace hsz := Nat.le_trans hsz hz5
  clear hb5
  go_wp2_with fail
  refine (toByteS_any _ _ _ _ (hr0.more hsz) (by omega)).mono ?_
  rintro e w6 ⟨g6, rfl, ho6, hb6⟩
  replace ho6 := Owned.mk' ho6
  have hz6 := hb6.size
  replace hr0 := hr0.below hb6 hsz
  replace hk1_0 := cell_keep hb6 hk1_0
  replace hk1_1 := cell_keep hb6 hk1_1
  replace hk1_2 := cell_keep hb6 hk1_2
  replace hq5 := hq5.step hb6
  replace hbl := Below.stepU hbl hsz hb6
  replace hsz := Nat.le_trans hsz hz6
  clear hb6
  go_wp2_with fail
  refine (toVal_any _ a1).mono ?_
  rintro e w7 ⟨rfl, hb7⟩
  have hz7 := hb7.size
  replace hr0 := hr0.below hb7 hsz
  replace hk1_0 := cell_keep hb7 hk1_0
  replace hk1_1 := cell_keep hb7 hk1_1
  replace hk1_2 := cell_keep hb7 hk1_2
  replace hq5 := hq5.step hb7
  replace ho6 := ho6.step hb7
  replace hbl := Below.stepU hbl hsz hb7
  replace hsz := Nat.le_trans hsz hz7
  clear hb7
  go_wp2_with fail
  refine (impl_PutVal _ _ _ _ (ho6.reads.more (by omega)) (own_nil ho6.1) (by omega) a1 h1).mono ?_
  rintro e w8 ⟨A8_, c8_, rfl, hq8, hb8⟩
  replace hq8 := Owned.mk' hq8
  have hz8 := hb8.size
  replace hr0 := hr0.below hb8 hsz
  replace hk1_0 := cell_keep hb8 hk1_0
  replace hk1_1 := cell_keep hb8 hk1_1
  replace hk1_2 := cell_keep hb8 hk1_2
  replace hq5 := hq5.step hb8
  replace ho6 := ho6.step hb8
  replace hbl := Below.stepU hbl hsz hb8
  replace hsz := Nat.le_trans hsz hz8
  clear hb8
  go_wp2_with fail
  refine (eqByteS_same _ _ _ _ _ _ (hq8.reads.more (by omega)) (hq5.reads.more (by omega)) (by omega)).mono ?_
  rintro e w9 ⟨rfl, hb9⟩
  have hz9 := hb9.size
  replace hr0 := hr0.below hb9 hsz
  replace hk1_0 := cell_keep hb9 hk1_0
  replace hk1_1 := cell_keep hb9 hk1_1
  replace hk1_2 := cell_keep hb9 hk1_2
  replace hq5 := hq5.step hb9
  replace ho6 := ho6.step hb9
  replace hq8 := hq8.step hb9
  replace hbl := Below.stepU hbl hsz hb9
  replace hsz := Nat.le_trans hsz hz9
  clear hb9
  go_wp2_with fail
  refine (toByteS_any _ _ _ _ (hr0.more hsz) (by omega)).mono ?_
  rintro e w10 ⟨g10, rfl, ho10, hb10⟩
  replace ho10 := Owned.mk' ho10
  have hz10 := hb10.size
  replace hr0 := hr0.below hb10 hsz
  replace hk1_0 := cell_keep hb10 hk1_0
  replace hk1_1 := cell_keep hb10 hk1_1
  replace hk1_2 := cell_keep hb10 hk1_2
  replace hq5 := hq5.step hb10
  replace ho6 := ho6.step hb10
  replace hq8 := hq8.step hb10
  replace hbl := Below.stepU hbl hsz hb10
  replace hsz := Nat.le_trans hsz hz10
  clear hb10
  go_wp2_with fail
  refine (eqByteS_same _ _ _ _ _ _ (ho6.reads.more (by omega)) (ho10.reads.more (by omega)) (by omega)).mono ?_
  rintro e w11 ⟨rfl, hb11⟩
  have hz11 := hb11.size
  replace hr0 := hr0.below hb11 hsz
  replace hk1_0 := cell_keep hb11 hk1_0
  replace hk1_1 := cell_keep hb11 hk1_1
  replace hk1_2 := cell_keep hb11 hk1_2
  replace hq5 := hq5.step hb11
  replace ho6 := ho6.step hb11
  replace hq8 := hq8.step hb11
  replace ho10 := ho10.step hb11
  replace hbl := Below.stepU hbl hsz hb11
  replace hsz := Nat.le_trans hsz hz11
  clear hb11
  go_wp2_with fail
  clear ho10
  refine (markByteS_any _ _ _ _ _ _ _ (1) (by omega) (by omega) ho6.1 (by omega)).mono ?_
  rintro e w12 ⟨rfl, hm_, hgm12⟩
  have hz12 := hgm12.size
  replace hr0 := hr0.apart' ho6 hgm12 (by omega) (by omega)
  replace hk1_0 := cell_apart hk1_0 ho6 hgm12 (by simp; omega)
  replace hk1_1 := cell_apart hk1_1 ho6 hgm12 (by simp; omega)
  replace hk1_2 := cell_apart hk1_2 ho6 hgm12 (by simp; omega)
  replace hq5 := hq5.apart' ho6 hgm12 (by omega)
  replace hq8 := hq8.apart' ho6 hgm12 (by omega)
  replace hbl := Below.apart' hbl ho6 hgm12 (by omega) (by omega)
  replace hsz := Nat.le_trans hsz hz12
  replace ho6 : Owned _ _ _ _ _ _ _ _ _ := ⟨hm_, ho6.2⟩
  clear hgm12
  go_wp2_with fail
  refine (eqByteS_same _ _ _ _ _ _ (hq8.reads.more (by omega)) (hq5.reads.more (by omega)) (by omega)).mono ?_
  rintro e w13 ⟨rfl, hb13⟩
  have hz13 := hb13.size
  replace hr0 := hr0.below hb13 hsz
  replace hk1_0 := cell_keep hb13 hk1_0
  replace hk1_1 := cell_keep hb13 hk1_1
  replace hk1_2 := cell_keep hb13 hk1_2
  replace hq5 := hq5.step hb13
  replace ho6 := ho6.step hb13
  replace hq8 := hq8.step hb13
  replace hbl := Below.stepU hbl hsz hb13
  replace hsz := Nat.le_trans hsz hz13
  clear hb13
  go_wp2_with fail
  clear ho6
  refine (markByteS_any _ _ _ _ _ _ _ (1) (by omega) (by omega) hq8.1 (by omega)).mono ?_
  rintro e w14 ⟨rfl, hm_, hgm14⟩
  have hz14 := hgm14.size
  replace hr0 := hr0.apart' hq8 hgm14 (by omega) (by omega)
  replace hk1_0 := cell_apart hk1_0 hq8 hgm14 (by simp; omega)
  replace hk1_1 := cell_apart hk1_1 hq8 hgm14 (by simp; omega)
  replace hk1_2 := cell_apart hk1_2 hq8 hgm14 (by simp; omega)
  replace hq5 := hq5.apart' hq8 hgm14 (by omega)
  replace hbl := Below.apart' hbl hq8 hgm14 (by omega) (by omega)
  replace hsz := Nat.le_trans hsz hz14
  replace hq8 : Owned _ _ _ _ _ _ _ _ _ := ⟨hm_, hq8.2⟩
  clear hgm14
  go_wp2_with fail
  refine (heldByteS_any _ _ _ _ _ (1) (by omega) (by omega) (hq8.reads.more (by omega))).mono ?_
  rintro e w15 ⟨rfl, hb15⟩
  have hz15 := hb15.size
  replace hr0 := hr0.below hb15 hsz
  replace hk1_0 := cell_keep hb15 hk1_0
  replace hk1_1 := cell_keep hb15 hk1_1
  replace hk1_2 := cell_keep hb15 hk1_2
  replace hq5 := hq5.step hb15
  replace hq8 := hq8.step hb15
  replace hbl := Below.stepU hbl hsz hb15
  replace hsz := Nat.le_trans hsz hz15
  clear hb15
  go_wp2_with fail
  go_region_held3 (fun w' => w'.cell? ⟨w.heap.size, 0, none⟩ = some (.int .i64 a1.ty) ∧ w'.cell? ⟨w.heap.size, 1, none⟩ = some (.int .i64 a1.n) ∧ w'.cell? ⟨w.heap.size, 2, none⟩ = some (.string a1.s) ∧ Below w15.heap.size w15 w')
    (first
      | (exact ⟨hk1_0, hk1_1, hk1_2, (Below.refl _ _).drew⟩)
      | (go_split_ands; exact ⟨cell_keep hbm18 (by assumption), cell_keep hbm18 (by assumption), cell_keep hbm18 (by assumption), Below.trans (by assumption) (hbm18.mono (Below.size (by assumption)))⟩)
      | (go_split_ands; exact ⟨cell_keep hbm17 (by assumption), cell_keep hbm17 (by assumption), cell_keep hbm17 (by assumption), Below.trans (by assumption) (hbm17.mono (Below.size (by assumption)))⟩)
      | (go_split_ands; exact ⟨cell_keep hbm16 (by assumption), cell_keep hbm16 (by assumption), cell_keep hbm16 (by assumption), Below.trans (by assumption) (hbm16.mono (Below.size (by assumption)))⟩))
    (first
      | (go_at_call 17; refine (toByteS_any _ _ _ _ ((hr0.below (show _ ∧ _ ∧ _ ∧ Below w15.heap.size w15 _ by assumption).2.2.2 hsz).more (Nat.le_trans hsz (Below.size (show _ ∧ _ ∧ _ ∧ Below w15.heap.size w15 _ by assumption).2.2.2))) (by omega)).mono ?_; rintro e wm16 ⟨gm16, rfl, hom16, hbm16⟩)
      | (go_at_call 18; refine (toVal_any _ a1).mono ?_; rintro e wm17 ⟨rfl, hbm17⟩)
      | (go_at_call 19; refine (impl_PutVal _ _ _ _ (own_reads (own_step hom16 hbm17)) (own_nil (own_step hom16 hbm17)) (by omega) a1 h1).mono ?_; rintro e w18 ⟨A18_, c18_, rfl, hq18, hbm18⟩))
  have hb18 : Below w15.heap.size w15 w18 := (show _ ∧ _ ∧ _ ∧ Below w15.heap.size w15 w18 by assumption).2.2.2
  replace hq18 := Owned.mk' (own_lower (base' := w15.heap.size) hq18 (Nat.le_trans hbm16.size hbm17.size))
  clear hbm16 hbm17 hbm18 hom16
  have hz18 := hb18.size
  replace hr0 := hr0.below hb18 hsz
  replace hk1_0 := cell_keep hb18 hk1_0
  replace hk1_1 := cell_keep hb18 hk1_1
  replace hk1_2 := cell_keep hb18 hk1_2
  replace hq5 := hq5.step hb18
  replace hq8 := hq8.step hb18
  replace hbl := Below.stepU hbl hsz hb18
  replace hsz := Nat.le_trans hsz hz18
  clear hb18
  go_wp2_with fail
  refine (eqByteS_same _ _ _ _ _ _ (hq18.reads.more (by omega)) (hq5.reads.more (by omega)) (by omega)).mono ?_
  rintro e w19 ⟨rfl, hb19⟩
  have hz19 := hb19.size
  replace hr0 := hr0.below hb19 hsz
  replace hk1_0 := cell_keep hb19 hk1_0
  replace hk1_1 := cell_keep hb19 hk1_1
  replace hk1_2 := cell_keep hb19 hk1_2
  replace hq5 := hq5.step hb19
  replace hq8 := hq8.step hb19
  replace hq18 := hq18.step hb19
  replace hbl := Below.stepU hbl hsz hb19
  replace hsz := Nat.le_trans hsz hz19
  clear hb19
  go_wp2_with fail
  refine (heldByteS_any _ _ _ _ _ (1) (by omega) (by omega) (hq8.reads.more (by omega))).mono ?_
  rintro e w20 ⟨rfl, hb20⟩
  have hz20 := hb20.size
  replace hr0 := hr0.below hb20 hsz
  replace hk1_0 := cell_keep hb20 hk1_0
  replace hk1_1 := cell_keep hb20 hk1_1
  replace hk1_2 := cell_keep hb20 hk1_2
  replace hq5 := hq5.step hb20
  replace hq8 := hq8.step hb20
  replace hq18 := hq18.step hb20
  replace hbl := Below.stepU hbl hsz hb20
  replace hsz := Nat.le_trans hsz hz20
  clear hb20
  go_wp2_with fail
  go_ret
  exact ⟨rfl, hbl⟩

end Go.Proofs.Ytckfogpjljbelaa.fnExactPutVal
