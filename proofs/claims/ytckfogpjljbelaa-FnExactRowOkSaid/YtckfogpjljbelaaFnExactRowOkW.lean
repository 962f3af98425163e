/-
  The walk of the law FnExactRowOk: the Go function returns true, and leaves what it was handed as it was.
-/
import Derived.Test.YtckfogpjljbelaaRowok
namespace Go.Proofs.Ytckfogpjljbelaa.fnExactRowOk
open Go.RowKit
set_option linter.unusedVariables false

set_option maxRecDepth 100000 in
set_option maxHeartbeats 4000000 in
theorem walk (w : World) (A0 : Option Addr) (c0 : Nat) (a0 : List Int) (hc0 : a0.length ≤ c0) (hm0 : c0 ≤ maxLen) (hr0 : Reads w w.heap.size 1 A0 a0.length (intCells a0)) (hi0 : ∀ x ∈ a0, I64 x) (a1 : RowV) (h1 : a1.ok w) :
    Calls Try.prog 5 #[.slice A0 a0.length c0, .agg #[.int .i64 a1.id, .slice a1.A a1.l.length a1.c]] w fun e w' => e = .returned (.bool true) ∧ Below w.heap.size w w' := by
  by_cases hg0 : 1048576 < a0.length
  · have hgm := hm0
    unfold maxLen at hgm
    go_enter Try.func5, Try.ntmps5
    go_wp2
    go_ret
    exact ⟨rfl, Below.alloc0 (Below.refl _ _) _⟩
  obtain ⟨hid1, hc1, hm1, hr1, hi1⟩ := h1
  have hm1' : a1.l.length ≤ maxLen := Nat.le_trans hc1 hm1
  unfold maxLen at hm1'
  have hsz : w.heap.size ≤ w.heap.size := Nat.le_refl _
  have hbl := Below.refl w.heap.size w
  go_enter Try.func5, Try.ntmps5
  go_wp2_with fail
  obtain ⟨w1, hww1⟩ : ∃ w1, w1 = w.alloc (.cells #[.int .i64 a1.id, .slice a1.A a1.l.length a1.c] 46) := ⟨_, rfl⟩
  have hszw1 : w1.heap.size = w.heap.size + 1 := by rw [hww1]; simp
  replace hbl : Below w.heap.size w w1 := by rw [hww1]; exact Below.alloc0 (Below.refl _ _) _
  replace hr0 := hr0.below hbl (Nat.le_refl _)
  replace hr1 := hr1.below hbl (Nat.le_refl _)
  have hk1_0 : w1.cell? ⟨w.heap.size, 0, none⟩ = some (.int .i64 a1.id) := by rw [hww1]; simp [go_sem]
  have hk1_1 : w1.cell? ⟨w.heap.size, 1, none⟩ = some (.slice a1.A a1.l.length a1.c) := by rw [hww1]; simp [go_sem]
  replace hsz : w.heap.size ≤ w1.heap.size := hbl.size
  rw [← hww1]
  have hbx : w.heap.size + 1 ≤ w1.heap.size := by omega
  clear hww1 hszw1
  refine (szRow_any _ _ _ _ _ (hr1.more hsz) hi1 (Nat.le_trans hc1 hm1) 1048576 (by omega) (by omega)).mono ?_
  rintro e w2 ⟨l1, rfl, ⟨hl1b0, hl1c⟩, hb2⟩
  have hz2 := hb2.size
  replace hr0 := hr0.below hb2 hsz
  replace hr1 := hr1.below hb2 hsz
  replace hk1_0 := cell_keep hb2 hk1_0
  replace hk1_1 := cell_keep hb2 hk1_1
  replace hbl := Below.stepU hbl hsz hb2
  replace hsz := Nat.le_trans hsz hz2
  clear hb2
  by_cases hneg1 : l1 < 0
  · go_wp2_with fail
    go_ret
    exact ⟨rfl, hbl⟩
  replace hl1c := hl1c (by omega)
  have hl1a : 0 ≤ l1 := by omega
  have hl1b : l1 ≤ 1048576 := by omega
  have hlen1 : a1.l.length ≤ 1048576 := by omega
  clear hl1c hl1b0 hneg1
  go_wp2_with fail
  go_region_held3 (fun w' => w'.cell? ⟨w.heap.size, 0, none⟩ = some (.int .i64 a1.id) ∧ w'.cell? ⟨w.heap.size, 1, none⟩ = some (.slice a1.A a1.l.length a1.c) ∧ Below w2.heap.size w2 w')
    (first
      | (exact ⟨hk1_0, hk1_1, (Below.refl _ _).drew⟩)
      | (go_split_ands; exact ⟨cell_keep hbm5 (by assumption), cell_keep hbm5 (by assumption), Below.trans (by assumption) (hbm5.mono (Below.size (by assumption)))⟩)
      | (go_split_ands; exact ⟨cell_keep hbm4 (by assumption), cell_keep hbm4 (by assumption), Below.trans (by assumption) (hbm4.mono (Below.size (by assumption)))⟩)
      | (go_split_ands; exact ⟨cell_keep hbm3 (by assumption), cell_keep hbm3 (by assumption), Below.trans (by assumption) (hbm3.mono (Below.size (by assumption)))⟩))
    (first
      | (go_at_call 34; refine (toIntS_any _ _ _ _ ((hr0.below (show _ ∧ _ ∧ Below w2.heap.size w2 _ by assumption).2.2 hsz).more (Nat.le_trans hsz (Below.size (show _ ∧ _ ∧ Below w2.heap.size w2 _ by assumption).2.2))) (by omega)).mono ?_; rintro e wm3 ⟨gm3, rfl, hom3, hbm3⟩)
      | (go_at_call 35; refine (toRow_any _ _ _ _ _ (by first | exact ((hr1.below (show _ ∧ _ ∧ Below w2.heap.size w2 _ by assumption).2.2 hsz).more (Nat.le_trans hsz (Below.size (show _ ∧ _ ∧ Below w2.heap.size w2 _ by assumption).2.2)))) (by omega)).mono ?_; rintro e wm4 ⟨gm4, rfl, hom4, hbm4⟩)
      | (go_at_call 33; refine (spec_RowOk _ _ _ _ (own_reads (own_step hom3 hbm4)) (by omega) hi0 a1.id _ _ _ (own_reads hom4) (by omega) hi1).mono ?_; rintro e w5 ⟨rfl, hbm5⟩))
  have hb5 : Below w2.heap.size w2 w5 := (show _ ∧ _ ∧ Below w2.heap.size w2 w5 by assumption).2.2
  clear hbm3 hbm4 hbm5 hom3 hom4
  have hz5 := hb5.size
  replace hr0 := hr0.below hb5 hsz
  replace hr1 := hr1.below hb5 hsz
  replace hk1_0 := cell_keep hb5 hk1_0
  replace hk1_1 := cell_keep hb5 hk1_1
  replace hbl := Below.stepU hbl hsz hb5
  replace hsz := Nat.le_trans hsz hz5
  clear hb5
  go_wp2_with fail
  refine (toIntS_any _ _ _ _ (hr0.more hsz) (by omega)).mono ?_
  rintro e w6 ⟨g6, rfl, ho6, hb6⟩
  replace ho6 := Owned.mk' ho6
  have hz6 := hb6.size
  replace hr0 := hr0.below hb6 hsz
  replace hr1 := hr1.below hb6 hsz
  replace hk1_0 := cell_keep hb6 hk1_0
  replace hk1_1 := cell_keep hb6 hk1_1
  replace hbl := Below.stepU hbl hsz hb6
  replace hsz := Nat.le_trans hsz hz6
  clear hb6
  go_wp2_with fail
  refine (toRow_any _ a1.id _ _ _ (hr1.more hsz) (by omega)).mono ?_
  rintro e w7 ⟨g7, rfl, ho7, hb7⟩
  replace ho7 := Owned.mk' ho7
  have hz7 := hb7.size
  replace hr0 := hr0.below hb7 hsz
  replace hr1 := hr1.below hb7 hsz
  replace hk1_0 := cell_keep hb7 hk1_0
  replace hk1_1 := cell_keep hb7 hk1_1
  replace ho6 := ho6.step hb7
  replace hbl := Below.stepU hbl hsz hb7
  replace hsz := Nat.le_trans hsz hz7
  clear hb7
  have hyhk1_0 : (w7.alloc (.cells #[.int .i64 a1.id, .slice (some ⟨g7, 0, none⟩) a1.l.length a1.l.length] 51)).cell? ⟨w.heap.size, 0, none⟩ = some (.int .i64 a1.id) := (World.cell?_alloc_lt _ _ _ (World.block_lt_of_cell? _ _ hk1_0)).trans hk1_0
  have hyhk1_1 : (w7.alloc (.cells #[.int .i64 a1.id, .slice (some ⟨g7, 0, none⟩) a1.l.length a1.l.length] 51)).cell? ⟨w.heap.size, 1, none⟩ = some (.slice a1.A a1.l.length a1.c) := (World.cell?_alloc_lt _ _ _ (World.block_lt_of_cell? _ _ hk1_1)).trans hk1_1
  go_wp2_with fail
  clear hyhk1_0 hyhk1_1
  obtain ⟨w8, hww8⟩ : ∃ W, W = (w7.alloc (.cells #[.int .i64 a1.id, .slice (some ⟨g7, 0, none⟩) a1.l.length a1.l.length] 51)) := ⟨_, rfl⟩
  have hx8_0 : w8.cell? ⟨w7.heap.size, 0, none⟩ = some (.int .i64 a1.id) := by rw [hww8]; simp [go_sem]
  have hx8_1 : w8.cell? ⟨w7.heap.size, 1, none⟩ = some (.slice (some ⟨g7, 0, none⟩) a1.l.length a1.l.length) := by rw [hww8]; simp [go_sem]
  have hb8 : Below w7.heap.size w7 w8 := by rw [hww8]; exact (Below.refl _ _).alloc (Nat.le_refl _) _
  rw [← hww8]
  clear hww8
  have hz8 := hb8.size
  replace hr0 := hr0.below hb8 hsz
  replace hr1 := hr1.below hb8 hsz
  replace hk1_0 := cell_keep hb8 hk1_0
  replace hk1_1 := cell_keep hb8 hk1_1
  replace ho6 := ho6.step hb8
  replace ho7 := ho7.step hb8
  replace hbl := Below.stepU hbl hsz hb8
  replace hsz := Nat.le_trans hsz hz8
  clear hb8
  refine (impl_RowOk _ _ _ _ (ho6.reads.more (by omega)) (by omega) hi0 a1.id _ _ _ (ho7.reads.more (by omega)) (by omega) hi1).mono ?_
  rintro e w9 ⟨rfl, hb9⟩
  have hz9 := hb9.size
  replace hr0 := hr0.below hb9 hsz
  replace hr1 := hr1.below hb9 hsz
  replace hk1_0 := cell_keep hb9 hk1_0
  replace hk1_1 := cell_keep hb9 hk1_1
  replace ho6 := ho6.step hb9
  replace ho7 := ho7.step hb9
  replace hx8_0 := cell_keep hb9 hx8_0
  replace hx8_1 := cell_keep hb9 hx8_1
  replace hbl := Below.stepU hbl hsz hb9
  replace hsz := Nat.le_trans hsz hz9
  clear hb9
  go_wp2_with fail
  refine (toIntS_any _ _ _ _ (hr0.more hsz) (by omega)).mono ?_
  rintro e w10 ⟨g10, rfl, ho10, hb10⟩
  replace ho10 := Owned.mk' ho10
  have hz10 := hb10.size
  replace hr0 := hr0.below hb10 hsz
  replace hr1 := hr1.below hb10 hsz
  replace hk1_0 := cell_keep hb10 hk1_0
  replace hk1_1 := cell_keep hb10 hk1_1
  replace ho6 := ho6.step hb10
  replace ho7 := ho7.step hb10
  replace hx8_0 := cell_keep hb10 hx8_0
  replace hx8_1 := cell_keep hb10 hx8_1
  replace hbl := Below.stepU hbl hsz hb10
  replace hsz := Nat.le_trans hsz hz10
  clear hb10
  go_wp2_with fail
  refine (eqIntS_same _ _ _ _ _ _ (ho6.reads.more (by omega)) (ho10.reads.more (by omega)) (by omega)).mono ?_
  rintro e w11 ⟨rfl, hb11⟩
  have hz11 := hb11.size
  replace hr0 := hr0.below hb11 hsz
  replace hr1 := hr1.below hb11 hsz
  replace hk1_0 := cell_keep hb11 hk1_0
  replace hk1_1 := cell_keep hb11 hk1_1
  replace ho6 := ho6.step hb11
  replace ho7 := ho7.step hb11
  replace hx8_0 := cell_keep hb11 hx8_0
  replace hx8_1 := cell_keep hb11 hx8_1
  replace ho10 := ho10.step hb11
  replace hbl := Below.stepU hbl hsz hb11
  replace hsz := Nat.le_trans hsz hz11
  clear hb11
  go_wp2_with fail
  clear ho10
  go_region_held3 (fun w' => w'.cell? ⟨w.heap.size, 0, none⟩ = some (.int .i64 a1.id) ∧ w'.cell? ⟨w.heap.size, 1, none⟩ = some (.slice a1.A a1.l.length a1.c) ∧ w'.cell? ⟨w7.heap.size, 0, none⟩ = some (.int .i64 a1.id) ∧ w'.cell? ⟨w7.heap.size, 1, none⟩ = some (.slice (some ⟨g7, 0, none⟩) a1.l.length a1.l.length) ∧ Below w11.heap.size w11 w')
    (first
      | (exact ⟨hk1_0, hk1_1, hx8_0, hx8_1, (Below.refl _ _).drew⟩)
      | (go_split_ands; exact ⟨cell_keep hbm13 (by assumption), cell_keep hbm13 (by assumption), cell_keep hbm13 (by assumption), cell_keep hbm13 (by assumption), Below.trans (by assumption) (hbm13.mono (Below.size (by assumption)))⟩)
      | (go_split_ands; exact ⟨cell_keep hbm12 (by assumption), cell_keep hbm12 (by assumption), cell_keep hbm12 (by assumption), cell_keep hbm12 (by assumption), Below.trans (by assumption) (hbm12.mono (Below.size (by assumption)))⟩))
    (first
      | (go_at_call 35; refine (toRow_any _ a1.id _ _ _ ((hr1.below (show _ ∧ _ ∧ _ ∧ _ ∧ Below w11.heap.size w11 _ by assumption).2.2.2.2 hsz).more (Nat.le_trans hsz (Below.size (show _ ∧ _ ∧ _ ∧ _ ∧ Below w11.heap.size w11 _ by assumption).2.2.2.2))) (by omega)).mono ?_; rintro e wm12 ⟨gm12, rfl, hom12, hbm12⟩)
      | (go_at_call 37; refine (eqRow_same _ a1.id _ _ _ _ _ (Reads.more (Reads.below ho7.reads (show _ ∧ _ ∧ _ ∧ _ ∧ Below w11.heap.size w11 _ by assumption).2.2.2.2 (by omega)) (Nat.le_trans (by omega) (Below.size (show _ ∧ _ ∧ _ ∧ _ ∧ Below w11.heap.size w11 _ by assumption).2.2.2.2))) (own_reads hom12) (by omega)).mono ?_; rintro e w13 ⟨rfl, hbm13⟩))
  have hb13 : Below w11.heap.size w11 w13 := (show _ ∧ _ ∧ _ ∧ _ ∧ Below w11.heap.size w11 w13 by assumption).2.2.2.2
  clear hbm12 hbm13 hom12
  have hz13 := hb13.size
  replace hr0 := hr0.below hb13 hsz
  replace hr1 := hr1.below hb13 hsz
  replace hk1_0 := cell_keep hb13 hk1_0
  replace hk1_1 := cell_keep hb13 hk1_1
  replace ho6 := ho6.step hb13
  replace ho7 := ho7.step hb13
  replace hx8_0 := cell_keep hb13 hx8_0
  replace hx8_1 := cell_keep hb13 hx8_1
  replace hbl := Below.stepU hbl hsz hb13
  replace hsz := Nat.le_trans hsz hz13
  clear hb13
  go_wp2_with fail
  go_ret
  exact ⟨rfl, hbl⟩

end Go.Proofs.Ytckfogpjljbelaa.fnExactRowOk
