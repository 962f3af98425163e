/-
  The walk of the law FnExactSameRow: the Go function returns true, and leaves what it was handed as it was.
-/
import Derived.Test.YtkgkommlfceneaaRowh
namespace Go.Proofs.Ytkgkommlfceneaa.fnExactSameRow
open Go.RowKit
set_option linter.unusedVariables false

set_option maxRecDepth 100000 in
set_option maxHeartbeats 4000000 in
theorem walk (w : World) (a0 : RowV) (h0 : a0.ok w) (a1 : RowV) (h1 : a1.ok w) :
    Calls Try.prog 7 #[.agg #[.int .i64 a0.id, .slice a0.A a0.l.length a0.c], .agg #[.int .i64 a1.id, .slice a1.A a1.l.length a1.c]] w fun e w' => e = .returned (.bool true) ∧ Below w.heap.size w w' := by
  obtain ⟨hid0, hc0, hm0, hr0, hi0⟩ := h0
  have hm0' : a0.l.length ≤ maxLen := Nat.le_trans hc0 hm0
  unfold maxLen at hm0'
  obtain ⟨hid1, hc1, hm1, hr1, hi1⟩ := h1
  have hm1' : a1.l.length ≤ maxLen := Nat.le_trans hc1 hm1
  unfold maxLen at hm1'
  have hsz : w.heap.size ≤ w.heap.size := Nat.le_refl _
  have hbl := Below.refl w.heap.size w
  go_enter Try.func7, Try.ntmps7
  go_wp2_with fail
  obtain ⟨w1, hww1⟩ : ∃ w1, w1 = (w.alloc (.cells #[.int .i64 a0.id, .slice a0.A a0.l.length a0.c] 45)).alloc (.cells #[.int .i64 a1.id, .slice a1.A a1.l.length a1.c] 45) := ⟨_, rfl⟩
  have hszw1 : w1.heap.size = w.heap.size + 2 := by rw [hww1]; simp
  replace hbl : Below w.heap.size w w1 := by rw [hww1]; exact Below.alloc0 (Below.alloc0 (Below.refl _ _) _) _
  replace hr0 := hr0.below hbl (Nat.le_refl _)
  replace hr1 := hr1.below hbl (Nat.le_refl _)
  have hk0_0 : w1.cell? ⟨w.heap.size, 0, none⟩ = some (.int .i64 a0.id) := by rw [hww1]; simp [go_sem]
  have hk0_1 : w1.cell? ⟨w.heap.size, 1, none⟩ = some (.slice a0.A a0.l.length a0.c) := by rw [hww1]; simp [go_sem]
  have hk1_0 : w1.cell? ⟨w.heap.size + 1, 0, none⟩ = some (.int .i64 a1.id) := by rw [hww1]; simp [go_sem]
  have hk1_1 : w1.cell? ⟨w.heap.size + 1, 1, none⟩ = some (.slice a1.A a1.l.length a1.c) := by rw [hww1]; simp [go_sem]
  replace hsz : w.heap.size ≤ w1.heap.size := hbl.size
  rw [← hww1]
  have hbx : w.heap.size + 2 ≤ w1.heap.size := by omega
  clear hww1 hszw1
  refine (szRow_any _ _ _ _ _ (hr0.more hsz) hi0 (Nat.le_trans hc0 hm0) 1048576 (by omega) (by omega)).mono ?_
  rintro e w2 ⟨l0, rfl, ⟨hl0b0, hl0c⟩, hb2⟩
  have hz2 := hb2.size
  replace hr0 := hr0.below hb2 hsz
  replace hr1 := hr1.below hb2 hsz
  replace hk0_0 := cell_keep hb2 hk0_0
  replace hk0_1 := cell_keep hb2 hk0_1
  replace hk1_0 := cell_keep hb2 hk1_0
  replace hk1_1 := cell_keep hb2 hk1_1
  replace hbl := Below.stepU hbl hsz hb2
  replace hsz := Nat.le_trans hsz hz2
  clear hb2
  by_cases hneg0 : l0 < 0
  · go_wp2_with fail
    go_ret
    exact ⟨rfl, hbl⟩
  replace hl0c := hl0c (by omega)
  have hl0a : 0 ≤ l0 := by omega
  have hl0b : l0 ≤ 1048576 := by omega
  have hlen0 : a0.l.length ≤ 1048576 := by omega
  clear hl0c hl0b0 hneg0
  go_wp2_with fail
  refine (szRow_any _ _ _ _ _ (hr1.more hsz) hi1 (Nat.le_trans hc1 hm1) l0 (by omega) (by omega)).mono ?_
  rintro e w3 ⟨l1, rfl, ⟨hl1b0, hl1c⟩, hb3⟩
  have hz3 := hb3.size
  replace hr0 := hr0.below hb3 hsz
  replace hr1 := hr1.below hb3 hsz
  replace hk0_0 := cell_keep hb3 hk0_0
  replace hk0_1 := cell_keep hb3 hk0_1
  replace hk1_0 := cell_keep hb3 hk1_0
  replace hk1_1 := cell_keep hb3 hk1_1
  replace hbl := Below.stepU hbl hsz hb3
  replace hsz := Nat.le_trans hsz hz3
  clear hb3
  by_cases hneg1 : l1 < 0
  · go_wp2_with fail
    go_ret
    exact ⟨rfl, hbl⟩
  replace hl1c := hl1c (by omega)
  have hl1a : 0 ≤ l1 := by omega
  have hl1b : l1 ≤ 1048576 := by omega
  have hlen1 : a1.l.length ≤ 1048576 := by omega
  clear hl1c hl1b0 hneg1
  go_wp2_with fail
  go_region_held3 (fun w' => w'.cell? ⟨w.heap.size, 0, none⟩ = some (.int .i64 a0.id) ∧ w'.cell? ⟨w.heap.size, 1, none⟩ = some (.slice a0.A a0.l.length a0.c) ∧ w'.cell? ⟨w.heap.size + 1, 0, none⟩ = some (.int .i64 a1.id) ∧ w'.cell? ⟨w.heap.size + 1, 1, none⟩ = some (.slice a1.A a1.l.length a1.c) ∧ Below w3.heap.size w3 w')
    (first
      | (exact ⟨hk0_0, hk0_1, hk1_0, hk1_1, (Below.refl _ _).drew⟩)
      | (go_split_ands; exact ⟨cell_keep hbm6 (by assumption), cell_keep hbm6 (by assumption), cell_keep hbm6 (by assumption), cell_keep hbm6 (by assumption), Below.trans (by assumption) (hbm6.mono (Below.size (by assumption)))⟩)
      | (go_split_ands; exact ⟨cell_keep hbm5 (by assumption), cell_keep hbm5 (by assumption), cell_keep hbm5 (by assumption), cell_keep hbm5 (by assumption), Below.trans (by assumption) (hbm5.mono (Below.size (by assumption)))⟩)
      | (go_split_ands; exact ⟨cell_keep hbm4 (by assumption), cell_keep hbm4 (by assumption), cell_keep hbm4 (by assumption), cell_keep hbm4 (by assumption), Below.trans (by assumption) (hbm4.mono (Below.size (by assumption)))⟩))
    (first
      | (go_at_call 35; refine (toRow_any _ _ _ _ _ (by first | exact ((hr0.below (show _ ∧ _ ∧ _ ∧ _ ∧ Below w3.heap.size w3 _ by assumption).2.2.2.2 hsz).more (Nat.le_trans hsz (Below.size (show _ ∧ _ ∧ _ ∧ _ ∧ Below w3.heap.size w3 _ by assumption).2.2.2.2))) | exact ((hr1.below (show _ ∧ _ ∧ _ ∧ _ ∧ Below w3.heap.size w3 _ by assumption).2.2.2.2 hsz).more (Nat.le_trans hsz (Below.size (show _ ∧ _ ∧ _ ∧ _ ∧ Below w3.heap.size w3 _ by assumption).2.2.2.2)))) (by omega)).mono ?_; first | (have hx_ := hom4; clear hx_; rintro e wm5 ⟨gm5, rfl, hom5, hbm5⟩) | rintro e wm4 ⟨gm4, rfl, hom4, hbm4⟩)
      | (go_at_call 34; refine (spec_SameRow _ a0.id _ _ _ (own_reads (own_step hom4 hbm5)) (by omega) hi0 a1.id _ _ _ (own_reads hom5) (by omega) hi1).mono ?_; rintro e w6 ⟨rfl, hbm6⟩))
  have hb6 : Below w3.heap.size w3 w6 := (show _ ∧ _ ∧ _ ∧ _ ∧ Below w3.heap.size w3 w6 by assumption).2.2.2.2
  clear hbm4 hbm5 hbm6 hom4 hom5
  have hz6 := hb6.size
  replace hr0 := hr0.below hb6 hsz
  replace hr1 := hr1.below hb6 hsz
  replace hk0_0 := cell_keep hb6 hk0_0
  replace hk0_1 := cell_keep hb6 hk0_1
  replace hk1_0 := cell_keep hb6 hk1_0
  replace hk1_1 := cell_keep hb6 hk1_1
  replace hbl := Below.stepU hbl hsz hb6
  replace hsz := Nat.le_trans hsz hz6
  clear hb6
  go_wp2_with fail
  refine (toRow_any _ a0.id _ _ _ (hr0.more hsz) (by omega)).mono ?_
  rintro e w7 ⟨g7, rfl, ho7, hb7⟩
  replace ho7 := Owned.mk' ho7
  have hz7 := hb7.size
  replace hr0 := hr0.below hb7 hsz
  replace hr1 := hr1.below hb7 hsz
  replace hk0_0 := cell_keep hb7 hk0_0
  replace hk0_1 := cell_keep hb7 hk0_1
  replace hk1_0 := cell_keep hb7 hk1_0
  replace hk1_1 := cell_keep hb7 hk1_1
  replace hbl := Below.stepU hbl hsz hb7
  replace hsz := Nat.le_trans hsz hz7
  clear hb7
  have hyhk0_0 : (w7.alloc (.cells #[.int .i64 a0.id, .slice (some ⟨g7, 0, none⟩) a0.l.length a0.l.length] 49)).cell? ⟨w.heap.size, 0, none⟩ = some (.int .i64 a0.id) := (World.cell?_alloc_lt _ _ _ (World.block_lt_of_cell? _ _ hk0_0)).trans hk0_0
  have hyhk0_1 : (w7.alloc (.cells #[.int .i64 a0.id, .slice (some ⟨g7, 0, none⟩) a0.l.length a0.l.length] 49)).cell? ⟨w.heap.size, 1, none⟩ = some (.slice a0.A a0.l.length a0.c) := (World.cell?_alloc_lt _ _ _ (World.block_lt_of_cell? _ _ hk0_1)).trans hk0_1
  have hyhk1_0 : (w7.alloc (.cells #[.int .i64 a0.id, .slice (some ⟨g7, 0, none⟩) a0.l.length a0.l.length] 49)).cell? ⟨w.heap.size + 1, 0, none⟩ = some (.int .i64 a1.id) := (World.cell?_alloc_lt _ _ _ (World.block_lt_of_cell? _ _ hk1_0)).trans hk1_0
  have hyhk1_1 : (w7.alloc (.cells #[.int .i64 a0.id, .slice (some ⟨g7, 0, none⟩) a0.l.length a0.l.length] 49)).cell? ⟨w.heap.size + 1, 1, none⟩ = some (.slice a1.A a1.l.length a1.c) := (World.cell?_alloc_lt _ _ _ (World.block_lt_of_cell? _ _ hk1_1)).trans hk1_1
  go_wp2_with fail
  clear hyhk0_0 hyhk0_1 hyhk1_0 hyhk1_1
  obtain ⟨w8, hww8⟩ : ∃ W, W = (w7.alloc (.cells #[.int .i64 a0.id, .slice (some ⟨g7, 0, none⟩) a0.l.length a0.l.length] 49)) := ⟨_, rfl⟩
  have hx8_0 : w8.cell? ⟨w7.heap.size, 0, none⟩ = some (.int .i64 a0.id) := by rw [hww8]; simp [go_sem]
  have hx8_1 : w8.cell? ⟨w7.heap.size, 1, none⟩ = some (.slice (some ⟨g7, 0, none⟩) a0.l.length a0.l.length) := by rw [hww8]; simp [go_sem]
  have hb8 : Below w7.heap.size w7 w8 := by rw [hww8]; exact (Below.refl _ _).alloc (Nat.le_refl _) _
  rw [← hww8]
  clear hww8
  have hz8 := hb8.size
  replace hr0 := hr0.below hb8 hsz
  replace hr1 := hr1.below hb8 hsz
  replace hk0_0 := cell_keep hb8 hk0_0
  replace hk0_1 := cell_keep hb8 hk0_1
  replace hk1_0 := cell_keep hb8 hk1_0
  replace hk1_1 := cell_keep hb8 hk1_1
  replace ho7 := ho7.step hb8
  replace hbl := Below.stepU hbl hsz hb8
  replace hsz := Nat.le_trans hsz hz8
  clear hb8
  refine (toRow_any _ a1.id _ _ _ (hr1.more hsz) (by omega)).mono ?_
  rintro e w9 ⟨g9, rfl, ho9, hb9⟩
  replace ho9 := Owned.mk' ho9
  have hz9 := hb9.size
  replace hr0 := hr0.below hb9 hsz
  replace hr1 := hr1.below hb9 hsz
  replace hk0_0 := cell_keep hb9 hk0_0
  replace hk0_1 := cell_keep hb9 hk0_1
  replace hk1_0 := cell_keep hb9 hk1_0
  replace hk1_1 := cell_keep hb9 hk1_1
  replace ho7 := ho7.step hb9
  replace hx8_0 := cell_keep hb9 hx8_0
  replace hx8_1 := cell_keep hb9 hx8_1
  replace hbl := Below.stepU hbl hsz hb9
  replace hsz := Nat.le_trans hsz hz9
  clear hb9
  have hyhk0_0 : (w9.alloc (.cells #[.int .i64 a1.id, .slice (some ⟨g9, 0, none⟩) a1.l.length a1.l.length] 49)).cell? ⟨w.heap.size, 0, none⟩ = some (.int .i64 a0.id) := (World.cell?_alloc_lt _ _ _ (World.block_lt_of_cell? _ _ hk0_0)).trans hk0_0
  have hyhk0_1 : (w9.alloc (.cells #[.int .i64 a1.id, .slice (some ⟨g9, 0, none⟩) a1.l.length a1.l.length] 49)).cell? ⟨w.heap.size, 1, none⟩ = some (.slice a0.A a0.l.length a0.c) := (World.cell?_alloc_lt _ _ _ (World.block_lt_of_cell? _ _ hk0_1)).trans hk0_1
  have hyhk1_0 : (w9.alloc (.cells #[.int .i64 a1.id, .slice (some ⟨g9, 0, none⟩) a1.l.length a1.l.length] 49)).cell? ⟨w.heap.size + 1, 0, none⟩ = some (.int .i64 a1.id) := (World.cell?_alloc_lt _ _ _ (World.block_lt_of_cell? _ _ hk1_0)).trans hk1_0
  have hyhk1_1 : (w9.alloc (.cells #[.int .i64 a1.id, .slice (some ⟨g9, 0, none⟩) a1.l.length a1.l.length] 49)).cell? ⟨w.heap.size + 1, 1, none⟩ = some (.slice a1.A a1.l.length a1.c) := (World.cell?_alloc_lt _ _ _ (World.block_lt_of_cell? _ _ hk1_1)).trans hk1_1
  have hyhx8_0 : (w9.alloc (.cells #[.int .i64 a1.id, .slice (some ⟨g9, 0, none⟩) a1.l.length a1.l.length] 49)).cell? ⟨w7.heap.size, 0, none⟩ = some (.int .i64 a0.id) := (World.cell?_alloc_lt _ _ _ (World.block_lt_of_cell? _ _ hx8_0)).trans hx8_0
  have hyhx8_1 : (w9.alloc (.cells #[.int .i64 a1.id, .slice (some ⟨g9, 0, none⟩) a1.l.length a1.l.length] 49)).cell? ⟨w7.heap.size, 1, none⟩ = some (.slice (some ⟨g7, 0, none⟩) a0.l.length a0.l.length) := (World.cell?_alloc_lt _ _ _ (World.block_lt_of_cell? _ _ hx8_1)).trans hx8_1
  go_wp2_with fail
  clear hyhk0_0 hyhk0_1 hyhk1_0 hyhk1_1 hyhx8_0 hyhx8_1
  obtain ⟨w10, hww10⟩ : ∃ W, W = (w9.alloc (.cells #[.int .i64 a1.id, .slice (some ⟨g9, 0, none⟩) a1.l.length a1.l.length] 49)) := ⟨_, rfl⟩
  have hx10_0 : w10.cell? ⟨w9.heap.size, 0, none⟩ = some (.int .i64 a1.id) := by rw [hww10]; simp [go_sem]
  have hx10_1 : w10.cell? ⟨w9.heap.size, 1, none⟩ = some (.slice (some ⟨g9, 0, none⟩) a1.l.length a1.l.length) := by rw [hww10]; simp [go_sem]
  have hb10 : Below w9.heap.size w9 w10 := by rw [hww10]; exact (Below.refl _ _).alloc (Nat.le_refl _) _
  rw [← hww10]
  clear hww10
  have hz10 := hb10.size
  replace hr0 := hr0.below hb10 hsz
  replace hr1 := hr1.below hb10 hsz
  replace hk0_0 := cell_keep hb10 hk0_0
  replace hk0_1 := cell_keep hb10 hk0_1
  replace hk1_0 := cell_keep hb10 hk1_0
  replace hk1_1 := cell_keep hb10 hk1_1
  replace ho7 := ho7.step hb10
  replace hx8_0 := cell_keep hb10 hx8_0
  replace hx8_1 := cell_keep hb10 hx8_1
  replace ho9 := ho9.step hb10
  replace hbl := Below.stepU hbl hsz hb10
  replace hsz := Nat.le_trans hsz hz10
  clear hb10
  refine (impl_SameRow _ a0.id _ _ _ (ho7.reads.more (by omega)) (by omega) hi0 a1.id _ _ _ (ho9.reads.more (by omega)) (by omega) hi1).mono ?_
  rintro e w11 ⟨rfl, hb11⟩
  have hz11 := hb11.size
  replace hr0 := hr0.below hb11 hsz
  replace hr1 := hr1.below hb11 hsz
  replace hk0_0 := cell_keep hb11 hk0_0
  replace hk0_1 := cell_keep hb11 hk0_1
  replace hk1_0 := cell_keep hb11 hk1_0
  replace hk1_1 := cell_keep hb11 hk1_1
  replace ho7 := ho7.step hb11
  replace hx8_0 := cell_keep hb11 hx8_0
  replace hx8_1 := cell_keep hb11 hx8_1
  replace ho9 := ho9.step hb11
  replace hx10_0 := cell_keep hb11 hx10_0
  replace hx10_1 := cell_keep hb11 hx10_1
  replace hbl := Below.stepU hbl hsz hb11
  replace hsz := Nat.le_trans hsz hz11
  clear hb11
  go_wp2_with fail
  go_region_held3 (fun w' => w'.cell? ⟨w.heap.size, 0, none⟩ = some (.int .i64 a0.id) ∧ w'.cell? ⟨w.heap.size, 1, none⟩ = some (.slice a0.A a0.l.length a0.c) ∧ w'.cell? ⟨w.heap.size + 1, 0, none⟩ = some (.int .i64 a1.id) ∧ w'.cell? ⟨w.heap.size + 1, 1, none⟩ = some (.slice a1.A a1.l.length a1.c) ∧ w'.cell? ⟨w7.heap.size, 0, none⟩ = some (.int .i64 a0.id) ∧ w'.cell? ⟨w7.heap.size, 1, none⟩ = some (.slice (some ⟨g7, 0, none⟩) a0.l.length a0.l.length) ∧ w'.cell? ⟨w9.heap.size, 0, none⟩ = some (.int .i64 a1.id) ∧ w'.cell? ⟨w9.heap.size, 1, none⟩ = some (.slice (some ⟨g9, 0, none⟩) a1.l.length a1.l.length) ∧ Below w11.heap.size w11 w')
    (first
      | (exact ⟨hk0_0, hk0_1, hk1_0, hk1_1, hx8_0, hx8_1, hx10_0, hx10_1, (Below.refl _ _).drew⟩)
      | (go_split_ands; exact ⟨cell_keep hbm13 (by assumption), cell_keep hbm13 (by assumption), cell_keep hbm13 (by assumption), cell_keep hbm13 (by assumption), cell_keep hbm13 (by assumption), cell_keep hbm13 (by assumption), cell_keep hbm13 (by assumption), cell_keep hbm13 (by assumption), Below.trans (by assumption) (hbm13.mono (Below.size (by assumption)))⟩)
      | (go_split_ands; exact ⟨cell_keep hbm12 (by assumption), cell_keep hbm12 (by assumption), cell_keep hbm12 (by assumption), cell_keep hbm12 (by assumption), cell_keep hbm12 (by assumption), cell_keep hbm12 (by assumption), cell_keep hbm12 (by assumption), cell_keep hbm12 (by assumption), Below.trans (by assumption) (hbm12.mono (Below.size (by assumption)))⟩))
    (first
      | (go_at_call 35; refine (toRow_any _ a0.id _ _ _ ((hr0.below (show _ ∧ _ ∧ _ ∧ _ ∧ _ ∧ _ ∧ _ ∧ _ ∧ Below w11.heap.size w11 _ by assumption).2.2.2.2.2.2.2.2 hsz).more (Nat.le_trans hsz (Below.size (show _ ∧ _ ∧ _ ∧ _ ∧ _ ∧ _ ∧ _ ∧ _ ∧ Below w11.heap.size w11 _ by assumption).2.2.2.2.2.2.2.2))) (by omega)).mono ?_; rintro e wm12 ⟨gm12, rfl, hom12, hbm12⟩)
      | (go_at_call 37; refine (eqRow_same _ a0.id _ _ _ _ _ (Reads.more (Reads.below ho7.reads (show _ ∧ _ ∧ _ ∧ _ ∧ _ ∧ _ ∧ _ ∧ _ ∧ Below w11.heap.size w11 _ by assumption).2.2.2.2.2.2.2.2 (by omega)) (Nat.le_trans (by omega) (Below.size (show _ ∧ _ ∧ _ ∧ _ ∧ _ ∧ _ ∧ _ ∧ _ ∧ Below w11.heap.size w11 _ by assumption).2.2.2.2.2.2.2.2))) (own_reads hom12) (by omega)).mono ?_; rintro e w13 ⟨rfl, hbm13⟩))
  have hb13 : Below w11.heap.size w11 w13 := (show _ ∧ _ ∧ _ ∧ _ ∧ _ ∧ _ ∧ _ ∧ _ ∧ Below w11.heap.size w11 w13 by assumption).2.2.2.2.2.2.2.2
  clear hbm12 hbm13 hom12
  have hz13 := hb13.size
  replace hr0 := hr0.below hb13 hsz
  replace hr1 := hr1.below hb13 hsz
  replace hk0_0 := cell_keep hb13 hk0_0
  replace hk0_1 := cell_keep hb13 hk0_1
  replace hk1_0 := cell_keep hb13 hk1_0
  replace hk1_1 := cell_keep hb13 hk1_1
  replace ho7 := ho7.step hb13
  replace hx8_0 := cell_keep hb13 hx8_0
  replace hx8_1 := cell_keep hb13 hx8_1
  replace ho9 := ho9.step hb13
  replace hx10_0 := cell_keep hb13 hx10_0
  replace hx10_1 := cell_keep hb13 hx10_1
  replace hbl := Below.stepU hbl hsz hb13
  replace hsz := Nat.le_trans hsz hz13
  clear hb13
  go_wp2_with fail
  go_region_held3 (fun w' => w'.cell? ⟨w.heap.size, 0, none⟩ = some (.int .i64 a0.id) ∧ w'.cell? ⟨w.heap.size, 1, none⟩ = some (.slice a0.A a0.l.length a0.c) ∧ w'.cell? ⟨w.heap.size + 1, 0, none⟩ = some (.int .i64 a1.id) ∧ w'.cell? ⟨w.heap.size + 1, 1, none⟩ = some (.slice a1.A a1.l.length a1.c) ∧ w'.cell? ⟨w7.heap.size, 0, none⟩ = some (.int .i64 a0.id) ∧ w'.cell? ⟨w7.heap.size, 1, none⟩ = some (.slice (some ⟨g7, 0, none⟩) a0.l.length a0.l.length) ∧ w'.cell? ⟨w9.heap.size, 0, none⟩ = some (.int .i64 a1.id) ∧ w'.cell? ⟨w9.heap.size, 1, none⟩ = some (.slice (some ⟨g9, 0, none⟩) a1.l.length a1.l.length) ∧ Below w13.heap.size w13 w')
    (first
      | (exact ⟨hk0_0, hk0_1, hk1_0, hk1_1, hx8_0, hx8_1, hx10_0, hx10_1, (Below.refl _ _).drew⟩)
      | (go_split_ands; exact ⟨cell_keep hbm15 (by assumption), cell_keep hbm15 (by assumption), cell_keep hbm15 (by assumption), cell_keep hbm15 (by assumption), cell_keep hbm15 (by assumption), cell_keep hbm15 (by assumption), cell_keep hbm15 (by assumption), cell_keep hbm15 (by assumption), Below.trans (by assumption) (hbm15.mono (Below.size (by assumption)))⟩)
      | (go_split_ands; exact ⟨cell_keep hbm14 (by assumption), cell_keep hbm14 (by assumption), cell_keep hbm14 (by assumption), cell_keep hbm14 (by assumption), cell_keep hbm14 (by assumption), cell_keep hbm14 (by assumption), cell_keep hbm14 (by assumption), cell_keep hbm14 (by assumption), Below.trans (by assumption) (hbm14.mono (Below.size (by assumption)))⟩))
    (first
      | (go_at_call 35; refine (toRow_any _ a1.id _ _ _ ((hr1.below (show _ ∧ _ ∧ _ ∧ _ ∧ _ ∧ _ ∧ _ ∧ _ ∧ Below w13.heap.size w13 _ by assumption).2.2.2.2.2.2.2.2 hsz).more (Nat.le_trans hsz (Below.size (show _ ∧ _ ∧ _ ∧ _ ∧ _ ∧ _ ∧ _ ∧ _ ∧ Below w13.heap.size w13 _ by assumption).2.2.2.2.2.2.2.2))) (by omega)).mono ?_; rintro e wm14 ⟨gm14, rfl, hom14, hbm14⟩)
      | (go_at_call 37; refine (eqRow_same _ a1.id _ _ _ _ _ (Reads.more (Reads.below ho9.reads (show _ ∧ _ ∧ _ ∧ _ ∧ _ ∧ _ ∧ _ ∧ _ ∧ Below w13.heap.size w13 _ by assumption).2.2.2.2.2.2.2.2 (by omega)) (Nat.le_trans (by omega) (Below.size (show _ ∧ _ ∧ _ ∧ _ ∧ _ ∧ _ ∧ _ ∧ _ ∧ Below w13.heap.size w13 _ by assumption).2.2.2.2.2.2.2.2))) (own_reads hom14) (by omega)).mono ?_; rintro e w15 ⟨rfl, hbm15⟩))
  have hb15 : Below w13.heap.size w13 w15 := (show _ ∧ _ ∧ _ ∧ _ ∧ _ ∧ _ ∧ _ ∧ _ ∧ Below w13.heap.size w13 w15 by assumption).2.2.2.2.2.2.2.2
  clear hbm14 hbm15 hom14
  have hz15 := hb15.size
  replace hr0 := hr0.below hb15 hsz
  replace hr1 := hr1.below hb15 hsz
  replace hk0_0 := cell_keep hb15 hk0_0
  replace hk0_1 := cell_keep hb15 hk0_1
  replace hk1_0 := cell_keep hb15 hk1_0
  replace hk1_1 := cell_keep hb15 hk1_1
  replace ho7 := ho7.step hb15
  replace hx8_0 := cell_keep hb15 hx8_0
  replace hx8_1 := cell_keep hb15 hx8_1
  replace ho9 := ho9.step hb15
  replace hx10_0 := cell_keep hb15 hx10_0
  replace hx10_1 := cell_keep hb15 hx10_1
  replace hbl := Below.stepU hbl hsz hb15
  replace hsz := Nat.le_trans hsz hz15
  clear hb15
  go_wp2_with fail
  go_ret
  exact ⟨rfl, hbl⟩

end Go.Proofs.Ytkgkommlfceneaa.fnExactSameRow
