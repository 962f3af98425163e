/-
  The walk of the law FnExactRowText: the Go function returns true, and leaves what it was handed as it was.
-/
import Derived.Test.YtgpimlmolcjeoaaDoorRtext
import Derived.Test.YtgpimlmolcjeoaaDoorRowh
namespace Go.Proofs.YtgpimlmolcjeoaaDoor.fnExactRowText
open Go.RowKit
set_option linter.unusedVariables false

set_option maxRecDepth 100000 in
set_option maxHeartbeats 4000000 in
theorem walk (w : World) (a0 : RowV) (h0 : a0.ok w) (hL : laidMet Tryd.prog Rows.fnExactRowTextRow.laid w) :
    Calls Tryd.prog 5 #[.agg #[.int .i64 a0.id, .slice a0.A a0.l.length a0.c]] w fun e w' => e = .returned (.bool true) ∧ Below w.heap.size w w' := by
  have hT : Tab w := tab_of hL
  clear hL
  obtain ⟨hid0, hc0, hm0, hr0, hi0⟩ := h0
  have hm0' : a0.l.length ≤ maxLen := Nat.le_trans hc0 hm0
  unfold maxLen at hm0'
  have hsz : w.heap.size ≤ w.heap.size := Nat.le_refl _
  have hbl := Below.refl w.heap.size w
  go_enter Tryd.func5, Tryd.ntmps5
  go_wp2_with fail
  obtain ⟨w1, hww1⟩ : ∃ w1, w1 = w.alloc (.cells #[.int .i64 a0.id, .slice a0.A a0.l.length a0.c] 33) := ⟨_, rfl⟩
  have hszw1 : w1.heap.size = w.heap.size + 1 := by rw [hww1]; simp
  replace hbl : Below w.heap.size w w1 := by rw [hww1]; exact Below.alloc0 (Below.refl _ _) _
  replace hr0 := hr0.below hbl (Nat.le_refl _)
  have hk0_0 : w1.cell? ⟨w.heap.size, 0, none⟩ = some (.int .i64 a0.id) := by rw [hww1]; simp [go_sem]
  have hk0_1 : w1.cell? ⟨w.heap.size, 1, none⟩ = some (.slice a0.A a0.l.length a0.c) := by rw [hww1]; simp [go_sem]
  replace hsz : w.heap.size ≤ w1.heap.size := hbl.size
  rw [← hww1]
  have hbx : w.heap.size + 1 ≤ w1.heap.size := by omega
  clear hww1 hszw1
  refine (szRow_any _ _ _ _ _ (hr0.more hsz) hi0 (Nat.le_trans hc0 hm0) 1048576 (by omega) (by omega)).mono ?_
  rintro e w2 ⟨l0, rfl, ⟨hl0b0, hl0c⟩, hb2⟩
  have hz2 := hb2.size
  replace hr0 := hr0.below hb2 hsz
  replace hk0_0 := cell_keep hb2 hk0_0
  replace hk0_1 := cell_keep hb2 hk0_1
  replace hbl := Below.stepU hbl hsz hb2
  replace hsz := Nat.le_trans hsz hz2
  clear hb2
  by_cases hneg0 : l0 < 0
  · go_wp2_with fail
    go_ret
    exact ⟨rfl, hbl⟩
  replace hl0c := hl0c (by omega)
  have hl0a : 0 ≤ l0 := by omega
  have hl0b : l0 ≤ 1048576 := by omega
  have hlen0 : a0.l.length ≤ 1048576 := by omega
  clear hl0c hl0b0 hneg0
  go_wp2_with fail
  refine (toRow_any _ a0.id _ _ _ (hr0.more hsz) (by omega)).mono ?_
  rintro e w3 ⟨g3, rfl, hom3, hbm3⟩
  go_wp2_with fail
  refine (spec_RowText _ a0.id _ _ _ (own_reads hom3) (by omega) hi0 hid0).mono ?_
  rintro e w4 ⟨rfl, hbm4⟩
  have hb4 : Below w2.heap.size w2 w4 := hbm3.trans (hbm4.mono hbm3.size)
  clear hbm3 hbm4 hom3
  have hz4 := hb4.size
  replace hr0 := hr0.below hb4 hsz
  replace hk0_0 := cell_keep hb4 hk0_0
  replace hk0_1 := cell_keep hb4 hk0_1
  replace hbl := Below.stepU hbl hsz hb4
  replace hsz := Nat.le_trans hsz hz4
  clear hb4
  go_wp2_with fail
  refine (toRow_any _ a0.id _ _ _ (hr0.more hsz) (by omega)).mono ?_
  rintro e w5 ⟨g5, rfl, ho5, hb5⟩
  replace ho5 := Owned.mk' ho5
  have hz5 := hb5.size
  replace hr0 := hr0.below hb5 hsz
  replace hk0_0 := cell_keep hb5 hk0_0
  replace hk0_1 := cell_keep hb5 hk0_1
  replace hbl := Below.stepU hbl hsz hb5
  replace hsz := Nat.le_trans hsz hz5
  clear hb5
  have hyhk0_0 : (w5.alloc (.cells #[.int .i64 a0.id, .slice (some ⟨g5, 0, none⟩) a0.l.length a0.l.length] 38)).cell? ⟨w.heap.size, 0, none⟩ = some (.int .i64 a0.id) := (World.cell?_alloc_lt _ _ _ (World.block_lt_of_cell? _ _ hk0_0)).trans hk0_0
  have hyhk0_1 : (w5.alloc (.cells #[.int .i64 a0.id, .slice (some ⟨g5, 0, none⟩) a0.l.length a0.l.length] 38)).cell? ⟨w.heap.size, 1, none⟩ = some (.slice a0.A a0.l.length a0.c) := (World.cell?_alloc_lt _ _ _ (World.block_lt_of_cell? _ _ hk0_1)).trans hk0_1
  go_wp2_with fail
  clear hyhk0_0 hyhk0_1
  obtain ⟨w6, hww6⟩ : ∃ W, W = (w5.alloc (.cells #[.int .i64 a0.id, .slice (some ⟨g5, 0, none⟩) a0.l.length a0.l.length] 38)) := ⟨_, rfl⟩
  have hx6_0 : w6.cell? ⟨w5.heap.size, 0, none⟩ = some (.int .i64 a0.id) := by rw [hww6]; simp [go_sem]
  have hx6_1 : w6.cell? ⟨w5.heap.size, 1, none⟩ = some (.slice (some ⟨g5, 0, none⟩) a0.l.length a0.l.length) := by rw [hww6]; simp [go_sem]
  have hb6 : Below w5.heap.size w5 w6 := by rw [hww6]; exact (Below.refl _ _).alloc (Nat.le_refl _) _
  rw [← hww6]
  clear hww6
  have hz6 := hb6.size
  replace hr0 := hr0.below hb6 hsz
  replace hk0_0 := cell_keep hb6 hk0_0
  replace hk0_1 := cell_keep hb6 hk0_1
  replace ho5 := ho5.step hb6
  replace hbl := Below.stepU hbl hsz hb6
  replace hsz := Nat.le_trans hsz hz6
  clear hb6
  refine (impl_RowText _ a0.id _ _ _ (ho5.reads.more (by omega)) (by omega) hi0 hid0 (hT.below hbl)).mono ?_
  rintro e w7 ⟨rfl, hb7⟩
  have hz7 := hb7.size
  replace hr0 := hr0.below hb7 hsz
  replace hk0_0 := cell_keep hb7 hk0_0
  replace hk0_1 := cell_keep hb7 hk0_1
  replace ho5 := ho5.step hb7
  replace hx6_0 := cell_keep hb7 hx6_0
  replace hx6_1 := cell_keep hb7 hx6_1
  replace hbl := Below.stepU hbl hsz hb7
  replace hsz := Nat.le_trans hsz hz7
  clear hb7
  go_wp2_with fail
  go_region_held3 (fun w' => w'.cell? ⟨w.heap.size, 0, none⟩ = some (.int .i64 a0.id) ∧ w'.cell? ⟨w.heap.size, 1, none⟩ = some (.slice a0.A a0.l.length a0.c) ∧ w'.cell? ⟨w5.heap.size, 0, none⟩ = some (.int .i64 a0.id) ∧ w'.cell? ⟨w5.heap.size, 1, none⟩ = some (.slice (some ⟨g5, 0, none⟩) a0.l.length a0.l.length) ∧ Below w7.heap.size w7 w')
    (first
      | (exact ⟨hk0_0, hk0_1, hx6_0, hx6_1, (Below.refl _ _).drew⟩)
      | (go_split_ands; exact ⟨cell_keep hbm9 (by assumption), cell_keep hbm9 (by assumption), cell_keep hbm9 (by assumption), cell_keep hbm9 (by assumption), Below.trans (by assumption) (hbm9.mono (Below.size (by assumption)))⟩)
      | (go_split_ands; exact ⟨cell_keep hbm8 (by assumption), cell_keep hbm8 (by assumption), cell_keep hbm8 (by assumption), cell_keep hbm8 (by assumption), Below.trans (by assumption) (hbm8.mono (Below.size (by assumption)))⟩))
    (first
      | (go_at_call 18; refine (toRow_any _ a0.id _ _ _ ((hr0.below (show _ ∧ _ ∧ _ ∧ _ ∧ Below w7.heap.size w7 _ by assumption).2.2.2.2 hsz).more (Nat.le_trans hsz (Below.size (show _ ∧ _ ∧ _ ∧ _ ∧ Below w7.heap.size w7 _ by assumption).2.2.2.2))) (by omega)).mono ?_; rintro e wm8 ⟨gm8, rfl, hom8, hbm8⟩)
      | (go_at_call 20; refine (eqRow_same _ a0.id _ _ _ _ _ (Reads.more (Reads.below ho5.reads (show _ ∧ _ ∧ _ ∧ _ ∧ Below w7.heap.size w7 _ by assumption).2.2.2.2 (by omega)) (Nat.le_trans (by omega) (Below.size (show _ ∧ _ ∧ _ ∧ _ ∧ Below w7.heap.size w7 _ by assumption).2.2.2.2))) (own_reads hom8) (by omega)).mono ?_; rintro e w9 ⟨rfl, hbm9⟩))
  have hb9 : Below w7.heap.size w7 w9 := (show _ ∧ _ ∧ _ ∧ _ ∧ Below w7.heap.size w7 w9 by assumption).2.2.2.2
  clear hbm8 hbm9 hom8
  have hz9 := hb9.size
  replace hr0 := hr0.below hb9 hsz
  replace hk0_0 := cell_keep hb9 hk0_0
  replace hk0_1 := cell_keep hb9 hk0_1
  replace ho5 := ho5.step hb9
  replace hx6_0 := cell_keep hb9 hx6_0
  replace hx6_1 := cell_keep hb9 hx6_1
  replace hbl := Below.stepU hbl hsz hb9
  replace hsz := Nat.le_trans hsz hz9
  clear hb9
  go_wp2_with fail
  go_ret
  exact ⟨rfl, hbl⟩

end Go.Proofs.YtgpimlmolcjeoaaDoor.fnExactRowText
