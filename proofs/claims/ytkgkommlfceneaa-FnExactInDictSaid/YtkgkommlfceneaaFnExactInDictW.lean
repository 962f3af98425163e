/-
  The walk of the law FnExactInDict: the Go function returns true, and leaves what it was handed as it was.
-/
import Derived.Test.YtkgkommlfceneaaDict1
namespace Go.Proofs.Ytkgkommlfceneaa.fnExactInDict
open Go.RowKit
set_option linter.unusedVariables false

set_option maxRecDepth 100000 in
set_option maxHeartbeats 4000000 in
theorem walk (w : World) (A0 : Option Addr) (c0 : Nat) (a0 : List V) (hc0 : a0.length ≤ c0) (hm0 : c0 ≤ maxLen) (hr0 : Reads w w.heap.size 3 A0 a0.length (valCells a0)) (hi0 : ∀ x ∈ a0, x.ok) (a1 : V) (h1 : a1.ok) :
    Calls Try.prog 3 #[.slice A0 a0.length c0, .agg #[.int .i64 a1.ty, .int .i64 a1.n, .string a1.s]] w fun e w' => e = .returned (.bool true) ∧ Below w.heap.size w w' := by
  have hsz : w.heap.size ≤ w.heap.size := Nat.le_refl _
  have hbl := Below.refl w.heap.size w
  go_enter Try.func3, Try.ntmps3
  go_wp2_with fail
  obtain ⟨w1, hww1⟩ : ∃ w1, w1 = w.alloc (.cells #[.int .i64 a1.ty, .int .i64 a1.n, .string a1.s] 24) := ⟨_, rfl⟩
  have hszw1 : w1.heap.size = w.heap.size + 1 := by rw [hww1]; simp
  replace hbl : Below w.heap.size w w1 := by rw [hww1]; exact Below.alloc0 (Below.refl _ _) _
  replace hr0 := hr0.below hbl (Nat.le_refl _)
  have hk1_0 : w1.cell? ⟨w.heap.size, 0, none⟩ = some (.int .i64 a1.ty) := by rw [hww1]; simp [go_sem]
  have hk1_1 : w1.cell? ⟨w.heap.size, 1, none⟩ = some (.int .i64 a1.n) := by rw [hww1]; simp [go_sem]
  have hk1_2 : w1.cell? ⟨w.heap.size, 2, none⟩ = some (.string a1.s) := by rw [hww1]; simp [go_sem]
  replace hsz : w.heap.size ≤ w1.heap.size := hbl.size
  rw [← hww1]
  have hbx : w.heap.size + 1 ≤ w1.heap.size := by omega
  clear hww1 hszw1
  have hmx0 : a0.length ≤ maxLen := Nat.le_trans hc0 hm0
  refine (szValS_any _ _ _ _ (hr0.more hsz) hi0 hmx0 1048576 (by omega) (by omega)).mono ?_
  rintro e w2 ⟨l0, rfl, ⟨hl0b0, hl0c⟩, hb2⟩
  have hz2 := hb2.size
  replace hr0 := hr0.below hb2 hsz
  replace hk1_0 := cell_keep hb2 hk1_0
  replace hk1_1 := cell_keep hb2 hk1_1
  replace hk1_2 := cell_keep hb2 hk1_2
  replace hbl := Below.stepU hbl hsz hb2
  replace hsz := Nat.le_trans hsz hz2
  clear hb2
  clear hmx0
  by_cases hneg0 : l0 < 0
  · go_wp2_with fail
    go_ret
    exact ⟨rfl, hbl⟩
  replace hl0c := hl0c (by omega)
  have hl0a : 0 ≤ l0 := by omega
  have hl0b : l0 ≤ 1048576 := by omega
  have hlen0 : a0.length ≤ 1048576 := by omega
  have hlet0 : letters a0 ≤ 1048576 := by omega
  clear hl0c hl0b0 hneg0
  go_wp2_with fail
  refine (szVal_any _ a1 h1 l0 (by omega) (by omega)).mono ?_
  rintro e w3 ⟨rfl, hb3⟩
  have hz3 := hb3.size
  replace hr0 := hr0.below hb3 hsz
  replace hk1_0 := cell_keep hb3 hk1_0
  replace hk1_1 := cell_keep hb3 hk1_1
  replace hk1_2 := cell_keep hb3 hk1_2
  replace hbl := Below.stepU hbl hsz hb3
  replace hsz := Nat.le_trans hsz hz3
  clear hb3
  by_cases hneg1 : l0 - (a1.s.size : Int) < 0
  · rw [if_pos hneg1]
    go_wp2_with fail
    go_ret
    exact ⟨rfl, hbl⟩
  rw [if_neg hneg1]
  obtain ⟨l1, hl1⟩ : ∃ l : Int, l = l0 - (a1.s.size : Int) := ⟨_, rfl⟩
  have hl1a : 0 ≤ l1 := by omega
  have hl1b : l1 ≤ 1048576 := by omega
  have hsl1 : a1.s.size ≤ 1048576 := by omega
  rw [← hl1]
  clear hl1 hneg1
  go_wp2_with fail
  go_region_held3 (fun w' => w'.cell? ⟨w.heap.size, 0, none⟩ = some (.int .i64 a1.ty) ∧ w'.cell? ⟨w.heap.size, 1, none⟩ = some (.int .i64 a1.n) ∧ w'.cell? ⟨w.heap.size, 2, none⟩ = some (.string a1.s) ∧ Below w3.heap.size w3 w')
    (first
      | (exact ⟨hk1_0, hk1_1, hk1_2, (Below.refl _ _).drew⟩)
      | (go_split_ands; exact ⟨cell_keep hbm6 (by assumption), cell_keep hbm6 (by assumption), cell_keep hbm6 (by assumption), Below.trans (by assumption) (hbm6.mono (Below.size (by assumption)))⟩)
      | (go_split_ands; exact ⟨cell_keep hbm5 (by assumption), cell_keep hbm5 (by assumption), cell_keep hbm5 (by assumption), Below.trans (by assumption) (hbm5.mono (Below.size (by assumption)))⟩)
      | (go_split_ands; exact ⟨cell_keep hbm4 (by assumption), cell_keep hbm4 (by assumption), cell_keep hbm4 (by assumption), Below.trans (by assumption) (hbm4.mono (Below.size (by assumption)))⟩))
    (first
      | (go_at_call 18; refine (toValS_any _ _ _ _ ((hr0.below (show _ ∧ _ ∧ _ ∧ Below w3.heap.size w3 _ by assumption).2.2.2 hsz).more (Nat.le_trans hsz (Below.size (show _ ∧ _ ∧ _ ∧ Below w3.heap.size w3 _ by assumption).2.2.2))) (by omega)).mono ?_; rintro e wm4 ⟨gm4, rfl, hom4, hbm4⟩)
      | (go_at_call 19; refine (toVal_any _ a1).mono ?_; rintro e wm5 ⟨rfl, hbm5⟩)
      | (go_at_call 17; refine (spec_InDict _ _ _ _ (own_reads (own_step hom4 hbm5)) (by omega) hi0 a1 h1).mono ?_; rintro e w6 ⟨rfl, hbm6⟩))
  have hb6 : Below w3.heap.size w3 w6 := (show _ ∧ _ ∧ _ ∧ Below w3.heap.size w3 w6 by assumption).2.2.2
  clear hbm4 hbm5 hbm6 hom4
  have hz6 := hb6.size
  replace hr0 := hr0.below hb6 hsz
  replace hk1_0 := cell_keep hb6 hk1_0
  replace hk1_1 := cell_keep hb6 hk1_1
  replace hk1_2 := cell_keep hb6 hk1_2
  replace hbl := Below.stepU hbl hsz hb6
  replace hsz := Nat.le_trans hsz hz6
  clear hb6
  go_wp2_with fail
  refine (toValS_any _ _ _ _ (hr0.more hsz) (by omega)).mono ?_
  rintro e w7 ⟨g7, rfl, ho7, hb7⟩
  replace ho7 := Owned.mk' ho7
  have hz7 := hb7.size
  replace hr0 := hr0.below hb7 hsz
  replace hk1_0 := cell_keep hb7 hk1_0
  replace hk1_1 := cell_keep hb7 hk1_1
  replace hk1_2 := cell_keep hb7 hk1_2
  replace hbl := Below.stepU hbl hsz hb7
  replace hsz := Nat.le_trans hsz hz7
  clear hb7
  go_wp2_with fail
  refine (toVal_any _ a1).mono ?_
  rintro e w8 ⟨rfl, hb8⟩
  have hz8 := hb8.size
  replace hr0 := hr0.below hb8 hsz
  replace hk1_0 := cell_keep hb8 hk1_0
  replace hk1_1 := cell_keep hb8 hk1_1
  replace hk1_2 := cell_keep hb8 hk1_2
  replace ho7 := ho7.step hb8
  replace hbl := Below.stepU hbl hsz hb8
  replace hsz := Nat.le_trans hsz hz8
  clear hb8
  go_wp2_with fail
  refine (impl_InDict _ _ _ _ (ho7.reads.more (by omega)) (by omega) hi0 a1 h1).mono ?_
  rintro e w9 ⟨rfl, hb9⟩
  have hz9 := hb9.size
  replace hr0 := hr0.below hb9 hsz
  replace hk1_0 := cell_keep hb9 hk1_0
  replace hk1_1 := cell_keep hb9 hk1_1
  replace hk1_2 := cell_keep hb9 hk1_2
  replace ho7 := ho7.step hb9
  replace hbl := Below.stepU hbl hsz hb9
  replace hsz := Nat.le_trans hsz hz9
  clear hb9
  go_wp2_with fail
  refine (toValS_any _ _ _ _ (hr0.more hsz) (by omega)).mono ?_
  rintro e w10 ⟨g10, rfl, ho10, hb10⟩
  replace ho10 := Owned.mk' ho10
  have hz10 := hb10.size
  replace hr0 := hr0.below hb10 hsz
  replace hk1_0 := cell_keep hb10 hk1_0
  replace hk1_1 := cell_keep hb10 hk1_1
  replace hk1_2 := cell_keep hb10 hk1_2
  replace ho7 := ho7.step hb10
  replace hbl := Below.stepU hbl hsz hb10
  replace hsz := Nat.le_trans hsz hz10
  clear hb10
  go_wp2_with fail
  refine (eqValS_same _ _ _ _ _ _ (ho7.reads.more (by omega)) (ho10.reads.more (by omega)) (by omega)).mono ?_
  rintro e w11 ⟨rfl, hb11⟩
  have hz11 := hb11.size
  replace hr0 := hr0.below hb11 hsz
  replace hk1_0 := cell_keep hb11 hk1_0
  replace hk1_1 := cell_keep hb11 hk1_1
  replace hk1_2 := cell_keep hb11 hk1_2
  replace ho7 := ho7.step hb11
  replace ho10 := ho10.step hb11
  replace hbl := Below.stepU hbl hsz hb11
  replace hsz := Nat.le_trans hsz hz11
  clear hb11
  go_wp2_with fail
  clear ho10
  go_ret
  exact ⟨rfl, hbl⟩

end Go.Proofs.Ytkgkommlfceneaa.fnExactInDict
