/-
  The walk of the law FnExactLessVal: the Go function returns true, and leaves what it was handed as it was.
-/
import Derived.Test.YtnpeaobldhblaaaVal
import Derived.Deep.RegionHeld3
namespace Go.Proofs.Ytnpeaobldhblaaa.fnExactLessVal
open Go.RowKit
set_option linter.unusedVariables false

set_option maxRecDepth 100000 in
set_option maxHeartbeats 4000000 in
theorem walk (w : World) (a0 : V) (h0 : a0.ok) (a1 : V) (h1 : a1.ok) :
    Calls Try.prog 10 #[.agg #[.int .i64 a0.ty, .int .i64 a0.n, .string a0.s], .agg #[.int .i64 a1.ty, .int .i64 a1.n, .string a1.s]] w fun e w' => e = .returned (.bool true) ∧ Below w.heap.size w w' := by
  have hsz : w.heap.size ≤ w.heap.size := Nat.le_refl _
  have hbl := Below.refl w.heap.size w
  go_enter Try.func10, Try.ntmps10
  go_wp2_with fail
  obtain ⟨w1, hww1⟩ : ∃ w1, w1 = (w.alloc (.cells #[.int .i64 a0.ty, .int .i64 a0.n, .string a0.s] 33)).alloc (.cells #[.int .i64 a1.ty, .int .i64 a1.n, .string a1.s] 33) := ⟨_, rfl⟩
  have hszw1 : w1.heap.size = w.heap.size + 2 := by rw [hww1]; simp
  replace hbl : Below w.heap.size w w1 := by rw [hww1]; exact Below.alloc0 (Below.alloc0 (Below.refl _ _) _) _
  have hk0_0 : w1.cell? ⟨w.heap.size, 0, none⟩ = some (.int .i64 a0.ty) := by rw [hww1]; simp [go_sem]
  have hk0_1 : w1.cell? ⟨w.heap.size, 1, none⟩ = some (.int .i64 a0.n) := by rw [hww1]; simp [go_sem]
  have hk0_2 : w1.cell? ⟨w.heap.size, 2, none⟩ = some (.string a0.s) := by rw [hww1]; simp [go_sem]
  have hk1_0 : w1.cell? ⟨w.heap.size + 1, 0, none⟩ = some (.int .i64 a1.ty) := by rw [hww1]; simp [go_sem]
  have hk1_1 : w1.cell? ⟨w.heap.size + 1, 1, none⟩ = some (.int .i64 a1.n) := by rw [hww1]; simp [go_sem]
  have hk1_2 : w1.cell? ⟨w.heap.size + 1, 2, none⟩ = some (.string a1.s) := by rw [hww1]; simp [go_sem]
  replace hsz : w.heap.size ≤ w1.heap.size := hbl.size
  rw [← hww1]
  have HSZ := Lib.hid hszw1
  clear hww1 hszw1
  refine (szVal_any _ a0 h0 1048576 (by omega) (by omega)).mono ?_
  rintro e w2 ⟨rfl, hb2⟩
  have hz2 := hb2.size
  replace hk0_0 := cell_keep hb2 hk0_0
  replace hk0_1 := cell_keep hb2 hk0_1
  replace hk0_2 := cell_keep hb2 hk0_2
  replace hk1_0 := cell_keep hb2 hk1_0
  replace hk1_1 := cell_keep hb2 hk1_1
  replace hk1_2 := cell_keep hb2 hk1_2
  replace hbl := Below.stepU hbl hsz hb2
  replace hsz := Nat.le_trans hsz hz2
  clear hb2
  by_cases hneg0 : 1048576 - (a0.s.size : Int) < 0
  · rw [if_pos hneg0]
    go_wp2_with fail
    go_ret
    exact ⟨rfl, hbl⟩
  rw [if_neg hneg0]
  obtain ⟨l0, hl0⟩ : ∃ l : Int, l = 1048576 - (a0.s.size : Int) := ⟨_, rfl⟩
  have hl0a : 0 ≤ l0 := by omega
  have hl0b : l0 ≤ 1048576 := by omega
  have hsl0 : a0.s.size ≤ 1048576 := by omega
  rw [← hl0]
  clear hl0 hneg0
  go_wp2_with fail
  refine (szVal_any _ a1 h1 l0 (by omega) (by omega)).mono ?_
  rintro e w3 ⟨rfl, hb3⟩
  have hz3 := hb3.size
  replace hk0_0 := cell_keep hb3 hk0_0
  replace hk0_1 := cell_keep hb3 hk0_1
  replace hk0_2 := cell_keep hb3 hk0_2
  replace hk1_0 := cell_keep hb3 hk1_0
  replace hk1_1 := cell_keep hb3 hk1_1
  replace hk1_2 := cell_keep hb3 hk1_2
  replace hbl := Below.stepU hbl hsz hb3
  replace hsz := Nat.le_trans hsz hz3
  clear hb3
  by_cases hneg1 : l0 - (a1.s.size : Int) < 0
  · rw [if_pos hneg1]
    go_wp2_with fail
    go_ret
    exact ⟨rfl, hbl⟩
  rw [if_neg hneg1]
  obtain ⟨l1, hl1⟩ : ∃ l : Int, l = l0 - (a1.s.size : Int) := ⟨_, rfl⟩
  have hl1a : 0 ≤ l1 := by omega
  have hl1b : l1 ≤ 1048576 := by omega
  have hsl1 : a1.s.size ≤ 1048576 := by omega
  rw [← hl1]
  clear hl1 hneg1
  go_wp2_with fail
  go_region_held3 (fun w' => w'.cell? ⟨w.heap.size, 0, none⟩ = some (.int .i64 a0.ty) ∧ w'.cell? ⟨w.heap.size, 1, none⟩ = some (.int .i64 a0.n) ∧ w'.cell? ⟨w.heap.size, 2, none⟩ = some (.string a0.s) ∧ w'.cell? ⟨w.heap.size + 1, 0, none⟩ = some (.int .i64 a1.ty) ∧ w'.cell? ⟨w.heap.size + 1, 1, none⟩ = some (.int .i64 a1.n) ∧ w'.cell? ⟨w.heap.size + 1, 2, none⟩ = some (.string a1.s) ∧ Below w.heap.size w w')
    (first
      | (exact ⟨hk0_0, hk0_1, hk0_2, hk1_0, hk1_1, hk1_2, hbl.drew⟩)
      | go_keep
      | (go_split_ands
         refine ⟨cell_keep hb9 (by assumption), cell_keep hb9 (by assumption), cell_keep hb9 (by assumption), cell_keep hb9 (by assumption), cell_keep hb9 (by assumption), cell_keep hb9 (by assumption), Below.trans (by assumption) (hb9.mono (Below.size (by assumption)))⟩))
    (first
      | (go_at_call 31; refine (toVal_agg _ _ _ _).mono ?_; rintro e w9 ⟨rfl, hb9⟩)
      | (go_at_call 30; refine (spec_LessVal _ a0 a1).mono ?_; rintro e w9 ⟨rfl, hb9⟩))
  all_goals (obtain ⟨hk0_0, hk0_1, hk0_2, hk1_0, hk1_1, hk1_2, hbl⟩ : (fun w' => w'.cell? ⟨w.heap.size, 0, none⟩ = some (.int .i64 a0.ty) ∧ w'.cell? ⟨w.heap.size, 1, none⟩ = some (.int .i64 a0.n) ∧ w'.cell? ⟨w.heap.size, 2, none⟩ = some (.string a0.s) ∧ w'.cell? ⟨w.heap.size + 1, 0, none⟩ = some (.int .i64 a1.ty) ∧ w'.cell? ⟨w.heap.size + 1, 1, none⟩ = some (.int .i64 a1.n) ∧ w'.cell? ⟨w.heap.size + 1, 2, none⟩ = some (.string a1.s) ∧ Below w.heap.size w w') w9 := by assumption)
  all_goals go_wp2_with fail
  go_region_held3 (fun w' => w'.cell? ⟨w.heap.size, 0, none⟩ = some (.int .i64 a0.ty) ∧ w'.cell? ⟨w.heap.size, 1, none⟩ = some (.int .i64 a0.n) ∧ w'.cell? ⟨w.heap.size, 2, none⟩ = some (.string a0.s) ∧ w'.cell? ⟨w.heap.size + 1, 0, none⟩ = some (.int .i64 a1.ty) ∧ w'.cell? ⟨w.heap.size + 1, 1, none⟩ = some (.int .i64 a1.n) ∧ w'.cell? ⟨w.heap.size + 1, 2, none⟩ = some (.string a1.s) ∧ Below w.heap.size w w')
    (first
      | (exact ⟨hk0_0, hk0_1, hk0_2, hk1_0, hk1_1, hk1_2, hbl.drew⟩)
      | go_keep
      | (go_split_ands
         refine ⟨cell_keep hb9 (by assumption), cell_keep hb9 (by assumption), cell_keep hb9 (by assumption), cell_keep hb9 (by assumption), cell_keep hb9 (by assumption), cell_keep hb9 (by assumption), Below.trans (by assumption) (hb9.mono (Below.size (by assumption)))⟩))
    (first
      | (go_at_call 31; refine (toVal_agg _ _ _ _).mono ?_; rintro e w9 ⟨rfl, hb9⟩)
      | (go_at_call 32; refine (impl_LessVal _ a0 a1).mono ?_; rintro e w9 ⟨rfl, hb9⟩))
  all_goals (obtain ⟨hk0_0, hk0_1, hk0_2, hk1_0, hk1_1, hk1_2, hbl⟩ : (fun w' => w'.cell? ⟨w.heap.size, 0, none⟩ = some (.int .i64 a0.ty) ∧ w'.cell? ⟨w.heap.size, 1, none⟩ = some (.int .i64 a0.n) ∧ w'.cell? ⟨w.heap.size, 2, none⟩ = some (.string a0.s) ∧ w'.cell? ⟨w.heap.size + 1, 0, none⟩ = some (.int .i64 a1.ty) ∧ w'.cell? ⟨w.heap.size + 1, 1, none⟩ = some (.int .i64 a1.n) ∧ w'.cell? ⟨w.heap.size + 1, 2, none⟩ = some (.string a1.s) ∧ Below w.heap.size w w') w9 := by assumption)
  all_goals go_wp2_with fail
  go_ret
  exact ⟨rfl, hbl⟩

end Go.Proofs.Ytnpeaobldhblaaa.fnExactLessVal
