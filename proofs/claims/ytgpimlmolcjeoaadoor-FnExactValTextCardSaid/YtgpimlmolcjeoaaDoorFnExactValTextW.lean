/-
  The walk of the law FnExactValText: the Go function returns true, and leaves what it was handed as it was.
-/
import Derived.Test.YtgpimlmolcjeoaaDoorVtext
import Derived.Test.YtgpimlmolcjeoaaDoorVals
namespace Go.Proofs.YtgpimlmolcjeoaaDoor.fnExactValText
open Go.RowKit
set_option linter.unusedVariables false

set_option maxRecDepth 100000 in
set_option maxHeartbeats 4000000 in
theorem walk (w : World) (a0 : V) (h0 : a0.ok) (hL : laidMet Tryd.prog Rows.fnExactValTextRow.laid w) :
    Calls Tryd.prog 4 #[.agg #[.int .i64 a0.ty, .int .i64 a0.n, .string a0.s]] w fun e w' => e = .returned (.bool true) ∧ Below w.heap.size w w' := by
  have hT : Tab w := tab_of hL
  clear hL
  have hsz : w.heap.size ≤ w.heap.size := Nat.le_refl _
  have hbl := Below.refl w.heap.size w
  go_enter Tryd.func4, Tryd.ntmps4
  go_wp2_with fail
  obtain ⟨w1, hww1⟩ : ∃ w1, w1 = w.alloc (.cells #[.int .i64 a0.ty, .int .i64 a0.n, .string a0.s] 25) := ⟨_, rfl⟩
  have hszw1 : w1.heap.size = w.heap.size + 1 := by rw [hww1]; simp
  replace hbl : Below w.heap.size w w1 := by rw [hww1]; exact Below.alloc0 (Below.refl _ _) _
  have hk0_0 : w1.cell? ⟨w.heap.size, 0, none⟩ = some (.int .i64 a0.ty) := by rw [hww1]; simp [go_sem]
  have hk0_1 : w1.cell? ⟨w.heap.size, 1, none⟩ = some (.int .i64 a0.n) := by rw [hww1]; simp [go_sem]
  have hk0_2 : w1.cell? ⟨w.heap.size, 2, none⟩ = some (.string a0.s) := by rw [hww1]; simp [go_sem]
  replace hsz : w.heap.size ≤ w1.heap.size := hbl.size
  rw [← hww1]
  have HSZ := Lib.hid hszw1
  clear hww1 hszw1
  refine (szVal_any _ a0 h0 1048576 (by omega) (by omega)).mono ?_
  rintro e w2 ⟨rfl, hb2⟩
  have hz2 := hb2.size
  replace hk0_0 := cell_keep hb2 hk0_0
  replace hk0_1 := cell_keep hb2 hk0_1
  replace hk0_2 := cell_keep hb2 hk0_2
  replace hbl := Below.stepU hbl hsz hb2
  replace hsz := Nat.le_trans hsz hz2
  clear hb2
  by_cases hneg0 : 1048576 - (a0.s.size : Int) < 0
  · rw [if_pos hneg0]
    go_wp2_with fail
    go_ret
    exact ⟨rfl, hbl⟩
  rw [if_neg hneg0]
  obtain ⟨l0, hl0⟩ : ∃ l : Int, l = 1048576 - (a0.s.size : Int) := ⟨_, rfl⟩
  have hl0a : 0 ≤ l0 := by omega
  have hl0b : l0 ≤ 1048576 := by omega
  have hsl0 : a0.s.size ≤ 1048576 := by omega
  rw [← hl0]
  clear hl0 hneg0
  go_wp2_with fail
  refine (toVal_any _ a0).mono ?_
  rintro e w3 ⟨rfl, hb3⟩
  have hz3 := hb3.size
  replace hk0_0 := cell_keep hb3 hk0_0
  replace hk0_1 := cell_keep hb3 hk0_1
  replace hk0_2 := cell_keep hb3 hk0_2
  replace hbl := Below.stepU hbl hsz hb3
  replace hsz := Nat.le_trans hsz hz3
  clear hb3
  go_wp2_with fail
  refine (spec_ValText _ a0 h0).mono ?_
  rintro e w4 ⟨rfl, hb4⟩
  have hz4 := hb4.size
  replace hk0_0 := cell_keep hb4 hk0_0
  replace hk0_1 := cell_keep hb4 hk0_1
  replace hk0_2 := cell_keep hb4 hk0_2
  replace hbl := Below.stepU hbl hsz hb4
  replace hsz := Nat.le_trans hsz hz4
  clear hb4
  go_wp2_with fail
  refine (toVal_any _ a0).mono ?_
  rintro e w5 ⟨rfl, hb5⟩
  have hz5 := hb5.size
  replace hk0_0 := cell_keep hb5 hk0_0
  replace hk0_1 := cell_keep hb5 hk0_1
  replace hk0_2 := cell_keep hb5 hk0_2
  replace hbl := Below.stepU hbl hsz hb5
  replace hsz := Nat.le_trans hsz hz5
  clear hb5
  go_wp2_with fail
  refine (impl_ValText _ a0 h0 (hT.below hbl)).mono ?_
  rintro e w6 ⟨rfl, hb6⟩
  have hz6 := hb6.size
  replace hk0_0 := cell_keep hb6 hk0_0
  replace hk0_1 := cell_keep hb6 hk0_1
  replace hk0_2 := cell_keep hb6 hk0_2
  replace hbl := Below.stepU hbl hsz hb6
  replace hsz := Nat.le_trans hsz hz6
  clear hb6
  go_wp2_with fail
  go_ret
  exact ⟨rfl, hbl⟩

end Go.Proofs.YtgpimlmolcjeoaaDoor.fnExactValText
