/-
  The walk of the law FnExactGetVal: the Go function returns true, and leaves what it was handed as it was.
-/
import Derived.Test.YtckfogpjljbelaaGetvx
namespace Go.Proofs.Ytckfogpjljbelaa.fnExactGetVal
open Go.RowKit
set_option linter.unusedVariables false

set_option maxRecDepth 100000 in
set_option maxHeartbeats 4000000 in
theorem walk (w : World) (A0 : Option Addr) (c0 : Nat) (a0 : List UInt8) (hc0 : a0.length ≤ c0) (hm0 : c0 ≤ maxLen) (hr0 : Reads w w.heap.size 1 A0 a0.length (byteCells a0)) (a1 : Int) (ha1 : I64 a1) (a2 : Int) (ha2 : I64 a2) :
    Calls Try.prog 8 #[.slice A0 a0.length c0, .int .i64 a1, .int .i64 a2] w fun e w' => e = .returned (.bool true) ∧ Below w.heap.size w w' := by
  by_cases hg0 : 1048576 < a0.length
  · have hgm := hm0
    unfold maxLen at hgm
    go_enter Try.func8, Try.ntmps8
    go_wp2
    go_ret
    exact ⟨rfl, Below.refl _ _⟩
  have hsz : w.heap.size ≤ w.heap.size := Nat.le_refl _
  have hbl := Below.refl w.heap.size w
  go_enter Try.func8, Try.ntmps8
  go_wp2_with fail
  obtain ⟨V0, hV0⟩ : ∃ V0, V0 = gvV a0 a1 a2 := ⟨_, rfl⟩
  have hgT := Lib.hid (show gvT a0 a1 a2 = .tuple #[.agg #[.int .i64 V0.ty, .int .i64 V0.n, .string V0.s], .int .i64 (gvP a0 a1 a2), .bool (gvOk a0 a1 a2)] by rw [hV0]; rfl)
  clear hV0
  refine (toByteS_any _ _ _ _ (hr0.more hsz) (by omega)).mono ?_
  rintro e w1 ⟨g1, rfl, ho1, hb1⟩
  replace ho1 := Owned.mk' ho1
  have hz1 := hb1.size
  replace hr0 := hr0.below hb1 hsz
  replace hbl := Below.stepU hbl hsz hb1
  replace hsz := Nat.le_trans hsz hz1
  clear hb1
  go_wp2_with fail
  refine (spec_GetVal _ _ _ _ (ho1.reads.more (by omega)) (by omega) (own_cap ho1.1) _ ha1 _ ha2).mono ?_
  rintro e w2 ⟨rfl, hb2⟩
  have hz2 := hb2.size
  replace hr0 := hr0.below hb2 hsz
  replace ho1 := ho1.step hb2
  replace hbl := Below.stepU hbl hsz hb2
  replace hsz := Nat.le_trans hsz hz2
  clear hb2
  rw [hgT.out]
  go_wp2_with fail
  obtain ⟨w3, hww3⟩ : ∃ W, W = w2.alloc (.cells #[.int .i64 V0.ty, .int .i64 V0.n, .string V0.s] 28) := ⟨_, rfl⟩
  have hx3_0 : w3.cell? ⟨w2.heap.size, 0, none⟩ = some (.int .i64 V0.ty) := by rw [hww3]; simp [go_sem]
  have hx3_1 : w3.cell? ⟨w2.heap.size, 1, none⟩ = some (.int .i64 V0.n) := by rw [hww3]; simp [go_sem]
  have hx3_2 : w3.cell? ⟨w2.heap.size, 2, none⟩ = some (.string V0.s) := by rw [hww3]; simp [go_sem]
  have hb3 : Below w2.heap.size w2 w3 := by rw [hww3]; exact (Below.refl _ _).alloc (Nat.le_refl _) _
  rw [← hww3]
  clear hww3
  have hz3 := hb3.size
  replace hr0 := hr0.below hb3 hsz
  replace ho1 := ho1.step hb3
  replace hbl := Below.stepU hbl hsz hb3
  replace hsz := Nat.le_trans hsz hz3
  clear hb3
  clear ho1
  refine (toByteS_any _ _ _ _ (hr0.more hsz) (by omega)).mono ?_
  rintro e w4 ⟨g4, rfl, ho4, hb4⟩
  replace ho4 := Owned.mk' ho4
  have hz4 := hb4.size
  replace hr0 := hr0.below hb4 hsz
  replace hx3_0 := cell_keep hb4 hx3_0
  replace hx3_1 := cell_keep hb4 hx3_1
  replace hx3_2 := cell_keep hb4 hx3_2
  replace hbl := Below.stepU hbl hsz hb4
  replace hsz := Nat.le_trans hsz hz4
  clear hb4
  go_wp2_with fail
  refine (impl_GetVal _ _ _ _ (ho4.reads.more (by omega)) (by omega) (own_cap ho4.1) _ ha1 _ ha2).mono ?_
  rintro e w5 ⟨rfl, hb5⟩
  have hz5 := hb5.size
  replace hr0 := hr0.below hb5 hsz
  replace hx3_0 := cell_keep hb5 hx3_0
  replace hx3_1 := cell_keep hb5 hx3_1
  replace hx3_2 := cell_keep hb5 hx3_2
  replace ho4 := ho4.step hb5
  replace hbl := Below.stepU hbl hsz hb5
  replace hsz := Nat.le_trans hsz hz5
  clear hb5
  have hyhx3_0 : (w5.alloc (.cells #[.int .i64 V0.ty, .int .i64 V0.n, .string V0.s] 28)).cell? ⟨w2.heap.size, 0, none⟩ = some (.int .i64 V0.ty) := (World.cell?_alloc_lt _ _ _ (World.block_lt_of_cell? _ _ hx3_0)).trans hx3_0
  have hyhx3_1 : (w5.alloc (.cells #[.int .i64 V0.ty, .int .i64 V0.n, .string V0.s] 28)).cell? ⟨w2.heap.size, 1, none⟩ = some (.int .i64 V0.n) := (World.cell?_alloc_lt _ _ _ (World.block_lt_of_cell? _ _ hx3_1)).trans hx3_1
  have hyhx3_2 : (w5.alloc (.cells #[.int .i64 V0.ty, .int .i64 V0.n, .string V0.s] 28)).cell? ⟨w2.heap.size, 2, none⟩ = some (.string V0.s) := (World.cell?_alloc_lt _ _ _ (World.block_lt_of_cell? _ _ hx3_2)).trans hx3_2
  rw [hgT.out]
  go_wp2_with fail
  clear hyhx3_0 hyhx3_1 hyhx3_2
  obtain ⟨w6, hww6⟩ : ∃ W, W = w5.alloc (.cells #[.int .i64 V0.ty, .int .i64 V0.n, .string V0.s] 28) := ⟨_, rfl⟩
  have hx6_0 : w6.cell? ⟨w5.heap.size, 0, none⟩ = some (.int .i64 V0.ty) := by rw [hww6]; simp [go_sem]
  have hx6_1 : w6.cell? ⟨w5.heap.size, 1, none⟩ = some (.int .i64 V0.n) := by rw [hww6]; simp [go_sem]
  have hx6_2 : w6.cell? ⟨w5.heap.size, 2, none⟩ = some (.string V0.s) := by rw [hww6]; simp [go_sem]
  have hb6 : Below w5.heap.size w5 w6 := by rw [hww6]; exact (Below.refl _ _).alloc (Nat.le_refl _) _
  rw [← hww6]
  clear hww6
  have hz6 := hb6.size
  replace hr0 := hr0.below hb6 hsz
  replace hx3_0 := cell_keep hb6 hx3_0
  replace hx3_1 := cell_keep hb6 hx3_1
  replace hx3_2 := cell_keep hb6 hx3_2
  replace ho4 := ho4.step hb6
  replace hbl := Below.stepU hbl hsz hb6
  replace hsz := Nat.le_trans hsz hz6
  clear hb6
  refine (eqVal_same _ V0).mono ?_
  rintro e w7 ⟨rfl, hb7⟩
  have hz7 := hb7.size
  replace hr0 := hr0.below hb7 hsz
  replace hx3_0 := cell_keep hb7 hx3_0
  replace hx3_1 := cell_keep hb7 hx3_1
  replace hx3_2 := cell_keep hb7 hx3_2
  replace ho4 := ho4.step hb7
  replace hx6_0 := cell_keep hb7 hx6_0
  replace hx6_1 := cell_keep hb7 hx6_1
  replace hx6_2 := cell_keep hb7 hx6_2
  replace hbl := Below.stepU hbl hsz hb7
  replace hsz := Nat.le_trans hsz hz7
  clear hb7
  go_wp2_with fail
  refine (toByteS_any _ _ _ _ (hr0.more hsz) (by omega)).mono ?_
  rintro e w8 ⟨g8, rfl, ho8, hb8⟩
  replace ho8 := Owned.mk' ho8
  have hz8 := hb8.size
  replace hr0 := hr0.below hb8 hsz
  replace hx3_0 := cell_keep hb8 hx3_0
  replace hx3_1 := cell_keep hb8 hx3_1
  replace hx3_2 := cell_keep hb8 hx3_2
  replace ho4 := ho4.step hb8
  replace hx6_0 := cell_keep hb8 hx6_0
  replace hx6_1 := cell_keep hb8 hx6_1
  replace hx6_2 := cell_keep hb8 hx6_2
  replace hbl := Below.stepU hbl hsz hb8
  replace hsz := Nat.le_trans hsz hz8
  clear hb8
  go_wp2_with fail
  refine (eqByteS_same _ _ _ _ _ _ (ho4.reads.more (by omega)) (ho8.reads.more (by omega)) (by omega)).mono ?_
  rintro e w9 ⟨rfl, hb9⟩
  have hz9 := hb9.size
  replace hr0 := hr0.below hb9 hsz
  replace hx3_0 := cell_keep hb9 hx3_0
  replace hx3_1 := cell_keep hb9 hx3_1
  replace hx3_2 := cell_keep hb9 hx3_2
  replace ho4 := ho4.step hb9
  replace hx6_0 := cell_keep hb9 hx6_0
  replace hx6_1 := cell_keep hb9 hx6_1
  replace hx6_2 := cell_keep hb9 hx6_2
  replace ho8 := ho8.step hb9
  replace hbl := Below.stepU hbl hsz hb9
  replace hsz := Nat.le_trans hsz hz9
  clear hb9
  go_wp2_with fail
  clear ho8
  go_ret
  exact ⟨rfl, hbl⟩

end Go.Proofs.Ytckfogpjljbelaa.fnExactGetVal
