/-
  What the reference draws for the law on rows: DrawRowOk, DrawFitsCols, DrawColsOk, DrawColumn, DrawParseVals, DrawSameRows.
-/
import Derived.Test.YtgpimlmolcjeoaaGreatDoorRall
import Derived.Test.YtgpimlmolcjeoaaGreatDoorNdraw
import Derived.Test.YtgpimlmolcjeoaaGreatDoorVtext
namespace Go.Proofs.YtgpimlmolcjeoaaGreatDoor
open Go.RowKit
set_option linter.unusedVariables false
set_option maxRecDepth 100000

set_option maxHeartbeats 1600000 in
theorem DrawFitsCols_any (w : World) (A : Option Addr) (c : Nat) (cs : List UInt8) (hr : Reads w w.heap.size 1 A cs.length (byteCells cs)) (hl : cs.length ≤ 1099511627776) :
    Calls Tryz.prog 6 #[.slice A cs.length c] w fun e w' => ∃ (A1 A2 : Option Addr) (c1 c2 : Nat) (xs : List Int) (vs : List V), e = .returned (.tuple #[.slice A1 xs.length c1, .slice A2 vs.length c2]) ∧ xs.length ≤ 3 ∧ (∀ x ∈ xs, I64 x) ∧ vs.length ≤ 4 ∧ (∀ v ∈ vs, v.ok) ∧
      w'.ownsRow w.heap.size 3 1 (.slice A1 xs.length c1) xs.length (intCells xs) ∧ w'.ownsRow w.heap.size 49 3 (.slice A2 vs.length c2) vs.length (valCells vs) ∧ Below w.heap.size w w' := by
  go_enter Tryz.func6, Tryz.ntmps6
  go_wp2_with fail
  refine (l1New_any _ _ _ _ hr hl).mono ?_
  rintro e w1 ⟨p, rfl, hp, hc1, hb1⟩
  have hp3 := hc1.lt
  clear hr
  go_wp2_with fail
  refine (l4Cols_any _ p hc1).mono ?_
  rintro e w2 ⟨A2, c2, xs, rfl, hx1, hx3, hxi, hown2, hc2, hg2⟩
  have hb2 := hb1.grown hg2 hb1.size (fun q hq => by have := Option.some.inj hq; omega)
  have hcols := Owned.mk' hown2
  have hs1 := hb1.size
  clear hown2
  clear hc1 hg2
  go_wp2_with fail
  refine (l4Any_any _ p hc2 w1.heap.size w2.heap.size xs.length c2 A2 xs hcols rfl hp3 (Nat.le_refl _) hx3).mono ?_
  rintro e w3 ⟨A3, c3, vs, rfl, hvl, hvo, hown3, hc3, hg3⟩
  have hb3 := hb2.grown hg3 hb2.size (fun q hq => by have := Option.some.inj hq; omega)
  have hox := own_lower (hcols.cur hg3 hp3).1 hs1
  replace hown3 := own_lower hown3 hb2.size
  clear hg3 hc2 hc3 hb1 hb2 hcols
  go_wp2
  go_ret2
  exact ⟨_, _, _, _, xs, vs, rfl, hx3, hxi, hvl, hvo, hox, hown3, hb3⟩
set_option maxHeartbeats 1600000 in
theorem DrawColumn_any (w : World) (A : Option Addr) (c : Nat) (cs : List UInt8) (hr : Reads w w.heap.size 1 A cs.length (byteCells cs)) (hl : cs.length ≤ 1099511627776) :
    Calls Tryz.prog 8 #[.slice A cs.length c] w fun e w' => ∃ (A1 : Option Addr) (c1 n : Nat) (rs : List RowV) (k : Int), e = .returned (.tuple #[.slice A1 rs.length c1, .int .i64 k]) ∧ rs.length ≤ 5 ∧ (∀ r ∈ rs, r.l.length = n) ∧ -1 ≤ k ∧ k ≤ 3 ∧ RowsHave w' w.heap.size rs ∧
      w'.ownsRow w.heap.size 27 2 (.slice A1 rs.length c1) rs.length (rs.flatMap RowV.enc) ∧ Below w.heap.size w w' := by
  go_enter Tryz.func8, Tryz.ntmps8
  go_wp2_with fail
  refine (l1New_any _ _ _ _ hr hl).mono ?_
  rintro e w1 ⟨p, rfl, hp, hc1, hb1⟩
  have hp3 := hc1.lt
  clear hr
  go_wp2_with fail
  refine (l4Cols_any _ p hc1).mono ?_
  rintro e w2 ⟨A2, c2, xs, rfl, hx1, hx3, hxi, hown2, hc2, hg2⟩
  have hb2 := hb1.grown hg2 hb1.size (fun q hq => by have := Option.some.inj hq; omega)
  have hcols := Owned.mk' hown2
  have hs1 := hb1.size
  clear hown2
  clear hc1 hg2
  go_wp2_with fail
  refine (l4Rows_any _ p hc2 w1.heap.size w2.heap.size xs.length c2 A2 xs hcols rfl hp3 (Nat.le_refl _) hx3 5 (by omega)).mono ?_
  rintro e w3 ⟨A3, c3, rs, rfl, hrl, hrn, hH, hown3, hc3, hg3⟩
  have hb3 := hb2.grown hg3 hb2.size (fun q hq => by have := Option.some.inj hq; omega)
  have hp4 : p < w2.heap.size := hc2.lt
  have HN := Lib.hid (And.intro hrn hH)
  clear hg3 hc2 hcols hrn hH
  go_wp2_with fail
  refine (l1Below_any _ p hc3 5 (by omega) (by omega)).mono ?_
  rintro e w4 ⟨k, rfl, hk, hc4, hg4⟩
  have hb4 := hb3.grown hg4 hb3.size (fun q hq => by have := Option.some.inj hq; omega)
  have HN4 := Lib.hid (And.intro HN.out.1 ((HN.out.2.cur hg4 hp4).lower hb2.size))
  have hown4 := own_lower (own_cur hown3 hg4 hp4) hb2.size
  clear hg4 hown3 hb1 hb2 hb3 hc3 hc4 HN
  go_wp2
  go_ret2
  exact ⟨_, _, xs.length, rs, _, rfl, hrl, HN4.out.1, by omega, by omega, HN4.out.2, hown4, hb4⟩
set_option maxHeartbeats 3200000 in
theorem DrawSameRows_any (w : World) (A : Option Addr) (c : Nat) (cs : List UInt8) (hr : Reads w w.heap.size 1 A cs.length (byteCells cs)) (hl : cs.length ≤ 1099511627776) :
    Calls Tryz.prog 13 #[.slice A cs.length c] w fun e w' => ∃ (A1 A2 : Option Addr) (c1 c2 : Nat) (rs qs : List RowV), e = .returned (.tuple #[.slice A1 rs.length c1, .slice A2 qs.length c2]) ∧ rs.length ≤ 3 ∧ qs.length ≤ 3 ∧ RowsHave w' w.heap.size rs ∧ RowsHave w' w.heap.size qs ∧
      w'.ownsRow w.heap.size 27 2 (.slice A1 rs.length c1) rs.length (rs.flatMap RowV.enc) ∧ w'.ownsRow w.heap.size 27 2 (.slice A2 qs.length c2) qs.length (qs.flatMap RowV.enc) ∧ Below w.heap.size w w' := by
  go_enter Tryz.func13, Tryz.ntmps13
  go_wp2_with fail
  refine (l1New_any _ _ _ _ hr hl).mono ?_
  rintro e w1 ⟨p, rfl, hp, hc1, hb1⟩
  have hp3 := hc1.lt
  clear hr
  go_wp2_with fail
  refine (l4Cols_any _ p hc1).mono ?_
  rintro e w2 ⟨A2, c2, xs, rfl, hx1, hx3, hxi, hown2, hc2, hg2⟩
  have hb2 := hb1.grown hg2 hb1.size (fun q hq => by have := Option.some.inj hq; omega)
  have hcols := Owned.mk' hown2
  have hs1 := hb1.size
  clear hown2
  clear hc1 hg2
  go_wp2_with fail
  refine (l4Rows_any _ p hc2 w1.heap.size w2.heap.size xs.length c2 A2 xs hcols rfl hp3 (Nat.le_refl _) hx3 3 (by omega)).mono ?_
  rintro e w3 ⟨A3, c3, rs, rfl, hrl, hrn, hH, hown3, hc3, hg3⟩
  have hb3 := hb2.grown hg3 hb2.size (fun q hq => by have := Option.some.inj hq; omega)
  have hp4 : p < w2.heap.size := hc2.lt
  have hs2 := hb2.size
  have hs3 := hg3.size
  have hcols3 := hcols.cur hg3 hp3
  have HP := Lib.hid (show ∀ r ∈ rs, 0 < r.l.length from fun r hr => by rw [hrn r hr]; omega)
  have HH := Lib.hid hH
  clear hg3 hc2 hcols hrn hH
  go_wp2_with fail
  refine (l1Once_any _ p hc3 2 (by omega) (by omega)).mono ?_
  rintro e w4 ⟨b, rfl, hc4, hg4⟩
  have hb4 := hb3.grown hg4 hb3.size (fun q hq => by have := Option.some.inj hq; omega)
  have HH4 := Lib.hid (HH.out.cur hg4 hp4)
  have hown4 := own_cur hown3 hg4 hp4
  have hcols4 := hcols3.cur hg4 hp3
  have hs4 := hg4.size
  clear hg4 hown3 hb1 hb2 hb3 hc3 HH hcols3
  cases b
  · go_wp2_with fail
    refine (l4Rows_any _ p hc4 w1.heap.size w2.heap.size xs.length c2 A2 xs hcols4 rfl hp3 (by omega) hx3 3 (by omega)).mono ?_
    rintro e w5 ⟨A5, c5, qs, rfl, hql, hqn, hQ, hown5, hc5, hg5⟩
    have hb5 := hb4.grown hg5 hb4.size (fun q hq => by have := Option.some.inj hq; omega)
    have hown6 := own_lower (own_cur hown4 hg5 hp4) hs2
    have HH5 := Lib.hid ((HH4.out.cur hg5 hp4).lower hs2)
    have HQ5 := Lib.hid (hQ.lower hb4.size)
    replace hown5 := own_lower hown5 hb4.size
    clear hg5 hown4 hc4 hc5 hb4 HH4 hQ hqn hcols4
    go_wp2
    go_ret2
    exact ⟨_, _, _, _, rs, qs, rfl, hrl, hql, HH5.out, HQ5.out, hown6, hown5, hb5⟩
  · have hr4 := own_reads hown4
    go_wp2_with fail
    refine (l4All_any _ _ _ _ rs rfl (by omega) hr4 _ HH4.out HP.out).mono ?_
    rintro e w5 ⟨A5, c5, qs, rfl, hql, hqk, hQ, hown5, hb5'⟩
    have hb5 := hb4.trans (hb5'.mono hb4.size)
    have hown6 := own_lower (own_step hown4 hb5') hs2
    have HH5 := Lib.hid ((HH4.out.step hb5').lower hs2)
    have HQ5 := Lib.hid (And.intro hql (hQ.lower hb4.size))
    replace hown5 := own_lower hown5 hb4.size
    clear hown4 hc4 hb4 HH4 hQ hqk hcols4 hql hb5' hr4
    go_wp2
    go_ret2
    obtain ⟨h1, h2⟩ := HQ5.out
    rw [← h1] at hown5
    exact ⟨_, _, _, _, rs, qs, by rw [h1]; rfl, hrl, by omega, HH5.out, h2, hown6, hown5, hb5⟩
set_option maxHeartbeats 1600000 in
theorem DrawRowOk_any (w : World) (A : Option Addr) (c : Nat) (cs : List UInt8) (hr : Reads w w.heap.size 1 A cs.length (byteCells cs)) (hl : cs.length ≤ 1099511627776) :
    Calls Tryz.prog 5 #[.slice A cs.length c] w fun e w' => ∃ (A1 A2 : Option Addr) (c1 c2 : Nat) (xs : List Int) (id : Int) (vs : List V), e = .returned (.tuple #[.slice A1 xs.length c1, .agg #[.int .i64 id, .slice A2 vs.length c2]]) ∧ xs.length ≤ 3 ∧ (∀ x ∈ xs, I64 x) ∧ -1 ≤ id ∧ id ≤ 3 ∧ vs.length ≤ 4 ∧ (∀ v ∈ vs, v.ok) ∧
      w'.ownsRow w.heap.size 3 1 (.slice A1 xs.length c1) xs.length (intCells xs) ∧ w'.ownsRow w.heap.size 49 3 (.slice A2 vs.length c2) vs.length (valCells vs) ∧ Below w.heap.size w w' := by
  obtain ⟨W, hW⟩ : ∃ W, W = w.alloc (.cells #[.int .i64 0, .slice none 0 0] 27) := ⟨_, rfl⟩
  have f0 : W.cell? ⟨w.heap.size, 0, none⟩ = some (.int .i64 0) := by rw [hW]; simp [go_sem]
  have f1 : W.cell? ⟨w.heap.size, 1, none⟩ = some (.slice none 0 0) := by rw [hW]; simp [go_sem]
  have hbW : Below w.heap.size w W := by rw [hW]; exact (Below.refl _ _).alloc (Nat.le_refl _) _
  have z0 : W.frozen? ⟨w.heap.size, 0, none⟩ = false := by rw [hW]; simp [go_sem]
  have z1 : W.frozen? ⟨w.heap.size, 1, none⟩ = false := by rw [hW]; simp [go_sem]
  have hrW := (hr.below hbW (Nat.le_refl _)).more hbW.size
  have hsW : W.heap.size = w.heap.size + 1 := by rw [hW]; simp
  go_enter Tryz.func5, Tryz.ntmps5
  go_wp2_with fail
  rw [← hW]
  clear hW hr
  refine (l1New_any W _ _ _ hrW hl).mono ?_
  rintro e w1 ⟨p, rfl, hp, hc1, hb1'⟩
  have hne : (some w.heap.size : Option Nat) ≠ some p := by intro h; have := Option.some.inj h; omega
  replace f0 := (hb1'.cell (p := ⟨w.heap.size, 0, none⟩) (by simp; omega)).trans f0
  replace f1 := (hb1'.cell (p := ⟨w.heap.size, 1, none⟩) (by simp; omega)).trans f1
  replace z0 := (hb1'.frozen (p := ⟨w.heap.size, 0, none⟩) (by simp; omega)).trans z0
  replace z1 := (hb1'.frozen (p := ⟨w.heap.size, 1, none⟩) (by simp; omega)).trans z1
  have hb1 := hbW.trans (hb1'.mono hbW.size)
  have hp3 := hc1.lt
  have hs1' := hb1'.size
  clear hbW hrW hb1'
  go_wp2_with fail
  refine (l4Cols_any _ p hc1).mono ?_
  rintro e w2 ⟨A2, c2, xs, rfl, hx1, hx3, hxi, hown2, hc2, hg2⟩
  have hb2 := hb1.grown hg2 hb1.size (fun q hq => by have := Option.some.inj hq; omega)
  have hcols := Owned.mk' hown2
  have hs1 := hb1.size
  clear hown2
  replace f0 := hg2.cell f0 hne
  replace f1 := hg2.cell f1 hne
  replace z0 := (hg2.frozen_far ⟨w.heap.size, 0, none⟩ (by simp; omega) hne).trans z0
  replace z1 := (hg2.frozen_far ⟨w.heap.size, 1, none⟩ (by simp; omega) hne).trans z1
  have hs2' := hg2.size
  clear hc1 hg2
  go_wp2_with fail
  refine (l1Below_any _ p hc2 5 (by omega) (by omega)).mono ?_
  rintro e w3 ⟨k, rfl, hk, hc3, hg3⟩
  have hb3 := hb2.grown hg3 hb2.size (fun q hq => by have := Option.some.inj hq; omega)
  have hcols3 := hcols.cur hg3 hp3
  replace f0 := hg3.cell f0 hne
  replace f1 := hg3.cell f1 hne
  replace z0 := (hg3.frozen_far ⟨w.heap.size, 0, none⟩ (by simp; omega) hne).trans z0
  replace z1 := (hg3.frozen_far ⟨w.heap.size, 1, none⟩ (by simp; omega) hne).trans z1
  have hs3' := hg3.size
  clear hg3 hc2 hcols hb2
  go_wp2_with fail
  refine (l4Any_any _ p hc3 w1.heap.size w2.heap.size xs.length c2 A2 xs hcols3 rfl hp3 (by omega) hx3).mono ?_
  rintro e w4 ⟨A4, c4, vs, rfl, hvl, hvo, hown4, hc4, hg4⟩
  have hb4 := hb3.grown hg4 hb3.size (fun q hq => by have := Option.some.inj hq; omega)
  have hcols4 := hcols3.cur hg4 hp3
  replace f0 := hg4.cell f0 hne
  replace f1 := hg4.cell f1 hne
  replace z0 := (hg4.frozen_far ⟨w.heap.size, 0, none⟩ (by simp; omega) hne).trans z0
  replace z1 := (hg4.frozen_far ⟨w.heap.size, 1, none⟩ (by simp; omega) hne).trans z1
  have hs4' := hg4.size
  have hgB : w4.grownBy ((w4.setCell ⟨w.heap.size, 0, none⟩ (.int .i64 ((k : Int) - 1))).setCell ⟨w.heap.size, 1, none⟩ (.slice A4 vs.length c4)) (some w.heap.size) := (grown_set _ _ _ _).trans (grown_set _ _ _ _)
  have hox := own_lower (hcols4.cur hgB (by omega)).1 hs1
  have hov := own_lower (own_cur hown4 hgB (by omega)) hb3.size
  have hb5 := (hb4.setCell (p := ⟨w.heap.size, 0, none⟩) (by simp) (.int .i64 ((k : Int) - 1))).setCell (p := ⟨w.heap.size, 1, none⟩) (by simp) (.slice A4 vs.length c4)
  have r0 : ((w4.setCell ⟨w.heap.size, 0, none⟩ (.int .i64 ((k : Int) - 1))).setCell ⟨w.heap.size, 1, none⟩ (.slice A4 vs.length c4)).cell? ⟨w.heap.size, 0, none⟩ = some (.int .i64 ((k : Int) - 1)) := (World.cell?_setCell_other _ _ _ _ (by simp)).trans (World.cell?_setCell_same _ _ _ f0)
  have r1 : ((w4.setCell ⟨w.heap.size, 0, none⟩ (.int .i64 ((k : Int) - 1))).setCell ⟨w.heap.size, 1, none⟩ (.slice A4 vs.length c4)).cell? ⟨w.heap.size, 1, none⟩ = some (.slice A4 vs.length c4) := World.cell?_setCell_same _ _ _ ((World.cell?_setCell_other _ _ _ _ (by simp)).trans f1)
  clear hg4 hc3 hc4 hcols3 hcols4 hown4 hgB hb1 hb3 hb4
  go_wp2_with fail
  exact bodyPost_ret (v := .tuple #[.slice A2 xs.length c2, .agg #[.int .i64 ((k : Int) - 1), .slice A4 vs.length c4]]) (by simp [results, Tryz.results5, go_sem, r0, r1]) rfl ⟨_, _, _, _, xs, _, vs, rfl, hx3, hxi, by omega, by omega, hvl, hvo, hox, hov, hb5⟩
set_option maxHeartbeats 3200000 in
theorem DrawColsOk_any (w : World) (A : Option Addr) (c : Nat) (cs : List UInt8) (hr : Reads w w.heap.size 1 A cs.length (byteCells cs)) (hl : cs.length ≤ 1099511627776) :
    Calls Tryz.prog 7 #[.slice A cs.length c] w fun e w' => ∃ (A1 : Option Addr) (c1 : Nat) (xs : List Int), e = .returned (.slice A1 xs.length c1) ∧ xs.length ≤ 4 ∧ (∀ x ∈ xs, I64 x) ∧
      w'.ownsRow w.heap.size 3 1 (.slice A1 xs.length c1) xs.length (intCells xs) ∧ Below w.heap.size w w' := by
  go_enter Tryz.func7, Tryz.ntmps7
  go_wp2_with fail
  refine (l1New_any _ _ _ _ hr hl).mono ?_
  rintro e w1 ⟨p, rfl, hp, hc1, hb1⟩
  have hp3 := hc1.lt
  clear hr
  obtain ⟨W, hW⟩ : ∃ W, W = ((((((((w1.alloc (.cells #[] 3)).alloc (.cells #[.int .i64 1] 3)).alloc (.cells #[.int .i64 2, .int .i64 1] 3)).alloc (.cells #[.int .i64 1, .int .i64 2, .int .i64 1] 3)).alloc (.cells #[.int .i64 1, .int .i64 1, .int .i64 1, .int .i64 1] 3)).alloc (.cells #[.int .i64 3] 3)).alloc (.cells #[.int .i64 0, .int .i64 1] 3)).alloc (.cells #[.int .i64 (-1)] 3)).alloc (.cells #[.slice (some ⟨w1.heap.size, 0, none⟩) 0 0, .slice (some ⟨w1.heap.size + 1, 0, none⟩) 1 1, .slice (some ⟨w1.heap.size + 1 + 1, 0, none⟩) 2 2, .slice (some ⟨w1.heap.size + 1 + 1 + 1, 0, none⟩) 3 3, .slice (some ⟨w1.heap.size + 1 + 1 + 1 + 1, 0, none⟩) 4 4, .slice (some ⟨w1.heap.size + 1 + 1 + 1 + 1 + 1, 0, none⟩) 1 1, .slice (some ⟨w1.heap.size + 1 + 1 + 1 + 1 + 1 + 1, 0, none⟩) 2 2, .slice (some ⟨w1.heap.size + 1 + 1 + 1 + 1 + 1 + 1 + 1, 0, none⟩) 1 1] 24) := ⟨_, rfl⟩
  have hbW : Below w1.heap.size w1 W := by rw [hW]; exact Below.alloc0 (Below.alloc0 (Below.alloc0 (Below.alloc0 (Below.alloc0 (Below.alloc0 (Below.alloc0 (Below.alloc0 (Below.alloc0 (Below.refl _ _) _) _) _) _) _) _) _) _) _
  have own0 : W.ownsRow w1.heap.size 3 1 (.slice (some ⟨w1.heap.size, 0, none⟩) 0 0) 0 (intCells []) := by rw [hW]; exact ((((((((own_lit_n #[] 0 (by simp) (by simp; try omega) (by decide) rfl).alloc _).alloc _).alloc _).alloc _).alloc _).alloc _).alloc _).alloc _
  have cel0 : W.cell? ⟨w1.heap.size + 1 + 1 + 1 + 1 + 1 + 1 + 1 + 1, 0, none⟩ = some (.slice (some ⟨w1.heap.size, 0, none⟩) 0 0) := by rw [hW]; simp [go_sem]
  have own1 : W.ownsRow w1.heap.size 3 1 (.slice (some ⟨w1.heap.size + 1, 0, none⟩) 1 1) 1 (intCells [1]) := by rw [hW]; exact (((((((own_lit_n #[.int .i64 1] 1 (by simp) (by simp; try omega) (by decide) rfl).alloc _).alloc _).alloc _).alloc _).alloc _).alloc _).alloc _
  have cel1 : W.cell? ⟨w1.heap.size + 1 + 1 + 1 + 1 + 1 + 1 + 1 + 1, 1, none⟩ = some (.slice (some ⟨w1.heap.size + 1, 0, none⟩) 1 1) := by rw [hW]; simp [go_sem]
  have own2 : W.ownsRow w1.heap.size 3 1 (.slice (some ⟨w1.heap.size + 1 + 1, 0, none⟩) 2 2) 2 (intCells [2, 1]) := by rw [hW]; exact ((((((own_lit_n #[.int .i64 2, .int .i64 1] 2 (by simp) (by simp; try omega) (by decide) rfl).alloc _).alloc _).alloc _).alloc _).alloc _).alloc _
  have cel2 : W.cell? ⟨w1.heap.size + 1 + 1 + 1 + 1 + 1 + 1 + 1 + 1, 2, none⟩ = some (.slice (some ⟨w1.heap.size + 1 + 1, 0, none⟩) 2 2) := by rw [hW]; simp [go_sem]
  have own3 : W.ownsRow w1.heap.size 3 1 (.slice (some ⟨w1.heap.size + 1 + 1 + 1, 0, none⟩) 3 3) 3 (intCells [1, 2, 1]) := by rw [hW]; exact (((((own_lit_n #[.int .i64 1, .int .i64 2, .int .i64 1] 3 (by simp) (by simp; try omega) (by decide) rfl).alloc _).alloc _).alloc _).alloc _).alloc _
  have cel3 : W.cell? ⟨w1.heap.size + 1 + 1 + 1 + 1 + 1 + 1 + 1 + 1, 3, none⟩ = some (.slice (some ⟨w1.heap.size + 1 + 1 + 1, 0, none⟩) 3 3) := by rw [hW]; simp [go_sem]
  have own4 : W.ownsRow w1.heap.size 3 1 (.slice (some ⟨w1.heap.size + 1 + 1 + 1 + 1, 0, none⟩) 4 4) 4 (intCells [1, 1, 1, 1]) := by rw [hW]; exact ((((own_lit_n #[.int .i64 1, .int .i64 1, .int .i64 1, .int .i64 1] 4 (by simp) (by simp; try omega) (by decide) rfl).alloc _).alloc _).alloc _).alloc _
  have cel4 : W.cell? ⟨w1.heap.size + 1 + 1 + 1 + 1 + 1 + 1 + 1 + 1, 4, none⟩ = some (.slice (some ⟨w1.heap.size + 1 + 1 + 1 + 1, 0, none⟩) 4 4) := by rw [hW]; simp [go_sem]
  have own5 : W.ownsRow w1.heap.size 3 1 (.slice (some ⟨w1.heap.size + 1 + 1 + 1 + 1 + 1, 0, none⟩) 1 1) 1 (intCells [3]) := by rw [hW]; exact (((own_lit_n #[.int .i64 3] 1 (by simp) (by simp; try omega) (by decide) rfl).alloc _).alloc _).alloc _
  have cel5 : W.cell? ⟨w1.heap.size + 1 + 1 + 1 + 1 + 1 + 1 + 1 + 1, 5, none⟩ = some (.slice (some ⟨w1.heap.size + 1 + 1 + 1 + 1 + 1, 0, none⟩) 1 1) := by rw [hW]; simp [go_sem]
  have own6 : W.ownsRow w1.heap.size 3 1 (.slice (some ⟨w1.heap.size + 1 + 1 + 1 + 1 + 1 + 1, 0, none⟩) 2 2) 2 (intCells [0, 1]) := by rw [hW]; exact ((own_lit_n #[.int .i64 0, .int .i64 1] 2 (by simp) (by simp; try omega) (by decide) rfl).alloc _).alloc _
  have cel6 : W.cell? ⟨w1.heap.size + 1 + 1 + 1 + 1 + 1 + 1 + 1 + 1, 6, none⟩ = some (.slice (some ⟨w1.heap.size + 1 + 1 + 1 + 1 + 1 + 1, 0, none⟩) 2 2) := by rw [hW]; simp [go_sem]
  have own7 : W.ownsRow w1.heap.size 3 1 (.slice (some ⟨w1.heap.size + 1 + 1 + 1 + 1 + 1 + 1 + 1, 0, none⟩) 1 1) 1 (intCells [-1]) := by rw [hW]; exact (own_lit_n #[.int .i64 (-1)] 1 (by simp) (by simp; try omega) (by decide) rfl).alloc _
  have cel7 : W.cell? ⟨w1.heap.size + 1 + 1 + 1 + 1 + 1 + 1 + 1 + 1, 7, none⟩ = some (.slice (some ⟨w1.heap.size + 1 + 1 + 1 + 1 + 1 + 1 + 1, 0, none⟩) 1 1) := by rw [hW]; simp [go_sem]
  have hcW := hc1.below hbW
  have hb2 := hb1.trans (hbW.mono hb1.size)
  have hs1 := hb1.size
  clear hbW hc1 hb1
  go_wp2_with fail
  rw [← hW]
  clear hW
  refine (l1Below_any W p hcW 8 (by omega) (by omega)).mono ?_
  rintro e w2 ⟨k, rfl, hk, hc2, hg2⟩
  have hb3 := hb2.grown hg2 hb2.size (fun q hq => by have := Option.some.inj hq; omega)
  rcases (show k = 0 ∨ k = 1 ∨ k = 2 ∨ k = 3 ∨ k = 4 ∨ k = 5 ∨ k = 6 ∨ k = 7 by omega) with rfl | rfl | rfl | rfl | rfl | rfl | rfl | rfl
  · have hd := hg2.cell cel0 (fun e => by have := Option.some.inj e; simp at this; omega)
    have ho := own_lower (own_cur own0 hg2 hp3) hs1
    clear own0 cel0 own1 cel1 own2 cel2 own3 cel3 own4 cel4 own5 cel5 own6 cel6 own7 cel7 hg2 hc2 hcW hb2
    go_wp2
    go_ret
    exact ⟨_, _, [], rfl, by simp, by simp [I64], ho, hb3⟩
  · have hd := hg2.cell cel1 (fun e => by have := Option.some.inj e; simp at this; omega)
    have ho := own_lower (own_cur own1 hg2 hp3) hs1
    clear own0 cel0 own1 cel1 own2 cel2 own3 cel3 own4 cel4 own5 cel5 own6 cel6 own7 cel7 hg2 hc2 hcW hb2
    go_wp2
    go_ret
    exact ⟨_, _, [1], rfl, by simp, by simp [I64], ho, hb3⟩
  · have hd := hg2.cell cel2 (fun e => by have := Option.some.inj e; simp at this; omega)
    have ho := own_lower (own_cur own2 hg2 hp3) hs1
    clear own0 cel0 own1 cel1 own2 cel2 own3 cel3 own4 cel4 own5 cel5 own6 cel6 own7 cel7 hg2 hc2 hcW hb2
    go_wp2
    go_ret
    exact ⟨_, _, [2, 1], rfl, by simp, by simp [I64], ho, hb3⟩
  · have hd := hg2.cell cel3 (fun e => by have := Option.some.inj e; simp at this; omega)
    have ho := own_lower (own_cur own3 hg2 hp3) hs1
    clear own0 cel0 own1 cel1 own2 cel2 own3 cel3 own4 cel4 own5 cel5 own6 cel6 own7 cel7 hg2 hc2 hcW hb2
    go_wp2
    go_ret
    exact ⟨_, _, [1, 2, 1], rfl, by simp, by simp [I64], ho, hb3⟩
  · have hd := hg2.cell cel4 (fun e => by have := Option.some.inj e; simp at this; omega)
    have ho := own_lower (own_cur own4 hg2 hp3) hs1
    clear own0 cel0 own1 cel1 own2 cel2 own3 cel3 own4 cel4 own5 cel5 own6 cel6 own7 cel7 hg2 hc2 hcW hb2
    go_wp2
    go_ret
    exact ⟨_, _, [1, 1, 1, 1], rfl, by simp, by simp [I64], ho, hb3⟩
  · have hd := hg2.cell cel5 (fun e => by have := Option.some.inj e; simp at this; omega)
    have ho := own_lower (own_cur own5 hg2 hp3) hs1
    clear own0 cel0 own1 cel1 own2 cel2 own3 cel3 own4 cel4 own5 cel5 own6 cel6 own7 cel7 hg2 hc2 hcW hb2
    go_wp2
    go_ret
    exact ⟨_, _, [3], rfl, by simp, by simp [I64], ho, hb3⟩
  · have hd := hg2.cell cel6 (fun e => by have := Option.some.inj e; simp at this; omega)
    have ho := own_lower (own_cur own6 hg2 hp3) hs1
    clear own0 cel0 own1 cel1 own2 cel2 own3 cel3 own4 cel4 own5 cel5 own6 cel6 own7 cel7 hg2 hc2 hcW hb2
    go_wp2
    go_ret
    exact ⟨_, _, [0, 1], rfl, by simp, by simp [I64], ho, hb3⟩
  · have hd := hg2.cell cel7 (fun e => by have := Option.some.inj e; simp at this; omega)
    have ho := own_lower (own_cur own7 hg2 hp3) hs1
    clear own0 cel0 own1 cel1 own2 cel2 own3 cel3 own4 cel4 own5 cel5 own6 cel6 own7 cel7 hg2 hc2 hcW hb2
    go_wp2
    go_ret
    exact ⟨_, _, [-1], rfl, by simp, by simp [I64], ho, hb3⟩
def dpsS : List ByteArray := [⟨#[]⟩, ⟨#[32]⟩, ⟨#[49, 32, 32, 50]⟩, ⟨#[49, 32, 39, 97]⟩, ⟨#[49, 32]⟩, ⟨#[120]⟩, ⟨#[39, 32, 39]⟩, ⟨#[39]⟩]
theorem dpsS_size : ∀ x ∈ dpsS, x.size ≤ 1000 := by
  intro x hx
  simp only [dpsS, List.mem_cons, List.not_mem_nil, or_false] at hx
  rcases hx with rfl | rfl | rfl | rfl | rfl | rfl | rfl | rfl <;> decide
theorem app_size (a b : ByteArray) : (a ++ b).size = a.size + b.size := by simp
set_option maxHeartbeats 3200000 in
theorem DrawParseVals_any (w : World) (A : Option Addr) (c : Nat) (cs : List UInt8) (hr : Reads w w.heap.size 1 A cs.length (byteCells cs)) (hl : cs.length ≤ 1099511627776) :
    Calls Tryz.prog 9 #[.slice A cs.length c] w fun e w' => ∃ s : ByteArray, e = .returned (.string s) ∧ s.size ≤ 1000 ∧ Below w.heap.size w w' := by
  go_enter Tryz.func9, Tryz.ntmps9
  go_wp2_with fail
  refine (l1New_any _ _ _ _ hr hl).mono ?_
  rintro e w1 ⟨p, rfl, hp, hc1, hb1⟩
  have hp3 := hc1.lt
  clear hr
  go_wp2_with fail
  refine (l1Once_any _ p hc1 3 (by omega) (by omega)).mono ?_
  rintro e w2 ⟨b, rfl, hc2, hg2⟩
  have hb2 := hb1.grown hg2 hb1.size (fun q hq => by have := Option.some.inj hq; omega)
  clear hb1 hg2 hc1
  cases b
  · have hp5 := hc2.lt
    go_wp2_with fail
    refine (l4Cols_any _ p hc2).mono ?_
    rintro e w3 ⟨A3, c3, xs, rfl, hx1, hx3, hxi, hown3, hc3, hg3⟩
    have hb3 := hb2.grown hg3 hb2.size (fun q hq => by have := Option.some.inj hq; omega)
    have hcols := Owned.mk' hown3
    clear hown3 hg3 hc2
    go_wp2_with fail
    refine (l4Vals_any _ p hc3 w2.heap.size w3.heap.size xs.length c3 A3 xs hcols rfl hp5 (Nat.le_refl _) hx3).mono ?_
    rintro e w4 ⟨A4, c4, vs, rfl, hvl, hvo, hown4, hc4, hg4⟩
    have hb4 := hb3.grown hg4 hb3.size (fun q hq => by have := Option.some.inj hq; omega)
    have hr4 := own_reads hown4
    obtain ⟨N, hN⟩ : ∃ N, N = xs.length := ⟨_, rfl⟩
    rw [← hN] at hr4 hx3 hvl
    have HV := Lib.hid hvl
    have HO := Lib.hid hvo
    rw [← hN]
    clear hb2 hb3 hg4 hc3 hc4 hcols hown4 hN hx1 hvl hvo
    go_wp2
    go_loopw [5, 6] (fun q i wr => ∃ (k : Nat) (s : ByteArray), k ≤ N ∧ i = .int .i64 (k : Int) ∧ q = .string s ∧ s.size ≤ 22 * k ∧ Below w4.heap.size w4 wr) (fun _ i _ => N - (intOf i).toNat)
    case atStart => exact ⟨0, ⟨#[]⟩, Nat.zero_le _, rfl, rfl, by simp [ByteArray.size], Below.refl _ _⟩
    case round =>
      obtain ⟨k, s, hk, rfl, rfl, hs, hbl⟩ := hrel
      by_cases hlt : k < N
      · obtain ⟨b, off, x, rfl, hb, hx, hc0, hc1, hc2⟩ := Reads.v (xs := vs) (by rw [HV.out]; exact hr4) (by rw [HV.out]; exact hlt)
        have hxo := HO.out x (List.mem_of_getElem? hx.out)
        have hd0 : wr.cell? ⟨b, off + k * 3, none⟩ = some (.int .i64 x.ty) := (hbl.cell (p := ⟨b, off + k * 3, none⟩) hb).trans hc0
        have hd1 : wr.cell? ⟨b, off + k * 3 + 1, none⟩ = some (.int .i64 x.n) := (hbl.cell (p := ⟨b, off + k * 3 + 1, none⟩) hb).trans hc1
        have hd2 : wr.cell? ⟨b, off + k * 3 + 2, none⟩ = some (.string x.s) := (hbl.cell (p := ⟨b, off + k * 3 + 2, none⟩) hb).trans hc2
        have hvs := valText_size hxo
        have hsA := app_size s (valText x)
        have hsB := app_size (s ++ ⟨#[32]⟩) (valText x)
        have hsC := app_size s ⟨#[32]⟩
        have hs1 : (⟨#[32]⟩ : ByteArray).size = 1 := rfl
        clear hr4 hc0 hc1 hc2
        rcases (show k = 0 ∨ 0 < k by omega) with rfl | hkp
        · simp only [Nat.zero_mul, Nat.add_zero] at hd0 hd1 hd2
          go_wp2_with fail
          refine (spec_ValText _ x hxo).mono ?_
          rintro e w5 ⟨rfl, hb5⟩
          have hbl5 := hbl.trans (hb5.mono hbl.size)
          clear hb5 hd0 hd1 hd2
          go_wp2
          go_roundw
          case rel => exact ⟨0 + 1, _, by omega, by go_num, rfl, by omega, hbl5⟩
          case measure => simp [intOf]; omega
        · go_wp2_with fail
          refine (spec_ValText _ x hxo).mono ?_
          rintro e w5 ⟨rfl, hb5⟩
          have hbl5 := hbl.trans (hb5.mono hbl.size)
          clear hb5 hd0 hd1 hd2
          go_wp2
          go_roundw
          case rel => exact ⟨k + 1, _, by omega, by go_num, rfl, by omega, hbl5⟩
          case measure => simp [intOf]; omega
      · have hbf := hb4.trans (hbl.mono hb4.size)
        go_wp2
        go_ret
        exact ⟨s, rfl, by omega, hbf⟩
  · go_wp2_with fail
    refine (l1Str_lit2 _ p hc2 9 8 dpsS rfl (by omega) (by omega) dpsS_size).mono ?_
    rintro e w3 ⟨x, rfl, hx, hc3, hg3⟩
    have hb3 := hb2.grown hg3 hb2.size (fun q hq => by have := Option.some.inj hq; omega)
    go_wp2
    go_ret
    exact ⟨x, rfl, hx, hb3⟩
end Go.Proofs.YtgpimlmolcjeoaaGreatDoor
