/-
  Contracts of the values drawn: one value, a list of values.
-/
import Derived.Test.YtgpimlmolcjeoaaGreatDoorDrawn
import Derived.Test.YtgpimlmolcjeoaaGreatDoorBoxes
import Derived.Maps.AppendAt
namespace Go.Proofs.YtgpimlmolcjeoaaGreatDoor
open Go.RowKit
set_option linter.unusedVariables false
set_option maxRecDepth 100000

theorem l1Str_any (w : World) (p : Nat) (hc : Cur w p) (b n c : Nat) (xs : List ByteArray) (hl : xs.length = n) (h1 : 1 ≤ n) (h2 : n ≤ 1099511627776) (hb : b ≠ p) (hx : ∀ j x, xs[j]? = some x → w.cell? ⟨b, j, none⟩ = some (.string x)) :
    Calls Tryz.prog 32 #[.pointer (some ⟨p, 0, none⟩), .slice (some ⟨b, 0, none⟩) n c] w fun e w' => ∃ x : ByteArray, e = .returned (.string x) ∧ x ∈ xs ∧ Cur w' p ∧ w.grownBy w' (some p) := by
  have HL := Lib.hid hl
  clear hl
  go_enter Tryz.func32, Tryz.ntmps32
  go_wp2_with fail
  refine (l1Below_any _ p hc n h1 h2).mono ?_
  rintro e w1 ⟨k, rfl, hk, hc1, hg1⟩
  have hkx : k < xs.length := by rw [HL.out]; exact hk
  have hd : w1.cell? ⟨b, k, none⟩ = some (.string xs[k]) := hg1.cell (hx k _ (List.getElem?_eq_getElem hkx)) (fun e => hb (Option.some.inj e))
  have hm : xs[k] ∈ xs := List.getElem_mem hkx
  obtain ⟨x, hxe⟩ : ∃ x, x = xs[k] := ⟨_, rfl⟩
  rw [← hxe] at hd hm
  clear hxe hkx
  go_wp2
  go_ret
  exact ⟨x, rfl, hm, hc1, hg1⟩
theorem lit_strs (w : World) (t : TypeId) (xs : List ByteArray) : ∀ j x, xs[j]? = some x → (w.alloc (.cells (strCells xs).toArray t)).cell? ⟨w.heap.size, j, none⟩ = some (.string x) := by
  intro j x hj
  have h := World.news_of_block (cs := (strCells xs).toArray) (t := t) (fr := (0, 0)) (heap_alloc_new w (.cells (strCells xs).toArray t)) j (.string x) (by simp [strCells, hj])
  simpa [add_form] using h
theorem l1Str_lit (w : World) (p : Nat) (hc : Cur w p) (t : TypeId) (n : Nat) (xs : List ByteArray) (hl : xs.length = n) (h1 : 1 ≤ n) (h2 : n ≤ 1099511627776) (hI : ∀ x ∈ xs, x.size ≤ 1000) :
    Calls Tryz.prog 32 #[.pointer (some ⟨p, 0, none⟩), .slice (some ⟨w.heap.size, 0, none⟩) n n] (w.alloc (.cells (strCells xs).toArray t)) fun e w' => ∃ x : ByteArray, e = .returned (.string x) ∧ x.size ≤ maxLen ∧ Cur w' p ∧ w.grownBy w' (some p) := by
  refine (l1Str_any _ p (hc.alloc _) w.heap.size n n xs hl h1 h2 (Nat.ne_of_gt hc.lt) (lit_strs w t xs)).mono ?_
  rintro e w1 ⟨x, rfl, hm, hc1, hg1⟩
  exact ⟨x, rfl, Nat.le_trans (hI x hm) (by unfold maxLen; omega), hc1, (grown_alloc w _ _).trans hg1⟩
def l3L : List Int := [0, 1, 2, 3, 7, -1]
theorem l3Int_any (w : World) (p : Nat) (hc : Cur w p) :
    Calls Tryz.prog 52 #[.pointer (some ⟨p, 0, none⟩)] w fun e w' => ∃ v : V, e = .returned (.agg #[.int .i64 v.ty, .int .i64 v.n, .string v.s]) ∧ v.ok ∧ Cur w' p ∧ w.grownBy w' (some p) := by
  have hp := hc.lt
  have hne : w.heap.size ≠ p := by omega
  obtain ⟨W, hW⟩ : ∃ W, W = w.alloc (.cells #[.int .i64 0, .int .i64 0, .string ⟨#[]⟩] 49) := ⟨_, rfl⟩
  have hbx : Box W w.heap.size V0 := by rw [hW]; exact Box.zero w
  have hcW : Cur W p := by rw [hW]; exact hc.alloc _
  have hgW : w.grownBy W (some p) := by rw [hW]; exact grown_alloc _ _ _
  go_enter Tryz.func52, Tryz.ntmps52
  go_wp2_with fail
  rw [← hW]
  clear hW hc
  refine (l1Once_any W p hcW 4 (by omega) (by omega)).mono ?_
  rintro e w1 ⟨b, rfl, hc1, hg1⟩
  replace hbx := hbx.grown hg1 hne
  have hgx := hgW.trans hg1
  clear hgW hg1 hcW
  cases b
  · go_wp2_with fail
    refine (l1Int_lit w1 p hc1 3 6 l3L rfl (by omega) (by omega) (by simp [l3L, I64])).mono ?_
    rintro e w2 ⟨x, rfl, hx, hc2, hg2⟩
    obtain ⟨q0, q1, q2, f0, f1, f2⟩ := (hbx.grown hg2 hne).cells
    have hg := hgx.trans hg2
    obtain ⟨r0, r1, r2⟩ := three_set q0 q1 q2 (.int .i64 1) (.int .i64 x) (.string ⟨#[]⟩)
    have hb3 := below_three (Below.refl w.heap.size w2) (Nat.le_refl w.heap.size) (.int .i64 1) (.int .i64 x) (.string ⟨#[]⟩)
    clear hg2 hgx hbx
    go_wp2_with fail
    exact bodyPost_ret (v := .agg #[.int .i64 1, .int .i64 x, .string ⟨#[]⟩]) (by simp [results, Tryz.results52, go_sem, r0, r1, r2]) rfl ⟨⟨1, x, ⟨#[]⟩⟩, rfl, ⟨by simp [I64], hx, Nat.zero_le _⟩, hc2.below' hb3 hp, grown_below hg hb3⟩
  · go_wp2_with fail
    refine (l1Num_any _ p hc1).mono ?_
    rintro e w2 ⟨x, rfl, hx, hc2, hg2⟩
    obtain ⟨q0, q1, q2, f0, f1, f2⟩ := (hbx.grown hg2 hne).cells
    have hg := hgx.trans hg2
    obtain ⟨r0, r1, r2⟩ := three_set q0 q1 q2 (.int .i64 1) (.int .i64 x) (.string ⟨#[]⟩)
    have hb3 := below_three (Below.refl w.heap.size w2) (Nat.le_refl w.heap.size) (.int .i64 1) (.int .i64 x) (.string ⟨#[]⟩)
    clear hg2 hgx hbx
    go_wp2_with fail
    exact bodyPost_ret (v := .agg #[.int .i64 1, .int .i64 x, .string ⟨#[]⟩]) (by simp [results, Tryz.results52, go_sem, r0, r1, r2]) rfl ⟨⟨1, x, ⟨#[]⟩⟩, rfl, ⟨by simp [I64], hx, Nat.zero_le _⟩, hc2.below' hb3 hp, grown_below hg hb3⟩
def l3S : List ByteArray := [⟨#[]⟩, ⟨#[97]⟩, ⟨#[98]⟩, ⟨#[97, 98]⟩, ⟨#[114, 101, 100]⟩, ⟨#[98, 108, 117, 101]⟩, ⟨#[103, 114, 101, 101, 110]⟩, ⟨#[122, 122, 122, 122, 122, 122]⟩]
theorem l3S_size : ∀ x ∈ l3S, x.size ≤ 1000 := by
  intro x hx
  simp only [l3S, List.mem_cons, List.not_mem_nil, or_false] at hx
  rcases hx with rfl | rfl | rfl | rfl | rfl | rfl | rfl | rfl <;> decide
set_option maxHeartbeats 1600000 in
theorem l3Text_any (w : World) (p : Nat) (hc : Cur w p) :
    Calls Tryz.prog 53 #[.pointer (some ⟨p, 0, none⟩)] w fun e w' => ∃ v : V, e = .returned (.agg #[.int .i64 v.ty, .int .i64 v.n, .string v.s]) ∧ v.ok ∧ Cur w' p ∧ w.grownBy w' (some p) := by
  have hp := hc.lt
  have hne : w.heap.size ≠ p := by omega
  obtain ⟨W, hW⟩ : ∃ W, W = w.alloc (.cells #[.int .i64 0, .int .i64 0, .string ⟨#[]⟩] 49) := ⟨_, rfl⟩
  have hbx : Box W w.heap.size V0 := by rw [hW]; exact Box.zero w
  have hcW : Cur W p := by rw [hW]; exact hc.alloc _
  have hgW : w.grownBy W (some p) := by rw [hW]; exact grown_alloc _ _ _
  have hsW : W.heap.size = w.heap.size + 1 := by rw [hW]; simp
  go_enter Tryz.func53, Tryz.ntmps53
  go_wp2_with fail
  rw [← hW]
  clear hW hc
  rw [← hsW]
  refine (l1Str_lit W p hcW 9 8 l3S rfl (by omega) (by omega) l3S_size).mono ?_
  rintro e w2 ⟨x, rfl, hx, hc2, hg2⟩
  obtain ⟨q0, q1, q2, f0, f1, f2⟩ := (hbx.grown hg2 hne).cells
  have hg := hgW.trans hg2
  obtain ⟨r0, r1, r2⟩ := three_set q0 q1 q2 (.int .i64 2) (.int .i64 0) (.string x)
  have hb3 := below_three (Below.refl w.heap.size w2) (Nat.le_refl w.heap.size) (.int .i64 2) (.int .i64 0) (.string x)
  go_wp2_with fail
  exact bodyPost_ret (v := .agg #[.int .i64 2, .int .i64 0, .string x]) (by simp [results, Tryz.results53, go_sem, r0, r1, r2]) rfl ⟨⟨2, 0, x⟩, rfl, ⟨by simp [I64], by simp [I64], hx⟩, hc2.below' hb3 hp, grown_below hg hb3⟩
theorem l3Draw_any (w : World) (p : Nat) (hc : Cur w p) :
    Calls Tryz.prog 65 #[.pointer (some ⟨p, 0, none⟩)] w fun e w' => ∃ v : V, e = .returned (.agg #[.int .i64 v.ty, .int .i64 v.n, .string v.s]) ∧ v.ok ∧ Cur w' p ∧ w.grownBy w' (some p) := by
  have hp := hc.lt
  have hne : w.heap.size ≠ p := by omega
  obtain ⟨W, hW⟩ : ∃ W, W = w.alloc (.cells #[.int .i64 0, .int .i64 0, .string ⟨#[]⟩] 49) := ⟨_, rfl⟩
  have hbx : Box W w.heap.size V0 := by rw [hW]; exact Box.zero w
  have hcW : Cur W p := by rw [hW]; exact hc.alloc _
  have hgW : w.grownBy W (some p) := by rw [hW]; exact grown_alloc _ _ _
  go_enter Tryz.func65, Tryz.ntmps65
  go_wp2_with fail
  rw [← hW]
  clear hW hc
  refine (l1Once_any W p hcW 2 (by omega) (by omega)).mono ?_
  rintro e w1 ⟨b, rfl, hc1, hg1⟩
  replace hbx := hbx.grown hg1 hne
  have hgx := hgW.trans hg1
  clear hgW hg1 hcW
  cases b
  · go_wp2_with fail
    refine (l3Text_any w1 p hc1).mono ?_
    rintro e w2 ⟨v, rfl, hv, hc2, hg2⟩
    obtain ⟨q0, q1, q2, f0, f1, f2⟩ := (hbx.grown hg2 hne).cells
    have hg := hgx.trans hg2
    obtain ⟨r0, r1, r2⟩ := three_set q0 q1 q2 (.int .i64 v.ty) (.int .i64 v.n) (.string v.s)
    have hb3 := below_three (Below.refl w.heap.size w2) (Nat.le_refl w.heap.size) (.int .i64 v.ty) (.int .i64 v.n) (.string v.s)
    go_wp2_with fail
    exact bodyPost_ret (v := .agg #[.int .i64 v.ty, .int .i64 v.n, .string v.s]) (by simp [results, Tryz.results65, go_sem, r0, r1, r2]) rfl ⟨⟨v.ty, v.n, v.s⟩, rfl, hv, hc2.below' hb3 hp, grown_below hg hb3⟩
  · go_wp2_with fail
    refine (l3Int_any w1 p hc1).mono ?_
    rintro e w2 ⟨v, rfl, hv, hc2, hg2⟩
    obtain ⟨q0, q1, q2, f0, f1, f2⟩ := (hbx.grown hg2 hne).cells
    have hg := hgx.trans hg2
    obtain ⟨r0, r1, r2⟩ := three_set q0 q1 q2 (.int .i64 v.ty) (.int .i64 v.n) (.string v.s)
    have hb3 := below_three (Below.refl w.heap.size w2) (Nat.le_refl w.heap.size) (.int .i64 v.ty) (.int .i64 v.n) (.string v.s)
    go_wp2_with fail
    exact bodyPost_ret (v := .agg #[.int .i64 v.ty, .int .i64 v.n, .string v.s]) (by simp [results, Tryz.results65, go_sem, r0, r1, r2]) rfl ⟨⟨v.ty, v.n, v.s⟩, rfl, hv, hc2.below' hb3 hp, grown_below hg hb3⟩
def anyL : List Int := [0, 1, 2, 3]
def anyS : List ByteArray := [⟨#[97, 32, 98]⟩, ⟨#[115, 101, 118, 101, 110, 55, 55]⟩, ⟨#[127]⟩, ⟨#[126]⟩, ⟨#[33]⟩]
theorem anyS_size : ∀ x ∈ anyS, x.size ≤ 1000 := by
  intro x hx
  simp only [anyS, List.mem_cons, List.not_mem_nil, or_false] at hx
  rcases hx with rfl | rfl | rfl | rfl | rfl <;> decide
set_option maxHeartbeats 1600000 in
theorem l3Any_any (w : World) (p : Nat) (hc : Cur w p) :
    Calls Tryz.prog 50 #[.pointer (some ⟨p, 0, none⟩)] w fun e w' => ∃ v : V, e = .returned (.agg #[.int .i64 v.ty, .int .i64 v.n, .string v.s]) ∧ v.ok ∧ Cur w' p ∧ w.grownBy w' (some p) := by
  have hp := hc.lt
  have hne : w.heap.size ≠ p := by omega
  obtain ⟨W, hW⟩ : ∃ W, W = w.alloc (.cells #[.int .i64 0, .int .i64 0, .string ⟨#[]⟩] 49) := ⟨_, rfl⟩
  have hbx : Box W w.heap.size V0 := by rw [hW]; exact Box.zero w
  have hcW : Cur W p := by rw [hW]; exact hc.alloc _
  have hgW : w.grownBy W (some p) := by rw [hW]; exact grown_alloc _ _ _
  go_enter Tryz.func50, Tryz.ntmps50
  go_wp2_with fail
  rw [← hW]
  clear hW hc
  refine (l3Draw_any W p hcW).mono ?_
  rintro e w1 ⟨v, rfl, hv, hc1, hg1⟩
  replace hbx := hbx.grown hg1 hne
  have hgx := hgW.trans hg1
  have hs1 := hbx.lt
  clear hgW hg1 hcW
  obtain ⟨W2, hW2⟩ : ∃ W2, W2 = w1.alloc (.cells #[.int .i64 v.ty, .int .i64 v.n, .string v.s] 49) := ⟨_, rfl⟩
  have hbv : Box W2 w1.heap.size v := by rw [hW2]; exact Box.new w1 v
  have hb2 : Below w1.heap.size w1 W2 := by rw [hW2]; exact (Below.refl _ _).alloc (Nat.le_refl _) _
  replace hbx := hbx.below' hb2 hs1
  have hc2 := hc1.below hb2
  have hg2 := grown_below hgx (hb2.mono (Nat.le_of_lt hs1))
  have hne2 : w1.heap.size ≠ p := by omega
  obtain ⟨B2, hB2⟩ : ∃ B2, B2 = w1.heap.size := ⟨_, rfl⟩
  go_wp2_with fail
  rw [← hW2]
  rw [← hB2] at hs1 hbv hne2 ⊢
  have hlt2 : w.heap.size < B2 := hs1
  clear hW2 hc1 hgx hb2 hB2 hs1
  refine (l1Below_any W2 p hc2 10 (by omega) (by omega)).mono ?_
  rintro e w3 ⟨k, rfl, hk, hc3, hg3⟩
  replace hbx := hbx.grown hg3 hne
  replace hbv := hbv.grown hg3 hne2
  replace hg3 := hg2.trans hg3
  clear hc2 hg2
  rcases (show k = 0 ∨ k = 1 ∨ k = 2 ∨ (k ≠ 0 ∧ k ≠ 1 ∧ k ≠ 2) by omega) with rfl | rfl | rfl | ⟨k0, k1, k2⟩
  · go_wp2_with fail
    refine (l1Int_lit w3 p hc3 3 4 anyL rfl (by omega) (by omega) (by simp [anyL, I64])).mono ?_
    rintro e w4 ⟨x, rfl, hx, hc4, hg4⟩
    replace hbx := hbx.grown hg4 hne
    replace hbv := hbv.grown hg4 hne2
    replace hg4 := hg3.trans hg4
    have hbw : Below B2 w4 (w4.setCell ⟨B2, 0, none⟩ (.int .i64 x)) := (Below.refl B2 w4).setCell (show B2 ≤ B2 from Nat.le_refl B2) _
    obtain ⟨c0, c1, c2, g0, g1, g2⟩ := (hbv.set0 x).cells
    obtain ⟨d0, d1, d2, g3, g4, g5⟩ := hbv.cells
    obtain ⟨q0, q1, q2, f0, f1, f2⟩ := (hbx.below' hbw hlt2).cells
    obtain ⟨r0, r1, r2⟩ := three_set q0 q1 q2 (.int .i64 x) (.int .i64 v.n) (.string v.s)
    have hb3 := below_three (hbw.mono (Nat.le_of_lt hlt2)) (Nat.le_refl w.heap.size) (.int .i64 x) (.int .i64 v.n) (.string v.s)
    clear hc3 hg3 hbx hbv hbw
    go_wp2_with fail
    exact bodyPost_ret (v := .agg #[.int .i64 x, .int .i64 v.n, .string v.s]) (by simp [results, Tryz.results50, go_sem, r0, r1, r2]) rfl ⟨⟨x, v.n, v.s⟩, rfl, ⟨hx, hv.2.1, hv.2.2⟩, hc4.below' hb3 hp, grown_below hg4 hb3⟩
  · go_wp2_with fail
    refine (l1Raw_any w3 p hc3).mono ?_
    rintro e w4 ⟨x, rfl, hx, hc4, hg4⟩
    replace hbx := hbx.grown hg4 hne
    replace hbv := hbv.grown hg4 hne2
    replace hg4 := hg3.trans hg4
    have hbw : Below B2 w4 (w4.setCell ⟨B2, 1, none⟩ (.int .i64 x)) := (Below.refl B2 w4).setCell (show B2 ≤ B2 from Nat.le_refl B2) _
    obtain ⟨c0, c1, c2, g0, g1, g2⟩ := (hbv.set1 x).cells
    obtain ⟨d0, d1, d2, g3, g4, g5⟩ := hbv.cells
    obtain ⟨q0, q1, q2, f0, f1, f2⟩ := (hbx.below' hbw hlt2).cells
    obtain ⟨r0, r1, r2⟩ := three_set q0 q1 q2 (.int .i64 v.ty) (.int .i64 x) (.string v.s)
    have hb3 := below_three (hbw.mono (Nat.le_of_lt hlt2)) (Nat.le_refl w.heap.size) (.int .i64 v.ty) (.int .i64 x) (.string v.s)
    clear hc3 hg3 hbx hbv hbw
    go_wp2_with fail
    exact bodyPost_ret (v := .agg #[.int .i64 v.ty, .int .i64 x, .string v.s]) (by simp [results, Tryz.results50, go_sem, r0, r1, r2]) rfl ⟨⟨v.ty, x, v.s⟩, rfl, ⟨hv.1, hx, hv.2.2⟩, hc4.below' hb3 hp, grown_below hg4 hb3⟩
  · go_wp2_with fail
    refine (l1Str_lit w3 p hc3 9 5 anyS rfl (by omega) (by omega) anyS_size).mono ?_
    rintro e w4 ⟨x, rfl, hx, hc4, hg4⟩
    replace hbx := hbx.grown hg4 hne
    replace hbv := hbv.grown hg4 hne2
    replace hg4 := hg3.trans hg4
    have hbw : Below B2 w4 (w4.setCell ⟨B2, 2, none⟩ (.string x)) := (Below.refl B2 w4).setCell (show B2 ≤ B2 from Nat.le_refl B2) _
    obtain ⟨c0, c1, c2, g0, g1, g2⟩ := (hbv.set2 x).cells
    obtain ⟨d0, d1, d2, g3, g4, g5⟩ := hbv.cells
    obtain ⟨q0, q1, q2, f0, f1, f2⟩ := (hbx.below' hbw hlt2).cells
    obtain ⟨r0, r1, r2⟩ := three_set q0 q1 q2 (.int .i64 v.ty) (.int .i64 v.n) (.string x)
    have hb3 := below_three (hbw.mono (Nat.le_of_lt hlt2)) (Nat.le_refl w.heap.size) (.int .i64 v.ty) (.int .i64 v.n) (.string x)
    clear hc3 hg3 hbx hbv hbw
    go_wp2_with fail
    exact bodyPost_ret (v := .agg #[.int .i64 v.ty, .int .i64 v.n, .string x]) (by simp [results, Tryz.results50, go_sem, r0, r1, r2]) rfl ⟨⟨v.ty, v.n, x⟩, rfl, ⟨hv.1, hv.2.1, hx⟩, hc4.below' hb3 hp, grown_below hg4 hb3⟩
  · have b0 : ((k : Int) == 0) = false := by simp; omega
    have b1 : ((k : Int) == 1) = false := by simp; omega
    have b2 : ((k : Int) == 2) = false := by simp; omega
    clear k0 k1 k2
    obtain ⟨d0, d1, d2, g3, g4, g5⟩ := hbv.cells
    obtain ⟨q0, q1, q2, f0, f1, f2⟩ := hbx.cells
    obtain ⟨r0, r1, r2⟩ := three_set q0 q1 q2 (.int .i64 v.ty) (.int .i64 v.n) (.string v.s)
    have hb3 := below_three (Below.refl w.heap.size w3) (Nat.le_refl w.heap.size) (.int .i64 v.ty) (.int .i64 v.n) (.string v.s)
    clear hbx hbv
    go_wp2_with fail
    exact bodyPost_ret (v := .agg #[.int .i64 v.ty, .int .i64 v.n, .string v.s]) (by simp [results, Tryz.results50, go_sem, r0, r1, r2]) rfl ⟨v, rfl, hv, hc3.below' hb3 hp, grown_below hg3 hb3⟩
theorem ok_snoc {vs : List V} {v : V} (h : ∀ x ∈ vs, x.ok) (hv : v.ok) : ∀ x ∈ vs ++ [v], x.ok := by
  intro x hx
  rcases List.mem_append.1 hx with hx | hx
  · exact h x hx
  · rw [List.mem_singleton.1 hx]; exact hv
theorem append_one_b {P : Program} {W : World} {ops : Array Oper} {rest : List Oper} {o : Oper} {a : Act} {Q : Exit → Act → World → Prop} (hg : o.guard = none) (s x : Operand) (t : TypeId)
    (ho : o.op = .call { callee := .builtin .append, args := #[s, x], argTypes := #[t, t] })
    (base : Nat) (e : TypeId) (i : TypeInfo) (z : Value) (size bytes : Nat) (ht : P.underlying t = some (.slice e)) (hi : P.info? e = some i) (hz : i.zero = some z)
    (hsize : i.size = size) (hby : i.bytes = bytes) (hzs : z.cells.size = size) (hsz : 0 < size) (hbb : bytes ≤ 64)
    (A : Option Addr) (n c : Nat) (xs : List Value) (hs : a.eval s = .slice A n c) (hown : W.ownsRow base e size (.slice A n c) n xs)
    (b : Nat) (hbW : b < W.heap.size) (hap : (Value.slice A n c).ownBlock ≠ some b)
    (news : List Value) (B : Nat) (hx : a.eval x = .slice (some ⟨B, 0, none⟩) 1 1) (hBs : W.heap.size = B) (hnl : news.length = size) (h1 : ∀ u ∈ news, u.oneCell' = true) (hb : base ≤ W.heap.size) (hn : n ≤ 1099511627776)
    (h : ∀ A' c' w', w'.ownsRow base e size (.slice A' (n + 1) c') (n + 1) (xs ++ news) → Below base W w' → w'.heap[b]? = W.heap[b]? → (Value.slice A' (n + 1) c').ownBlock ≠ some b → wpList P ops Q rest (a.put o.dst (.slice A' (n + 1) c')) w') :
    wpList P ops Q (o :: rest) a (W.alloc (.cells news.toArray e)) := by
  subst hBs
  refine wpList_append_own_at (W.alloc (.cells news.toArray e)) hg s x t ho base e i z size bytes ht hi hz hsize hby hzs hsz (.slice A n c) n xs hs (hown.alloc _) ⟨W.heap.size, 0, none⟩ 1 1 news hx (by omega) ?_ h1 (by unfold maxLen; omega) ?_ (by simp; omega) ?_
  · intro j u hu
    have h2 := World.news_of_block (cs := news.toArray) (t := e) (fr := (0, 0)) (heap_alloc_new W (.cells news.toArray e)) j u (by simpa using hu)
    exact h2
  · have : (n + 1) * bytes ≤ 1099511627777 * 64 := Nat.mul_le_mul (by omega) hbb
    omega
  · intro v' w' hown' hgr _ hat
    obtain ⟨g, cap, hv, hbg, hgl⟩ := hown'.form (by omega)
    subst hv
    refine h _ _ w' hown' ((Below.alloc (Below.refl base W) hb _).grown hgr (by simp; omega) (fun k hk => (hown.lt k hk).1)) ?_ ?_
    · exact (hgr.block b (by simp; omega) (fun e => hap e.symm)).trans (((Below.refl W.heap.size W).alloc (Nat.le_refl _) _).block b hbW)
    · intro he
      rcases hat with h2 | h2
      · exact hap (h2.symm.trans he)
      · have := Option.some.inj (h2.symm.trans he)
        simp at this
        omega

end Go.Proofs.YtgpimlmolcjeoaaGreatDoor
