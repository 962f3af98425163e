/-
  Contracts of the draws' helpers: a number below another, one of a list, bytes, numbers.
-/
import Derived.Test.YtgpimlmolcjeoaaGreatDoorCur
import Derived.Test.YtgpimlmolcjeoaaGreatDoorPut
namespace Go.Proofs.YtgpimlmolcjeoaaGreatDoor
open Go.RowKit
set_option linter.unusedVariables false
set_option maxRecDepth 100000

theorem grown_alloc (w : World) (o : Obj) (row : Option Nat) : w.grownBy (w.alloc o) row := Below.to_grown ((Below.refl w.heap.size w).alloc (Nat.le_refl _) o) row
theorem Cur.alloc {w : World} {p : Nat} (hc : Cur w p) (o : Obj) : Cur (w.alloc o) p := hc.below ((Below.refl w.heap.size w).alloc (Nat.le_refl _) o)
theorem Cur.lt {w : World} {p : Nat} (hc : Cur w p) : p < w.heap.size := by
  obtain ⟨A, c, bs, i, h, hc⟩ := hc
  exact hc.lt
theorem l1Below_any (w : World) (p : Nat) (hc : Cur w p) (n : Nat) (h1 : 1 ≤ n) (h2 : n ≤ 1099511627776) :
    Calls Tryz.prog 28 #[.pointer (some ⟨p, 0, none⟩), .int .i64 (n : Int)] w fun e w' => ∃ x : Nat, e = .returned (.int .i64 (x : Int)) ∧ x < n ∧ Cur w' p ∧ w.grownBy w' (some p) := by
  by_cases h256 : n ≤ 256
  · go_enter Tryz.func28, Tryz.ntmps28
    go_wp2_with fail
    refine (l1Byte_any _ p hc).mono ?_
    rintro e w1 ⟨x, rfl, hx, hc1, hg1⟩
    go_wp2
    go_ret
    exact ⟨x % n, ret_int (by simp), Nat.mod_lt _ (by omega), hc1, hg1⟩
  · go_enter Tryz.func28, Tryz.ntmps28
    go_wp2_with fail
    refine (l1Byte_any _ p hc).mono ?_
    rintro e w1 ⟨x, rfl, hx, hc1, hg1⟩
    go_wp2_with fail
    refine (l1Byte_any _ p hc1).mono ?_
    rintro e w2 ⟨y, rfl, hy, hc2, hg2⟩
    go_wp2_with fail
    refine (l1Byte_any _ p hc2).mono ?_
    rintro e w3 ⟨z, rfl, hz, hc3, hg3⟩
    go_wp2
    go_ret
    exact ⟨(x * 65536 + y * 256 + z) % n, ret_int (by simp), Nat.mod_lt _ (by omega), hc3, (hg1.trans hg2).trans hg3⟩
theorem l1Once_any (w : World) (p : Nat) (hc : Cur w p) (n : Nat) (h1 : 1 ≤ n) (h2 : n ≤ 1099511627776) :
    Calls Tryz.prog 31 #[.pointer (some ⟨p, 0, none⟩), .int .i64 (n : Int)] w fun e w' => ∃ b : Bool, e = .returned (.bool b) ∧ Cur w' p ∧ w.grownBy w' (some p) := by
  go_enter Tryz.func31, Tryz.ntmps31
  go_wp2_with fail
  refine (l1Below_any _ p hc n h1 h2).mono ?_
  rintro e w1 ⟨x, rfl, hx, hc1, hg1⟩
  go_wp2
  go_ret
  exact ⟨_, rfl, hc1, hg1⟩
theorem l1Int_any (w : World) (p : Nat) (hc : Cur w p) (b n c : Nat) (xs : List Int) (hl : xs.length = n) (h1 : 1 ≤ n) (h2 : n ≤ 1099511627776) (hb : b ≠ p) (hx : ∀ j x, xs[j]? = some x → w.cell? ⟨b, j, none⟩ = some (.int .i64 x)) :
    Calls Tryz.prog 51 #[.pointer (some ⟨p, 0, none⟩), .slice (some ⟨b, 0, none⟩) n c] w fun e w' => ∃ x : Int, e = .returned (.int .i64 x) ∧ x ∈ xs ∧ Cur w' p ∧ w.grownBy w' (some p) := by
  have HL := Lib.hid hl
  clear hl
  go_enter Tryz.func51, Tryz.ntmps51
  go_wp2_with fail
  refine (l1Below_any _ p hc n h1 h2).mono ?_
  rintro e w1 ⟨k, rfl, hk, hc1, hg1⟩
  have hkx : k < xs.length := by rw [HL.out]; exact hk
  have hd : w1.cell? ⟨b, k, none⟩ = some (.int .i64 xs[k]) := hg1.cell (hx k _ (List.getElem?_eq_getElem hkx)) (fun e => hb (Option.some.inj e))
  have hm : xs[k] ∈ xs := List.getElem_mem hkx
  obtain ⟨x, hxe⟩ : ∃ x, x = xs[k] := ⟨_, rfl⟩
  rw [← hxe] at hd hm
  clear hxe hkx
  go_wp2
  go_ret
  exact ⟨x, rfl, hm, hc1, hg1⟩
theorem lit_cells (w : World) (t : TypeId) (xs : List Int) : ∀ j x, xs[j]? = some x → (w.alloc (.cells (intCells xs).toArray t)).cell? ⟨w.heap.size, j, none⟩ = some (.int .i64 x) := by
  intro j x hj
  have h := World.news_of_block (cs := (intCells xs).toArray) (t := t) (fr := (0, 0)) (heap_alloc_new w (.cells (intCells xs).toArray t)) j (.int .i64 x) (by simp [intCells, hj])
  simpa [add_form] using h
theorem l1Int_lit (w : World) (p : Nat) (hc : Cur w p) (t : TypeId) (n : Nat) (xs : List Int) (hl : xs.length = n) (h1 : 1 ≤ n) (h2 : n ≤ 1099511627776) (hI : ∀ x ∈ xs, I64 x) :
    Calls Tryz.prog 51 #[.pointer (some ⟨p, 0, none⟩), .slice (some ⟨w.heap.size, 0, none⟩) n n] (w.alloc (.cells (intCells xs).toArray t)) fun e w' => ∃ x : Int, e = .returned (.int .i64 x) ∧ I64 x ∧ Cur w' p ∧ w.grownBy w' (some p) := by
  refine (l1Int_any _ p (hc.alloc _) w.heap.size n n xs hl h1 h2 (Nat.ne_of_gt hc.lt) (lit_cells w t xs)).mono ?_
  rintro e w1 ⟨x, rfl, hm, hc1, hg1⟩
  exact ⟨x, rfl, hI x hm, hc1, (grown_alloc w _ _).trans hg1⟩
def oddL : List Int := [-1, 0, 1, 2, 255, 256, 65535, 2147483647, 2147483648, 4294967295, 4294967296, -2147483648, 9223372036854775807, -9223372036854775808]
theorem l1Odd_any (w : World) (p : Nat) (hc : Cur w p) :
    Calls Tryz.prog 76 #[.pointer (some ⟨p, 0, none⟩)] w fun e w' => ∃ x : Int, e = .returned (.int .i64 x) ∧ I64 x ∧ Cur w' p ∧ w.grownBy w' (some p) := by
  go_enter Tryz.func76, Tryz.ntmps76
  go_wp2_with fail
  refine (l1Int_lit w p hc 3 14 oddL rfl (by omega) (by omega) (by simp [oddL, I64])).mono ?_
  rintro e w1 ⟨x, rfl, hx, hc1, hg1⟩
  go_wp2
  go_ret
  exact ⟨x, rfl, hx, hc1, hg1⟩
def rawL : List Int := [1000000001, -1000000001, 2000000000, 2000000001, 0, -1]
theorem l1Raw_any (w : World) (p : Nat) (hc : Cur w p) :
    Calls Tryz.prog 66 #[.pointer (some ⟨p, 0, none⟩)] w fun e w' => ∃ x : Int, e = .returned (.int .i64 x) ∧ I64 x ∧ Cur w' p ∧ w.grownBy w' (some p) := by
  go_enter Tryz.func66, Tryz.ntmps66
  go_wp2_with fail
  refine (l1Once_any _ p hc 3 (by omega) (by omega)).mono ?_
  rintro e w1 ⟨b, rfl, hc1, hg1⟩
  cases b
  · go_wp2_with fail
    refine (l1Int_lit w1 p hc1 3 6 rawL rfl (by omega) (by omega) (by simp [rawL, I64])).mono ?_
    rintro e w2 ⟨x, rfl, hx, hc2, hg2⟩
    go_wp2
    go_ret
    exact ⟨x, rfl, hx, hc2, hg1.trans hg2⟩
  · go_wp2_with fail
    refine (l1Odd_any w1 p hc1).mono ?_
    rintro e w2 ⟨x, rfl, hx, hc2, hg2⟩
    go_wp2
    go_ret
    exact ⟨x, rfl, hx, hc2, hg1.trans hg2⟩
def numL : List Int := [0, -1, 1, 63, 64, -64, -65, 8191, 8192, 1000000000, -1000000000, 999999999]
theorem mul_I64 {x y : Nat} (hx : x < 30000) (hy : y < 30000) : I64 ((x : Int) * ((y : Int) - 15000)) := by
  have h1 : (x : Int) * ((y : Int) - 15000) ≤ (x : Int) * 15000 := Int.mul_le_mul_of_nonneg_left (by omega) (by omega)
  have h2 : (x : Int) * (-15000) ≤ (x : Int) * ((y : Int) - 15000) := Int.mul_le_mul_of_nonneg_left (by omega) (by omega)
  exact ⟨by omega, by omega⟩
set_option maxHeartbeats 800000 in
theorem l1Num_any (w : World) (p : Nat) (hc : Cur w p) :
    Calls Tryz.prog 67 #[.pointer (some ⟨p, 0, none⟩)] w fun e w' => ∃ x : Int, e = .returned (.int .i64 x) ∧ I64 x ∧ Cur w' p ∧ w.grownBy w' (some p) := by
  go_enter Tryz.func67, Tryz.ntmps67
  go_wp2_with fail
  refine (l1Below_any _ p hc 5 (by omega) (by omega)).mono ?_
  rintro e w1 ⟨k, rfl, hk, hc1, hg1⟩
  rcases (show k = 0 ∨ k = 1 ∨ k = 2 ∨ (k ≠ 0 ∧ k ≠ 1 ∧ k ≠ 2) by omega) with rfl | rfl | rfl | ⟨k0, k1, k2⟩
  · go_wp2_with fail
    refine (l1Below_any _ p hc1 300 (by omega) (by omega)).mono ?_
    rintro e w2 ⟨x, rfl, hx, hc2, hg2⟩
    go_wp2
    go_ret
    exact ⟨_, rfl, ⟨by omega, by omega⟩, hc2, hg1.trans hg2⟩
  · go_wp2_with fail
    refine (l1Int_lit w1 p hc1 3 12 numL rfl (by omega) (by omega) (by simp [numL, I64])).mono ?_
    rintro e w2 ⟨x, rfl, hx, hc2, hg2⟩
    go_wp2
    go_ret
    exact ⟨x, rfl, hx, hc2, hg1.trans hg2⟩
  · go_wp2_with fail
    refine (l1Below_any _ p hc1 30000 (by omega) (by omega)).mono ?_
    rintro e w2 ⟨x, rfl, hx, hc2, hg2⟩
    go_wp2_with fail
    refine (l1Below_any _ p hc2 30000 (by omega) (by omega)).mono ?_
    rintro e w3 ⟨y, rfl, hy, hc3, hg3⟩
    go_wp2
    go_ret
    exact ⟨_, rfl, by first | exact wrap64_I64 _ | exact mul_I64 hx hy, hc3, (hg1.trans hg2).trans hg3⟩
  · have b0 : ((k : Int) == 0) = false := by simp; omega
    have b1 : ((k : Int) == 1) = false := by simp; omega
    have b2 : ((k : Int) == 2) = false := by simp; omega
    clear k0 k1 k2
    go_wp2_with fail
    refine (l1Below_any _ p hc1 20 (by omega) (by omega)).mono ?_
    rintro e w2 ⟨x, rfl, hx, hc2, hg2⟩
    go_wp2
    go_ret
    exact ⟨_, rfl, ⟨by omega, by omega⟩, hc2, hg1.trans hg2⟩

end Go.Proofs.YtgpimlmolcjeoaaGreatDoor
