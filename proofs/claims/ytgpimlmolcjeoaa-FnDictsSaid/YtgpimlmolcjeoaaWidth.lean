/-
  Contracts of WidthOf, in the program and in the reference.
-/
import Derived.Test.YtgpimlmolcjeoaaArith
import Derived.Test.YtgpimlmolcjeoaaOwned
import Derived.Test.YtgpimlmolcjeoaaShelf
namespace Go.Proofs.Ytgpimlmolcjeoaa
open Go.RowKit
set_option linter.unusedVariables false

def widthOf (n : Int) : Int := if inB n 1 2147483647 then (Lib.bitLen n.toNat : Int) else 0
theorem bitLen_zero : Lib.bitLen 0 = 0 := by decide
theorem bitLen_le (f : Nat) : ∀ x, Lib.bitLenAux f x ≤ f := by
  induction f with
  | zero => intro x; simp [Lib.bitLenAux]
  | succ f ih => intro x; unfold Lib.bitLenAux; split <;> have := ih (x / 2) <;> omega
theorem bitLen_le31 (x : Nat) (h : x < 2147483648) : Lib.bitLen x ≤ 31 := by
  unfold Lib.bitLen
  rw [Lib.bitLenAux_fuel 31 x (by simpa using h) 64 (by omega)]
  exact bitLen_le 31 x
theorem widthOf_bd (n : Int) : 0 ≤ widthOf n ∧ widthOf n ≤ 31 := by
  unfold widthOf
  split
  · rename_i h
    have := inB_iff.1 h
    have := bitLen_le31 n.toNat (by omega)
    omega
  · omega

theorem impl_WidthOf (w : World) (n : Int) (hn : I64 n) :
    Calls Try.prog 50 #[.int .i64 n] w fun e w' => e = .returned (.int .i64 (widthOf n)) ∧ Below w.heap.size w w' := by
  by_cases hr : 1 ≤ n ∧ n ≤ 2147483647
  · have hB := inB_true hr
    obtain ⟨h1, h2⟩ := hr
    go_enter Try.func50, Try.ntmps50
    go_wp2_with (go_at_call 59; refine (within_any _ _ _ _).mono ?_; rintro e w' ⟨rfl, rfl⟩)
    refine (Try.bits_Len _ _ (by omega) (by omega)).mono ?_
    rintro e w' ⟨rfl, hw'⟩
    subst hw'
    go_wp2
    go_ret
    exact ⟨ret_int (by unfold widthOf; rw [hB]; rfl), Below.refl _ _⟩
  · have hB := inB_false hr
    clear hr
    go_enter Try.func50, Try.ntmps50
    go_wp2_with (go_at_call 59; refine (within_any _ _ _ _).mono ?_; rintro e w' ⟨rfl, rfl⟩)
    go_ret
    exact ⟨ret_int (by unfold widthOf; rw [hB]; rfl), Below.refl _ _⟩

set_option maxHeartbeats 400000 in
theorem spec_WidthOf (w : World) (n : Int) (hn : I64 n) :
    Calls Try.prog 57 #[.int .i64 n] w fun e w' => e = .returned (.int .i64 (widthOf n)) ∧ Below w.heap.size w w' := by
  by_cases hr : 0 ≤ n ∧ n ≤ 2147483647
  · have hB := inB_true hr
    obtain ⟨h1, h2⟩ := hr
    obtain ⟨m, rfl⟩ := Int.eq_ofNat_of_zero_le h1
    have hwid : Hid (widthOf (m : Int) = (Lib.bitLen m : Int)) := by
      show widthOf (m : Int) = (Lib.bitLen m : Int)
      unfold widthOf
      by_cases h0 : m = 0
      · subst h0; rfl
      · rw [inB_true (by omega)]; simp
    have hm31 := bitLen_le31 m (by omega)
    go_enter Try.func57, Try.ntmps57
    go_wp2_with (go_at_call 71; refine (l1In_any _ _ _ _).mono ?_; rintro e w' ⟨rfl, rfl⟩)
    go_loopw [3, 4] (fun q x wr => ∃ (a b : Nat), q = .int .i64 a ∧ x = .int .i64 b ∧ a + Lib.bitLen b = Lib.bitLen m ∧ b ≤ 2147483647 ∧ Below w.heap.size w wr) (fun _ x _ => (intOf x).toNat)
    case atStart => exact ⟨0, m, rfl, rfl, by omega, by omega, Below.refl _ _⟩
    case round =>
      obtain ⟨a, b, rfl, rfl, hab, hb, hbl⟩ := hrel
      have hle : a ≤ 31 := by omega
      have HAB := Lib.hid hab
      clear hab
      by_cases hlt : 0 < b
      · have hstep := Lib.hid (Lib.bitLen_half b (by omega) (by omega))
        go_wp2
        go_roundw
        case rel => exact ⟨a + 1, b / 2, by go_num, by go_num, by have := HAB.out; have := hstep.out; omega, by omega, hbl⟩
        case measure => simp [intOf]; omega
      · have hb0 : b = 0 := by omega
        subst hb0
        have hfin : Hid (widthOf (m : Int) = (a : Int)) := by
          have h1 := hwid.out
          have h2 := HAB.out
          rw [bitLen_zero] at h2
          show widthOf (m : Int) = (a : Int)
          omega
        go_wp2
        go_ret
        exact ⟨ret_int hfin.out.symm, hbl⟩
  · have hB := inB_false hr
    have hw0 : Hid (widthOf n = 0) := by
      show widthOf n = 0
      unfold widthOf
      rw [inB_false (by omega)]; rfl
    clear hr
    go_enter Try.func57, Try.ntmps57
    go_wp2_with (go_at_call 71; refine (l1In_any _ _ _ _).mono ?_; rintro e w' ⟨rfl, rfl⟩)
    go_ret
    exact ⟨ret_int hw0.out.symm, Below.refl _ _⟩

end Go.Proofs.Ytgpimlmolcjeoaa
