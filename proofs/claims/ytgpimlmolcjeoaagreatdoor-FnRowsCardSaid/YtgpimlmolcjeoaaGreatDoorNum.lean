/-
  Contracts of the small functions on integers: ranges, ZigZag, ZagZig, Least, Most, BytesFor, in the program and in the reference.
-/
import Derived.Test.YtgpimlmolcjeoaaGreatDoorBase
namespace Go.Proofs.YtgpimlmolcjeoaaGreatDoor
open Go.RowKit

theorem ret_int {k : IntKind} {a b : Int} (h : a = b) : Ending.returned (.int k a) = .returned (.int k b) := by rw [h]
theorem ret_val {a b : Value} (h : a = b) : Ending.returned a = .returned b := by rw [h]
theorem ret_bool {a b : Bool} (h : a = b) : Ending.returned (.bool a) = .returned (.bool b) := by rw [h]
theorem zag_odd {n : Int} (h1 : 0 ≤ n) (h2 : n ≤ 2000000000) : wrap64 (-(n + 1).tdiv 2) = -((n + 1) / 2) := by
  rw [Int.tdiv_eq_ediv_of_nonneg (by omega)]
  exact IntWalk.wrap64_in _ ⟨by omega, by omega⟩

def inB (n lo hi : Int) : Bool := decide (lo ≤ n ∧ n ≤ hi)
theorem inB_true {n lo hi : Int} (h : lo ≤ n ∧ n ≤ hi) : inB n lo hi = true := by simp [inB, h]
theorem inB_false {n lo hi : Int} (h : ¬ (lo ≤ n ∧ n ≤ hi)) : inB n lo hi = false := by simp only [inB, h, decide_false]
theorem inB_iff {n lo hi : Int} : inB n lo hi = true ↔ lo ≤ n ∧ n ≤ hi := by simp [inB]
theorem inB_not {n lo hi : Int} : inB n lo hi = false ↔ ¬ (lo ≤ n ∧ n ≤ hi) := by simp [inB]

theorem within_any (w : World) (n lo hi : Int) :
    Calls Tryz.prog 42 #[.int .i64 n, .int .i64 lo, .int .i64 hi] w fun e w' => e = .returned (.bool (inB n lo hi)) ∧ w = w' := by
  by_cases h1 : lo ≤ n <;> by_cases h2 : n ≤ hi
  all_goals
    go_enter Tryz.func42, Tryz.ntmps42
    go_wp2
    go_ret
    exact ⟨by simp [inB, h1, h2], rfl⟩

theorem l1In_any (w : World) (n lo hi : Int) :
    Calls Tryz.prog 43 #[.int .i64 n, .int .i64 lo, .int .i64 hi] w fun e w' => e = .returned (.bool (inB n lo hi)) ∧ w = w' := by
  by_cases h1 : lo ≤ n <;> by_cases h2 : n ≤ hi
  all_goals
    go_enter Tryz.func43, Tryz.ntmps43
    go_wp2
    go_ret
    exact ⟨by simp [inB, h1, h2], rfl⟩

theorem isNum_any (w : World) (n : Int) :
    Calls Tryz.prog 58 #[.int .i64 n] w fun e w' => e = .returned (.bool (inB n (-1000000000) 1000000000)) ∧ w = w' := by
  go_enter Tryz.func58, Tryz.ntmps58
  go_wp2_with (go_at_call 42; refine (within_any _ _ _ _).mono ?_; rintro e w' ⟨rfl, rfl⟩)
  go_ret
  exact ⟨rfl, rfl⟩

theorem l1Right_any (w : World) (n : Int) :
    Calls Tryz.prog 59 #[.int .i64 n] w fun e w' => e = .returned (.bool (inB n (-1000000000) 1000000000)) ∧ w = w' := by
  go_enter Tryz.func59, Tryz.ntmps59
  go_wp2_with (go_at_call 43; refine (l1In_any _ _ _ _).mono ?_; rintro e w' ⟨rfl, rfl⟩)
  go_ret
  exact ⟨rfl, rfl⟩



def zig (n : Int) : Int := if inB n (-1000000000) 1000000000 then (if n < 0 then -2 * n - 1 else 2 * n) else 0
def zag (n : Int) : Int := if inB n 0 2000000000 then (if n % 2 = 1 then -((n + 1) / 2) else n / 2) else 0



def bytesFor (k w : Int) : Int := if inB k 0 64 && inB w 0 31 then (k * w + 7) / 8 else 0
theorem mul_bd {k w : Int} (h1 : 0 ≤ k) (h2 : k ≤ 64) (h3 : 0 ≤ w) (h4 : w ≤ 31) : 0 ≤ k * w ∧ k * w ≤ 1984 :=
  ⟨Int.mul_nonneg h1 h3, by have := Int.mul_le_mul h2 h4 h3 (by omega); omega⟩







end Go.Proofs.YtgpimlmolcjeoaaGreatDoor
