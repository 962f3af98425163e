/-
  Contracts of the small functions on integers: ranges, ZigZag, ZagZig, Least, Most, BytesFor, in the program and in the reference.
-/
import Derived.Test.YtgpimlmolcjeoaaBase
namespace Go.Proofs.Ytgpimlmolcjeoaa
open Go.RowKit

theorem ret_int {k : IntKind} {a b : Int} (h : a = b) : Ending.returned (.int k a) = .returned (.int k b) := by rw [h]
theorem ret_val {a b : Value} (h : a = b) : Ending.returned a = .returned b := by rw [h]
theorem ret_bool {a b : Bool} (h : a = b) : Ending.returned (.bool a) = .returned (.bool b) := by rw [h]
theorem zag_odd {n : Int} (h1 : 0 ≤ n) (h2 : n ≤ 2000000000) : wrap64 (-(n + 1).tdiv 2) = -((n + 1) / 2) := by
  rw [Int.tdiv_eq_ediv_of_nonneg (by omega)]
  exact IntWalk.wrap64_in _ ⟨by omega, by omega⟩

def inB (n lo hi : Int) : Bool := decide (lo ≤ n ∧ n ≤ hi)
theorem inB_true {n lo hi : Int} (h : lo ≤ n ∧ n ≤ hi) : inB n lo hi = true := by simp [inB, h]
theorem inB_false {n lo hi : Int} (h : ¬ (lo ≤ n ∧ n ≤ hi)) : inB n lo hi = false := by simp only [inB, h, decide_false]
theorem inB_iff {n lo hi : Int} : inB n lo hi = true ↔ lo ≤ n ∧ n ≤ hi := by simp [inB]
theorem inB_not {n lo hi : Int} : inB n lo hi = false ↔ ¬ (lo ≤ n ∧ n ≤ hi) := by simp [inB]

theorem within_any (w : World) (n lo hi : Int) :
    Calls Try.prog 59 #[.int .i64 n, .int .i64 lo, .int .i64 hi] w fun e w' => e = .returned (.bool (inB n lo hi)) ∧ w = w' := by
  by_cases h1 : lo ≤ n <;> by_cases h2 : n ≤ hi
  all_goals
    go_enter Try.func59, Try.ntmps59
    go_wp2
    go_ret
    exact ⟨by simp [inB, h1, h2], rfl⟩

theorem l1In_any (w : World) (n lo hi : Int) :
    Calls Try.prog 71 #[.int .i64 n, .int .i64 lo, .int .i64 hi] w fun e w' => e = .returned (.bool (inB n lo hi)) ∧ w = w' := by
  by_cases h1 : lo ≤ n <;> by_cases h2 : n ≤ hi
  all_goals
    go_enter Try.func71, Try.ntmps71
    go_wp2
    go_ret
    exact ⟨by simp [inB, h1, h2], rfl⟩

theorem isNum_any (w : World) (n : Int) :
    Calls Try.prog 83 #[.int .i64 n] w fun e w' => e = .returned (.bool (inB n (-1000000000) 1000000000)) ∧ w = w' := by
  go_enter Try.func83, Try.ntmps83
  go_wp2_with (go_at_call 59; refine (within_any _ _ _ _).mono ?_; rintro e w' ⟨rfl, rfl⟩)
  go_ret
  exact ⟨rfl, rfl⟩

theorem l1Right_any (w : World) (n : Int) :
    Calls Try.prog 87 #[.int .i64 n] w fun e w' => e = .returned (.bool (inB n (-1000000000) 1000000000)) ∧ w = w' := by
  go_enter Try.func87, Try.ntmps87
  go_wp2_with (go_at_call 71; refine (l1In_any _ _ _ _).mono ?_; rintro e w' ⟨rfl, rfl⟩)
  go_ret
  exact ⟨rfl, rfl⟩



def zig (n : Int) : Int := if inB n (-1000000000) 1000000000 then (if n < 0 then -2 * n - 1 else 2 * n) else 0
def zag (n : Int) : Int := if inB n 0 2000000000 then (if n % 2 = 1 then -((n + 1) / 2) else n / 2) else 0

theorem impl_ZigZag (w : World) (n : Int) :
    Calls Try.prog 84 #[.int .i64 n] w fun e w' => e = .returned (.int .i64 (zig n)) ∧ w = w' := by
  by_cases hr : -1000000000 ≤ n ∧ n ≤ 1000000000
  · have hB := inB_true hr
    have hr1 := hr.1
    have hr2 := hr.2
    clear hr
    by_cases hn : n < 0
    all_goals
      go_enter Try.func84, Try.ntmps84
      go_wp2_with (go_at_call 83; refine (isNum_any _ _).mono ?_; rintro e w' ⟨rfl, rfl⟩)
      go_ret
      exact ⟨ret_int (by unfold zig; rw [hB]; simp only [if_true]; split <;> omega), rfl⟩
  · have hB := inB_false hr
    clear hr
    go_enter Try.func84, Try.ntmps84
    go_wp2_with (go_at_call 83; refine (isNum_any _ _).mono ?_; rintro e w' ⟨rfl, rfl⟩)
    go_ret
    exact ⟨by simp [zig, hB], rfl⟩

theorem impl_ZagZig (w : World) (n : Int) :
    Calls Try.prog 90 #[.int .i64 n] w fun e w' => e = .returned (.int .i64 (zag n)) ∧ w = w' := by
  by_cases hr : 0 ≤ n ∧ n ≤ 2000000000
  · have hB := inB_true hr
    have hr1 := hr.1
    have hr2 := hr.2
    clear hr
    by_cases hn : n % 2 = 1
    all_goals
      go_enter Try.func90, Try.ntmps90
      go_wp2_with (go_at_call 59; refine (within_any _ _ _ _).mono ?_; rintro e w' ⟨rfl, rfl⟩)
      go_ret
      exact ⟨ret_int (by unfold zag; rw [hB]; simp only [if_true]; first | (rw [if_pos hn]; exact zag_odd hr1 hr2) | (rw [if_neg hn])), rfl⟩
  · have hB := inB_false hr
    clear hr
    go_enter Try.func90, Try.ntmps90
    go_wp2_with (go_at_call 59; refine (within_any _ _ _ _).mono ?_; rintro e w' ⟨rfl, rfl⟩)
    go_ret
    exact ⟨by simp [zag, hB], rfl⟩

def bytesFor (k w : Int) : Int := if inB k 0 64 && inB w 0 31 then (k * w + 7) / 8 else 0
theorem mul_bd {k w : Int} (h1 : 0 ≤ k) (h2 : k ≤ 64) (h3 : 0 ≤ w) (h4 : w ≤ 31) : 0 ≤ k * w ∧ k * w ≤ 1984 :=
  ⟨Int.mul_nonneg h1 h3, by have := Int.mul_le_mul h2 h4 h3 (by omega); omega⟩

theorem impl_BytesFor (w : World) (k m : Int) :
    Calls Try.prog 91 #[.int .i64 k, .int .i64 m] w fun e w' => e = .returned (.int .i64 (bytesFor k m)) ∧ w = w' := by
  by_cases hk : 0 ≤ k ∧ k ≤ 64
  · have hB := inB_true hk
    by_cases hm : 0 ≤ m ∧ m ≤ 31
    · have hB' := inB_true hm
      obtain ⟨hb1, hb2⟩ := mul_bd hk.1 hk.2 hm.1 hm.2
      clear hk hm
      go_enter Try.func91, Try.ntmps91
      go_wp2_with (go_at_call 59; refine (within_any _ _ _ _).mono ?_; rintro e w' ⟨rfl, rfl⟩)
      go_ret
      exact ⟨by simp [bytesFor, hB, hB'], rfl⟩
    · have hB' := inB_false hm
      clear hk hm
      go_enter Try.func91, Try.ntmps91
      go_wp2_with (go_at_call 59; refine (within_any _ _ _ _).mono ?_; rintro e w' ⟨rfl, rfl⟩)
      go_ret
      exact ⟨by simp [bytesFor, hB'], rfl⟩
  · have hB := inB_false hk
    clear hk
    go_enter Try.func91, Try.ntmps91
    go_wp2_with (go_at_call 59; refine (within_any _ _ _ _).mono ?_; rintro e w' ⟨rfl, rfl⟩)
    go_ret
    exact ⟨by simp [bytesFor, hB], rfl⟩


theorem spec_Most (w : World) (a b : Int) :
    Calls Try.prog 66 #[.int .i64 a, .int .i64 b] w fun e w' => e = .returned (.int .i64 (max a b)) ∧ w = w' := by
  rcases Int.lt_trichotomy a b with h | h | h
  all_goals
    go_enter Try.func66, Try.ntmps66
    go_wp2
    go_ret
    exact ⟨ret_int (by omega), rfl⟩

theorem spec_ZigZag (w : World) (n : Int) :
    Calls Try.prog 88 #[.int .i64 n] w fun e w' => e = .returned (.int .i64 (zig n)) ∧ w = w' := by
  by_cases hr : -1000000000 ≤ n ∧ n ≤ 1000000000
  · have hB := inB_true hr
    have hr1 := hr.1
    have hr2 := hr.2
    clear hr
    by_cases hn : n < 0
    all_goals
      go_enter Try.func88, Try.ntmps88
      go_wp2_with (go_at_call 87; refine (l1Right_any _ _).mono ?_; rintro e w' ⟨rfl, rfl⟩)
      go_ret
      exact ⟨ret_int (by unfold zig; rw [hB]; simp only [if_true]; split <;> omega), rfl⟩
  · have hB := inB_false hr
    clear hr
    go_enter Try.func88, Try.ntmps88
    go_wp2_with (go_at_call 87; refine (l1Right_any _ _).mono ?_; rintro e w' ⟨rfl, rfl⟩)
    go_ret
    exact ⟨by simp [zig, hB], rfl⟩

theorem spec_ZagZig (w : World) (n : Int) :
    Calls Try.prog 98 #[.int .i64 n] w fun e w' => e = .returned (.int .i64 (zag n)) ∧ w = w' := by
  by_cases hr : 0 ≤ n ∧ n ≤ 2000000000
  · have hB := inB_true hr
    have hr1 := hr.1
    have hr2 := hr.2
    clear hr
    by_cases hn : n % 2 = 1
    all_goals
      go_enter Try.func98, Try.ntmps98
      go_wp2_with (go_at_call 71; refine (l1In_any _ _ _ _).mono ?_; rintro e w' ⟨rfl, rfl⟩)
      go_ret
      exact ⟨ret_int (by unfold zag; rw [hB]; simp only [if_true]; first | (rw [if_pos hn]; exact zag_odd hr1 hr2) | (rw [if_neg hn])), rfl⟩
  · have hB := inB_false hr
    clear hr
    go_enter Try.func98, Try.ntmps98
    go_wp2_with (go_at_call 71; refine (l1In_any _ _ _ _).mono ?_; rintro e w' ⟨rfl, rfl⟩)
    go_ret
    exact ⟨by simp [zag, hB], rfl⟩


end Go.Proofs.Ytgpimlmolcjeoaa
