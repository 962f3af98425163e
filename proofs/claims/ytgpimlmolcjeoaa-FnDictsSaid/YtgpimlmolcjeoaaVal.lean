/-
  Contracts of the laws' helpers on values: toVal copies, szVal counts letters, eqVal compares.
-/
import Derived.Test.YtgpimlmolcjeoaaFlat
import Derived.Test.YtgpimlmolcjeoaaArith
import Derived.Test.YtgpimlmolcjeoaaOwned
namespace Go.Proofs.Ytgpimlmolcjeoaa
open Go.RowKit
set_option linter.unusedVariables false
set_option maxRecDepth 100000

def AllTo {α : Type} (p : α → Bool) (xs : List α) (k : Nat) : Prop := ∀ j x, j < k → xs[j]? = some x → p x = true
theorem AllTo.zero {α : Type} (p : α → Bool) (xs : List α) : AllTo p xs 0 := fun j x h => absurd h (by omega)
theorem AllTo.succ {α : Type} {p : α → Bool} {xs : List α} {k : Nat} {x : α} (h : AllTo p xs k) (hx : xs[k]? = some x) (hp : p x = true) : AllTo p xs (k + 1) := by
  intro j y hj hy
  by_cases e : j = k
  · subst e
    rw [hx] at hy
    injection hy with hy
    exact hy ▸ hp
  · exact h j y (by omega) hy
theorem AllTo.all {α : Type} {p : α → Bool} {xs : List α} (h : AllTo p xs xs.length) : xs.all p = true := by
  rw [List.all_eq_true]
  intro x hx
  obtain ⟨i, hi, rfl⟩ := List.getElem_of_mem hx
  exact h i _ hi (List.getElem?_eq_getElem hi)
theorem all_false {α : Type} {p : α → Bool} {xs : List α} {k : Nat} {x : α} (hx : xs[k]? = some x) (hp : p x = false) : xs.all p = false := by
  rw [List.all_eq_false]
  exact ⟨x, List.mem_of_getElem? hx, by simp [hp]⟩




def lessV (a b : V) : Bool := if a.ty ≠ b.ty then decide (a.ty < b.ty) else if a.n ≠ b.n then decide (a.n < b.n) else Op.bytesLess a.s.toList b.s.toList
theorem impl_LessVal (w : World) (a b : V) :
    Calls Try.prog 17 #[a.val, b.val] w fun e w' => e = .returned (.bool (lessV a b)) ∧ Below w.heap.size w w' := by
  obtain ⟨ty, n, s⟩ := a
  obtain ⟨ty', n', s'⟩ := b
  show Calls Try.prog 17 #[.agg #[.int .i64 ty, .int .i64 n, .string s], .agg #[.int .i64 ty', .int .i64 n', .string s']] w _
  by_cases h1 : ty = ty' <;> by_cases h2 : n = n'
  all_goals
    go_enter Try.func17, Try.ntmps17
    go_wp2
    go_ret
    exact ⟨ret_bool (by simp [lessV, h1, h2]), by
      (repeat (first | exact Below.refl _ _ | refine Below.alloc0 ?_ _ | refine Below.setCell ?_ ?_ _)) <;> first | (simp; done) | (simp; omega)⟩

theorem spec_LessVal (w : World) (a b : V) :
    Calls Try.prog 58 #[a.val, b.val] w fun e w' => e = .returned (.bool (lessV a b)) ∧ Below w.heap.size w w' := by
  obtain ⟨ty, n, s⟩ := a
  obtain ⟨ty', n', s'⟩ := b
  show Calls Try.prog 58 #[.agg #[.int .i64 ty, .int .i64 n, .string s], .agg #[.int .i64 ty', .int .i64 n', .string s']] w _
  by_cases h1 : ty = ty' <;> by_cases h2 : n = n'
  all_goals
    go_enter Try.func58, Try.ntmps58
    go_wp2
    go_ret
    exact ⟨ret_bool (by simp [lessV, h1, h2]), by
      (repeat (first | exact Below.refl _ _ | refine Below.alloc0 ?_ _ | refine Below.setCell ?_ ?_ _)) <;> first | (simp; done) | (simp; omega)⟩




end Go.Proofs.Ytgpimlmolcjeoaa
