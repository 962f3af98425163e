/-
  Contracts of the laws' helpers on values: toVal copies, szVal counts letters, eqVal compares.
-/
import Derived.Test.YtgpimlmolcjeoabDoorFlat
import Derived.Test.YtgpimlmolcjeoabDoorArith
import Derived.Test.YtgpimlmolcjeoabDoorOwned
namespace Go.Proofs.YtgpimlmolcjeoabDoor
open Go.RowKit
set_option linter.unusedVariables false
set_option maxRecDepth 100000

def AllTo {α : Type} (p : α → Bool) (xs : List α) (k : Nat) : Prop := ∀ j x, j < k → xs[j]? = some x → p x = true
theorem AllTo.zero {α : Type} (p : α → Bool) (xs : List α) : AllTo p xs 0 := fun j x h => absurd h (by omega)
theorem AllTo.succ {α : Type} {p : α → Bool} {xs : List α} {k : Nat} {x : α} (h : AllTo p xs k) (hx : xs[k]? = some x) (hp : p x = true) : AllTo p xs (k + 1) := by
  intro j y hj hy
  by_cases e : j = k
  · subst e
    rw [hx] at hy
    injection hy with hy
    exact hy ▸ hp
  · exact h j y (by omega) hy
theorem AllTo.all {α : Type} {p : α → Bool} {xs : List α} (h : AllTo p xs xs.length) : xs.all p = true := by
  rw [List.all_eq_true]
  intro x hx
  obtain ⟨i, hi, rfl⟩ := List.getElem_of_mem hx
  exact h i _ hi (List.getElem?_eq_getElem hi)
theorem all_false {α : Type} {p : α → Bool} {xs : List α} {k : Nat} {x : α} (hx : xs[k]? = some x) (hp : p x = false) : xs.all p = false := by
  rw [List.all_eq_false]
  exact ⟨x, List.mem_of_getElem? hx, by simp [hp]⟩









end Go.Proofs.YtgpimlmolcjeoabDoor
