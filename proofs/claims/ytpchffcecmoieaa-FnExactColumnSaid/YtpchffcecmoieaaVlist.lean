/-
  Contracts of functions on slices of values: NumsOf, TextsOf, SameVals, InDict, Base.
-/
import Derived.Test.YtpchffcecmoieaaAppend
namespace Go.Proofs.Ytpchffcecmoieaa
open Go.RowKit
set_option linter.unusedVariables false
set_option maxRecDepth 100000



def sameVals (a b : List V) : Bool := decide (a = b)
def SameTo (a b : List V) (k : Nat) : Prop := ∀ j, j < k → a[j]? = b[j]?
theorem SameTo.zero (a b : List V) : SameTo a b 0 := fun j h => absurd h (by omega)
theorem SameTo.succ {a b : List V} {k : Nat} {x : V} (h : SameTo a b k) (h1 : a[k]? = some x) (h2 : b[k]? = some x) : SameTo a b (k + 1) := by
  intro j hj
  by_cases e : j = k
  · subst e; rw [h1, h2]
  · exact h j (by omega)
theorem sameVals_end {a b : List V} (hl : a.length = b.length) (h : SameTo a b a.length) : sameVals a b = true := by
  have : a = b := by
    apply List.ext_getElem?
    intro j
    by_cases hj : j < a.length
    · exact h j hj
    · rw [List.getElem?_eq_none (by omega), List.getElem?_eq_none (by omega)]
  simp [sameVals, this]
theorem sameVals_bad {a b : List V} {k : Nat} {x y : V} (h1 : a[k]? = some x) (h2 : b[k]? = some y) (h : veq x y = false) : sameVals a b = false := by
  simp only [sameVals, decide_eq_false_iff_not]
  rintro rfl
  rw [h1] at h2
  injection h2 with h2
  rw [h2, veq_self] at h
  cases h
theorem sameVals_len {a b : List V} (h : a.length ≠ b.length) : sameVals a b = false := by
  simp only [sameVals, decide_eq_false_iff_not]
  rintro rfl
  exact h rfl





end Go.Proofs.Ytpchffcecmoieaa
