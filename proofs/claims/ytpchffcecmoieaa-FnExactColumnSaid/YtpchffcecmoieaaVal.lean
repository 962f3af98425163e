/-
  Contracts of the laws' helpers on values: toVal copies, szVal counts letters, eqVal compares.
-/
import Derived.Test.YtpchffcecmoieaaFlat
import Derived.Test.YtpchffcecmoieaaArith
import Derived.Test.YtpchffcecmoieaaOwned
namespace Go.Proofs.Ytpchffcecmoieaa
open Go.RowKit
set_option linter.unusedVariables false
set_option maxRecDepth 100000

def AllTo {α : Type} (p : α → Bool) (xs : List α) (k : Nat) : Prop := ∀ j x, j < k → xs[j]? = some x → p x = true
theorem AllTo.zero {α : Type} (p : α → Bool) (xs : List α) : AllTo p xs 0 := fun j x h => absurd h (by omega)
theorem AllTo.succ {α : Type} {p : α → Bool} {xs : List α} {k : Nat} {x : α} (h : AllTo p xs k) (hx : xs[k]? = some x) (hp : p x = true) : AllTo p xs (k + 1) := by
  intro j y hj hy
  by_cases e : j = k
  · subst e
    rw [hx] at hy
    injection hy with hy
    exact hy ▸ hp
  · exact h j y (by omega) hy
theorem AllTo.all {α : Type} {p : α → Bool} {xs : List α} (h : AllTo p xs xs.length) : xs.all p = true := by
  rw [List.all_eq_true]
  intro x hx
  obtain ⟨i, hi, rfl⟩ := List.getElem_of_mem hx
  exact h i _ hi (List.getElem?_eq_getElem hi)
theorem all_false {α : Type} {p : α → Bool} {xs : List α} {k : Nat} {x : α} (hx : xs[k]? = some x) (hp : p x = false) : xs.all p = false := by
  rw [List.all_eq_false]
  exact ⟨x, List.mem_of_getElem? hx, by simp [hp]⟩

theorem toVal_any (w : World) (v : V) :
    Calls Try.prog 22 #[v.val] w fun e w' => e = .returned (.agg #[.int .i64 v.ty, .int .i64 v.n, .string v.s]) ∧ Below w.heap.size w w' := by
  obtain ⟨ty, n, s⟩ := v
  show Calls Try.prog 22 #[.agg #[.int .i64 ty, .int .i64 n, .string s]] w fun e w' => e = .returned (.agg #[.int .i64 ty, .int .i64 n, .string s]) ∧ Below w.heap.size w w'
  go_enter Try.func22, Try.ntmps22
  go_wp2
  exact bodyPost_ret (v := .agg #[.int .i64 ty, .int .i64 n, .string s]) (by simp [results, Try.results22, go_sem]) rfl ⟨rfl, by
      (repeat (first | exact Below.refl _ _ | refine Below.alloc0 ?_ _ | refine Below.setCell ?_ ?_ _)) <;> first | (simp; done) | (simp; omega)⟩

theorem toVal_agg (w : World) (ty n : Int) (s : ByteArray) :
    Calls Try.prog 22 #[.agg #[.int .i64 ty, .int .i64 n, .string s]] w fun e w' => e = .returned (.agg #[.int .i64 ty, .int .i64 n, .string s]) ∧ Below w.heap.size w w' := toVal_any w ⟨ty, n, s⟩

theorem szVal_any (w : World) (v : V) (hv : v.ok) (left : Int) (h0 : 0 ≤ left) (h1 : left ≤ 1048576) :
    Calls Try.prog 21 #[v.val, .int .i64 left] w fun e w' => e = .returned (.int .i64 (if left - v.s.size < 0 then -1 else left - v.s.size)) ∧ Below w.heap.size w w' := by
  obtain ⟨ty, n, s⟩ := v
  obtain ⟨_, _, hs⟩ := hv
  unfold maxLen at hs
  dsimp only at hs ⊢
  show Calls Try.prog 21 #[.agg #[.int .i64 ty, .int .i64 n, .string s], .int .i64 left] w _
  by_cases hlt : left - s.size < 0
  all_goals
    go_enter Try.func21, Try.ntmps21
    go_wp2
    go_ret
    exact ⟨ret_int (by first | rfl | (split <;> omega)), (Below.refl _ _).alloc (Nat.le_refl _) _⟩






end Go.Proofs.Ytpchffcecmoieaa
