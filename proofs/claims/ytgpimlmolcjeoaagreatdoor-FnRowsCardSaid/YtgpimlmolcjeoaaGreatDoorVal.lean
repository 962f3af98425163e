/-
  Contracts of the laws' helpers on values: toVal copies, szVal counts letters, eqVal compares.
-/
import Derived.Test.YtgpimlmolcjeoaaGreatDoorFlat
import Derived.Test.YtgpimlmolcjeoaaGreatDoorArith
import Derived.Test.YtgpimlmolcjeoaaGreatDoorOwned
namespace Go.Proofs.YtgpimlmolcjeoaaGreatDoor
open Go.RowKit
set_option linter.unusedVariables false
set_option maxRecDepth 100000

def AllTo {α : Type} (p : α → Bool) (xs : List α) (k : Nat) : Prop := ∀ j x, j < k → xs[j]? = some x → p x = true
theorem AllTo.zero {α : Type} (p : α → Bool) (xs : List α) : AllTo p xs 0 := fun j x h => absurd h (by omega)
theorem AllTo.succ {α : Type} {p : α → Bool} {xs : List α} {k : Nat} {x : α} (h : AllTo p xs k) (hx : xs[k]? = some x) (hp : p x = true) : AllTo p xs (k + 1) := by
  intro j y hj hy
  by_cases e : j = k
  · subst e
    rw [hx] at hy
    injection hy with hy
    exact hy ▸ hp
  · exact h j y (by omega) hy
theorem AllTo.all {α : Type} {p : α → Bool} {xs : List α} (h : AllTo p xs xs.length) : xs.all p = true := by
  rw [List.all_eq_true]
  intro x hx
  obtain ⟨i, hi, rfl⟩ := List.getElem_of_mem hx
  exact h i _ hi (List.getElem?_eq_getElem hi)
theorem all_false {α : Type} {p : α → Bool} {xs : List α} {k : Nat} {x : α} (hx : xs[k]? = some x) (hp : p x = false) : xs.all p = false := by
  rw [List.all_eq_false]
  exact ⟨x, List.mem_of_getElem? hx, by simp [hp]⟩






def colOk (x : Int) : Bool := decide (x = 1 ∨ x = 2)
def colsOk (xs : List Int) : Bool := xs.all colOk && inB xs.length 1 3
theorem colsOk_false {xs : List Int} {k : Nat} {x : Int} (hx : xs[k]? = some x) (h1 : x ≠ 1) (h2 : x ≠ 2) : false = colsOk xs := by
  unfold colsOk
  rw [all_false hx (by simp [colOk, h1, h2])]
  rfl

set_option maxHeartbeats 400000 in
theorem impl_ColsOk (w : World) (A : Option Addr) (c : Nat) (xs : List Int) (hr : Reads w w.heap.size 1 A xs.length (intCells xs)) (hl : xs.length ≤ 1099511627776) (hi : ∀ x ∈ xs, I64 x) :
    Calls Tryz.prog 18 #[.slice A xs.length c] w fun e w' => e = .returned (.bool (colsOk xs)) ∧ Below w.heap.size w w' := by
  clear hi
  go_enter Tryz.func18, Tryz.ntmps18
  go_wp2
  go_loopw [7] (fun i wr => ∃ k : Nat, k ≤ xs.length ∧ i = .int .i64 k ∧ AllTo colOk xs k ∧ Below w.heap.size w wr) (fun i _ => xs.length - (intOf i).toNat)
  case atStart => exact ⟨0, Nat.zero_le _, rfl, AllTo.zero _ _, Below.refl _ _⟩
  case round =>
    obtain ⟨k, hk, rfl, hall, hbl⟩ := hrel
    by_cases hlt : k < xs.length
    · obtain ⟨b, off, x, rfl, hb, hx, hc⟩ := hr.int hlt
      have hrd : wr.cell? ⟨b, off + k, none⟩ = some (.int .i64 x) := (hbl.cell (p := ⟨b, off + k, none⟩) hb).trans hc
      clear hr hc
      by_cases h1 : x = 1
      · subst h1
        go_wp2
        go_roundw
        case rel => exact ⟨k + 1, by omega, by go_num, hall.succ hx.out rfl, hbl⟩
        case measure => simp [intOf]; omega
      by_cases h2 : x = 2
      · subst h2
        go_wp2
        go_roundw
        case rel => exact ⟨k + 1, by omega, by go_num, hall.succ hx.out rfl, hbl⟩
        case measure => simp [intOf]; omega
      · have e1 : (x != 1) = true := by simpa using h1
        have e2 : (x != 2) = true := by simpa using h2
        go_wp2
        go_ret
        exact ⟨ret_bool (colsOk_false hx.out h1 h2), hbl⟩
    · have hkn : k = xs.length := by omega
      subst hkn
      go_wp2_with (go_at_call 42; refine (within_any _ _ _ _).mono ?_; rintro e w' ⟨rfl, rfl⟩)
      go_ret
      exact ⟨ret_bool (by unfold colsOk; rw [hall.all]; rfl), hbl⟩

set_option maxHeartbeats 400000 in
theorem spec_ColsOk (w : World) (A : Option Addr) (c : Nat) (xs : List Int) (hr : Reads w w.heap.size 1 A xs.length (intCells xs)) (hl : xs.length ≤ 1099511627776) (hi : ∀ x ∈ xs, I64 x) :
    Calls Tryz.prog 19 #[.slice A xs.length c] w fun e w' => e = .returned (.bool (colsOk xs)) ∧ Below w.heap.size w w' := by
  clear hi
  go_enter Tryz.func19, Tryz.ntmps19
  go_wp2
  go_loopw [3] (fun i wr => ∃ k : Nat, k ≤ xs.length ∧ i = .int .i64 k ∧ AllTo colOk xs k ∧ Below w.heap.size w wr) (fun i _ => xs.length - (intOf i).toNat)
  case atStart => exact ⟨0, Nat.zero_le _, rfl, AllTo.zero _ _, Below.refl _ _⟩
  case round =>
    obtain ⟨k, hk, rfl, hall, hbl⟩ := hrel
    by_cases hlt : k < xs.length
    · obtain ⟨b, off, x, rfl, hb, hx, hc⟩ := hr.int hlt
      have hrd : wr.cell? ⟨b, off + k, none⟩ = some (.int .i64 x) := (hbl.cell (p := ⟨b, off + k, none⟩) hb).trans hc
      clear hr hc
      by_cases h1 : 1 ≤ x ∧ x ≤ 2
      · have hB := inB_true h1
        have hco : colOk x = true := by simp [colOk]; omega
        clear h1
        go_wp2_with (go_at_call 43; refine (l1In_any _ _ _ _).mono ?_; rintro e w' ⟨rfl, rfl⟩)
        go_roundw
        case rel => exact ⟨k + 1, by omega, by go_num, hall.succ hx.out hco, hbl⟩
        case measure => simp [intOf]; omega
      · have hB := inB_false h1
        have hh1 : x ≠ 1 := by omega
        have hh2 : x ≠ 2 := by omega
        clear h1
        go_wp2_with (go_at_call 43; refine (l1In_any _ _ _ _).mono ?_; rintro e w' ⟨rfl, rfl⟩)
        go_ret
        exact ⟨ret_bool (colsOk_false hx.out hh1 hh2), hbl⟩
    · have hkn : k = xs.length := by omega
      subst hkn
      go_wp2_with (go_at_call 43; refine (l1In_any _ _ _ _).mono ?_; rintro e w' ⟨rfl, rfl⟩)
      go_ret
      exact ⟨ret_bool (by unfold colsOk; rw [hall.all]; rfl), hbl⟩

end Go.Proofs.YtgpimlmolcjeoaaGreatDoor
