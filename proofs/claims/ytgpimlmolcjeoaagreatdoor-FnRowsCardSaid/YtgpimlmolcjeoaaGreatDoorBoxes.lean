/-
  Boxes: a value's three cells in a block of their own.
-/
import Derived.Test.YtgpimlmolcjeoaaGreatDoorThree
namespace Go.Proofs.YtgpimlmolcjeoaaGreatDoor
open Go.RowKit
set_option linter.unusedVariables false
set_option maxRecDepth 100000

theorem grown_set (w : World) (p j : Nat) (u : Value) : w.grownBy (w.setCell ⟨p, j, none⟩ u) (some p) := by
  refine ⟨rfl, rfl, rfl, by simp, fun k hk hne => ?_⟩
  exact heap_setCell_other w ⟨p, j, none⟩ k u (fun e => hne (by rw [e]))
def Box (w : World) (b : Nat) (v : V) : Prop := w.heap[b]? = some (.cells #[.int .i64 v.ty, .int .i64 v.n, .string v.s] 49 (0, 0))
theorem Box.lt {w : World} {b : Nat} {v : V} (h : Box w b v) : b < w.heap.size := by
  rcases Nat.lt_or_ge b w.heap.size with h1 | h1
  · exact h1
  · have h2 := h
    unfold Box at h2
    rw [Array.getElem?_eq_none h1] at h2
    cases h2
theorem Box.cells {w : World} {b : Nat} {v : V} (h : Box w b v) : w.cell? ⟨b, 0, none⟩ = some (.int .i64 v.ty) ∧ w.cell? ⟨b, 1, none⟩ = some (.int .i64 v.n) ∧ w.cell? ⟨b, 2, none⟩ = some (.string v.s) ∧ w.frozen? ⟨b, 0, none⟩ = false ∧ w.frozen? ⟨b, 1, none⟩ = false ∧ w.frozen? ⟨b, 2, none⟩ = false := by
  unfold Box at h
  refine ⟨?_, ?_, ?_, ?_, ?_, ?_⟩
  all_goals simp [World.cell?, World.frozen?, h]
theorem Box.grown {w w' : World} {b p : Nat} {v : V} (h : Box w b v) (hg : w.grownBy w' (some p)) (hne : b ≠ p) : Box w' b v := (hg.block b h.lt (fun e => hne (Option.some.inj e))).trans h
theorem Box.below {w w' : World} {b : Nat} {v : V} (h : Box w b v) (hb : Below w.heap.size w w') : Box w' b v := (hb.block b h.lt).trans h
theorem Box.below' {w w' : World} {b B : Nat} {v : V} (h : Box w b v) (hb : Below B w w') (hB : b < B) : Box w' b v := (hb.block b hB).trans h
theorem Box.new (w : World) (v : V) : Box (w.alloc (.cells #[.int .i64 v.ty, .int .i64 v.n, .string v.s] 49)) w.heap.size v := heap_alloc_new _ _
def V0 : V := ⟨0, 0, ⟨#[]⟩⟩
theorem Box.zero (w : World) : Box (w.alloc (.cells #[.int .i64 0, .int .i64 0, .string ⟨#[]⟩] 49)) w.heap.size V0 := heap_alloc_new _ _
theorem Box.set0 {w : World} {b : Nat} {v : V} (h : Box w b v) (x : Int) : Box (w.setCell ⟨b, 0, none⟩ (.int .i64 x)) b ⟨x, v.n, v.s⟩ := by
  unfold Box
  rw [heap_setCell_same w b 0 _ _ _ h]
  rfl
theorem Box.set1 {w : World} {b : Nat} {v : V} (h : Box w b v) (x : Int) : Box (w.setCell ⟨b, 1, none⟩ (.int .i64 x)) b ⟨v.ty, x, v.s⟩ := by
  unfold Box
  rw [heap_setCell_same w b 1 _ _ _ h]
  rfl
theorem Box.set2 {w : World} {b : Nat} {v : V} (h : Box w b v) (x : ByteArray) : Box (w.setCell ⟨b, 2, none⟩ (.string x)) b ⟨v.ty, v.n, x⟩ := by
  unfold Box
  rw [heap_setCell_same w b 2 _ _ _ h]
  rfl
end Go.Proofs.YtgpimlmolcjeoaaGreatDoor
