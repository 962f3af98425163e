/-
  What the reference draws: DrawNumText, DrawParseNum.
-/
import Derived.Test.YtgpimlmolcjeoaaGreatDoorDraw
import Derived.Test.YtgpimlmolcjeoaaGreatDoorVdraw
import Derived.Test.YtgpimlmolcjeoaaGreatDoorNtext
namespace Go.Proofs.YtgpimlmolcjeoaaGreatDoor
open Go.RowKit
set_option linter.unusedVariables false
set_option maxRecDepth 100000

theorem numText_size {n : Int} (hn : I64 n) : (numText n).size ≤ 21 := by
  have := Lib.itoa_length_le n hn.1 hn.2
  simpa [numText, ByteArray.size] using this
theorem l1Str_lit2 (w : World) (p : Nat) (hc : Cur w p) (t : TypeId) (n : Nat) (xs : List ByteArray) (hl : xs.length = n) (h1 : 1 ≤ n) (h2 : n ≤ 1099511627776) (hI : ∀ x ∈ xs, x.size ≤ 1000) :
    Calls Tryz.prog 32 #[.pointer (some ⟨p, 0, none⟩), .slice (some ⟨w.heap.size, 0, none⟩) n n] (w.alloc (.cells (strCells xs).toArray t)) fun e w' => ∃ x : ByteArray, e = .returned (.string x) ∧ x.size ≤ 1000 ∧ Cur w' p ∧ w.grownBy w' (some p) := by
  refine (l1Str_any _ p (hc.alloc _) w.heap.size n n xs hl h1 h2 (Nat.ne_of_gt hc.lt) (lit_strs w t xs)).mono ?_
  rintro e w1 ⟨x, rfl, hm, hc1, hg1⟩
  exact ⟨x, rfl, hI x hm, hc1, (grown_alloc w _ _).trans hg1⟩
end Go.Proofs.YtgpimlmolcjeoaaGreatDoor
