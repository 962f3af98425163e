/-
  Contracts of the laws' helpers on rows, and of RowOk and SameRow.
-/
import Derived.Test.YtgpimlmolcjeoaaGreatDoorVlist
import Derived.Test.YtgpimlmolcjeoaaGreatDoorVals
import Derived.Deep.RegionHeld3
import Derived.Deep.Heap
namespace Go.Proofs.YtgpimlmolcjeoaaGreatDoor
open Go.RowKit
open Go.Deep
set_option linter.unusedVariables false
set_option maxRecDepth 100000

theorem own_lowr {w : World} {base base' : Nat} {e : TypeId} {size : Nat} {v : Value} {n : Nat} {xs : List Value} (h : w.ownsRow base e size v n xs) (hb : base' ≤ base) : w.ownsRow base' e size v n xs :=
  ⟨h.1, h.2.imp id fun ⟨g, cap, cur, h1, h2, h3⟩ => ⟨g, cap, cur, h1, Nat.le_trans hb h2, h3⟩⟩

def sameRow (id : Int) (a : List V) (id' : Int) (b : List V) : Bool := decide (id = id') && sameVals a b
theorem sameRow_id (id : Int) (a b : List V) : sameRow id a id b = sameVals a b := by simp [sameRow]
theorem sameRow_no {id id' : Int} {a b : List V} (h : ¬ id = id') : sameRow id a id' b = false := by simp [sameRow, h]

set_option maxHeartbeats 800000 in
theorem impl_SameRow (w : World) (id : Int) (A : Option Addr) (c : Nat) (a : List V) (hr : Reads w w.heap.size 3 A a.length (valCells a)) (hl : a.length ≤ 1099511627776) (hi : ∀ x ∈ a, x.ok) (id' : Int) (A' : Option Addr) (c' : Nat) (b : List V) (hr' : Reads w w.heap.size 3 A' b.length (valCells b)) (hl' : b.length ≤ 1099511627776) (hi' : ∀ x ∈ b, x.ok) :
    Calls Tryz.prog 44 #[.agg #[.int .i64 id, .slice A a.length c], .agg #[.int .i64 id', .slice A' b.length c']] w fun e w' => e = .returned (.bool (sameRow id a id' b)) ∧ Below w.heap.size w w' := by
  have hb0 : Below w.heap.size w ((w.alloc (.cells #[.int .i64 id, .slice A a.length c] 27)).alloc (.cells #[.int .i64 id', .slice A' b.length c'] 27)) := Below.alloc0 (Below.alloc0 (Below.refl _ _) _) _
  by_cases hid : id = id'
  · subst hid
    have hs := Lib.hid (sameRow_id id a b)
    go_enter Tryz.func44, Tryz.ntmps44
    go_wp2_with fail
    refine (impl_SameVals _ _ _ _ ((hr.below hb0 (Nat.le_refl _)).more hb0.size) hl hi _ _ _ ((hr'.below hb0 (Nat.le_refl _)).more hb0.size) hl' hi').mono ?_
    rintro e w1 ⟨rfl, hb1⟩
    have hbl := hb0.trans (hb1.mono hb0.size)
    clear hb0 hb1 hr hr'
    go_wp2
    go_ret
    exact ⟨ret_bool hs.out.symm, hbl⟩
  · have hs := Lib.hid (sameRow_no (a := a) (b := b) hid)
    have hib : (id == id') = false := by simp [hid]
    clear hid hr hr'
    go_enter Tryz.func44, Tryz.ntmps44
    go_wp2
    go_ret
    exact ⟨ret_bool hs.out.symm, hb0⟩


end Go.Proofs.YtgpimlmolcjeoaaGreatDoor
