/-
  Contracts of RowOk.
-/
import Derived.Test.YtgpimlmolcjeoaaGreatDoorRowh
import Derived.Test.YtgpimlmolcjeoaaGreatDoorFits
namespace Go.Proofs.YtgpimlmolcjeoaaGreatDoor
open Go.RowKit
set_option linter.unusedVariables false
set_option maxRecDepth 100000
def rowOk (cols : List Int) (id : Int) (a : List V) : Bool := decide (0 ≤ id) && fitsCols cols a
theorem rowOk_yes {cols : List Int} {id : Int} {a : List V} (h : 0 ≤ id) : rowOk cols id a = fitsCols cols a := by simp [rowOk, h]
theorem rowOk_no {cols : List Int} {id : Int} {a : List V} (h : ¬ 0 ≤ id) : rowOk cols id a = false := by simp only [rowOk, h, decide_false, Bool.false_and]

set_option maxHeartbeats 800000 in
theorem impl_RowOk (w : World) (Ac : Option Addr) (cc : Nat) (cols : List Int) (hrc : Reads w w.heap.size 1 Ac cols.length (intCells cols)) (hlc : cols.length ≤ 1099511627776) (hic : ∀ x ∈ cols, I64 x) (id : Int) (A : Option Addr) (c : Nat) (a : List V) (hr : Reads w w.heap.size 3 A a.length (valCells a)) (hl : a.length ≤ 1099511627776) (hi : ∀ x ∈ a, x.ok) :
    Calls Tryz.prog 14 #[.slice Ac cols.length cc, .agg #[.int .i64 id, .slice A a.length c]] w fun e w' => e = .returned (.bool (rowOk cols id a)) ∧ Below w.heap.size w w' := by
  have hb0 : Below w.heap.size w (w.alloc (.cells #[.int .i64 id, .slice A a.length c] 27)) := Below.alloc0 (Below.refl _ _) _
  by_cases hid : 0 ≤ id
  · have hs := Lib.hid (rowOk_yes (cols := cols) (a := a) hid)
    go_enter Tryz.func14, Tryz.ntmps14
    go_wp2_with fail
    refine (impl_FitsCols _ _ _ _ ((hrc.below hb0 (Nat.le_refl _)).more hb0.size) hlc hic _ _ _ ((hr.below hb0 (Nat.le_refl _)).more hb0.size) hl hi).mono ?_
    rintro e w1 ⟨rfl, hb1⟩
    have hbl := hb0.trans (hb1.mono hb0.size)
    clear hb0 hb1 hr hrc
    go_wp2
    go_ret
    exact ⟨ret_bool hs.out.symm, hbl⟩
  · have hs := Lib.hid (rowOk_no (cols := cols) (a := a) hid)
    clear hr hrc
    go_enter Tryz.func14, Tryz.ntmps14
    go_wp2
    go_ret
    exact ⟨ret_bool hs.out.symm, hb0⟩

set_option maxHeartbeats 800000 in
theorem spec_RowOk (w : World) (Ac : Option Addr) (cc : Nat) (cols : List Int) (hrc : Reads w w.heap.size 1 Ac cols.length (intCells cols)) (hlc : cols.length ≤ 1099511627776) (hic : ∀ x ∈ cols, I64 x) (id : Int) (A : Option Addr) (c : Nat) (a : List V) (hr : Reads w w.heap.size 3 A a.length (valCells a)) (hl : a.length ≤ 1099511627776) (hi : ∀ x ∈ a, x.ok) :
    Calls Tryz.prog 15 #[.slice Ac cols.length cc, .agg #[.int .i64 id, .slice A a.length c]] w fun e w' => e = .returned (.bool (rowOk cols id a)) ∧ Below w.heap.size w w' := by
  have hb0 : Below w.heap.size w (w.alloc (.cells #[.int .i64 id, .slice A a.length c] 27)) := Below.alloc0 (Below.refl _ _) _
  by_cases hid : 0 ≤ id
  · have hs := Lib.hid (rowOk_yes (cols := cols) (a := a) hid)
    go_enter Tryz.func15, Tryz.ntmps15
    go_wp2_with fail
    refine (spec_FitsCols _ _ _ _ ((hrc.below hb0 (Nat.le_refl _)).more hb0.size) hlc hic _ _ _ ((hr.below hb0 (Nat.le_refl _)).more hb0.size) hl hi).mono ?_
    rintro e w1 ⟨rfl, hb1⟩
    have hbl := hb0.trans (hb1.mono hb0.size)
    clear hb0 hb1 hr hrc
    go_wp2
    go_ret
    exact ⟨ret_bool hs.out.symm, hbl⟩
  · have hs := Lib.hid (rowOk_no (cols := cols) (a := a) hid)
    clear hr hrc
    go_enter Tryz.func15, Tryz.ntmps15
    go_wp2
    go_ret
    exact ⟨ret_bool hs.out.symm, hb0⟩

end Go.Proofs.YtgpimlmolcjeoaaGreatDoor
