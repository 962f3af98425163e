/-
  Contracts of the laws' helpers on slices of values: copies, counts, comparisons, marks.
-/
import Derived.Test.YtgpimlmolcjeoaaGreatDoorFlat
import Derived.Test.YtgpimlmolcjeoaaGreatDoorMt
import Derived.Test.YtgpimlmolcjeoaaGreatDoorVal
import Derived.Deep.RegionHeld3
import Derived.StillTailTactics
namespace Go.Proofs.YtgpimlmolcjeoaaGreatDoor
open Go.RowKit
set_option linter.unusedVariables false
set_option maxRecDepth 100000

def letters (vs : List V) : Nat := (vs.map fun v => v.s.size).sum
theorem letters_snoc {vs : List V} {k : Nat} {x : V} (h : vs[k]? = some x) : letters (vs.take (k + 1)) = letters (vs.take k) + x.s.size := by
  unfold letters
  rw [List.take_add_one, h]
  simp
theorem letters_le (vs : List V) (k : Nat) : letters (vs.take k) ≤ letters vs := by
  have h : letters vs = letters (vs.take k) + letters (vs.drop k) := by
    unfold letters
    rw [← List.sum_append, ← List.map_append, List.take_append_drop]
  omega
def SzPost (r left : Int) (total : Nat) : Prop := r ≤ left ∧ (0 ≤ r → (total : Int) + r ≤ left)

theorem valCells_length (vs : List V) : (valCells vs).length = vs.length * 3 := flatMap_length_u _ 3 (fun _ => rfl) _
theorem valCells_snoc {vs : List V} {k : Nat} {x : V} (h : vs[k]? = some x) : valCells (vs.take (k + 1)) = valCells (vs.take k) ++ [.int .i64 x.ty, .int .i64 x.n, .string x.s] := by
  unfold valCells
  rw [List.take_add_one, h]
  simp [V.enc]
theorem set_three (m zs : List Value) (j : Nat) (a b c : Value) (hm : m.length = j) (hj : j + 2 < zs.length) :
    (((m ++ zs.drop j).set j a).set (j + 1) b).set (j + 2) c = m ++ [a, b, c] ++ zs.drop (j + 3) := by
  rw [set_at m zs j a hm (by omega), set_at (m ++ [a]) zs (j + 1) b (by simp [hm]) (by omega), set_at (m ++ [a] ++ [b]) zs (j + 2) c (by simp [hm]) (by omega)]
  simp
theorem own_set3 {w : World} {base g n cap : Nat} {e : TypeId} {size : Nat} {m zs : List Value} {j : Nat} (a b c : Value) (h : w.ownsRow base e size (.slice (some ⟨g, 0, none⟩) n cap) n (m ++ zs.drop j)) (hm : m.length = j) (hj : j + 2 < zs.length) :
    (((w.setCell ⟨g, j, none⟩ a).setCell ⟨g, j + 1, none⟩ b).setCell ⟨g, j + 2, none⟩ c).ownsRow base e size (.slice (some ⟨g, 0, none⟩) n cap) n (m ++ [a, b, c] ++ zs.drop (j + 3)) ∧
      w.grownBy (((w.setCell ⟨g, j, none⟩ a).setCell ⟨g, j + 1, none⟩ b).setCell ⟨g, j + 2, none⟩ c) (some g) := by
  obtain ⟨h1, g1⟩ := h.stored j a
  obtain ⟨h2, g2⟩ := h1.stored (j + 1) b
  obtain ⟨h3, g3⟩ := h2.stored (j + 2) c
  rw [set_three m zs j a b c hm hj] at h3
  exact ⟨h3, (g1.trans g2).trans g3⟩


theorem info_Val : (Tryz.prog.info? 49).map (fun i => (i.zero, i.size, i.bytes)) = some (some (.agg #[.int .i64 0, .int .i64 0, .string ByteArray.empty]), 3, 32) := by kernel_rfl



def markVal (k n : Nat) : List V := (List.range n).map fun j => ⟨(k : Int) + ((j * 3 : Nat) : Int), (k : Int) + ((j * 3 : Nat) : Int) + 1, mt (k + j * 3 + 2)⟩
theorem markVal_length (k n : Nat) : (markVal k n).length = n := by simp [markVal]
theorem markVal_get (k n j : Nat) (h : j < n) : (markVal k n)[j]? = some ⟨(k : Int) + ((j * 3 : Nat) : Int), (k : Int) + ((j * 3 : Nat) : Int) + 1, mt (k + j * 3 + 2)⟩ := by
  simp only [markVal, List.getElem?_map, List.getElem?_range h, Option.map_some]
theorem markVal_snoc (k j : Nat) : valCells (markVal k (j + 1)) = valCells (markVal k j) ++ [.int .i64 ((k : Int) + ((j * 3 : Nat) : Int)), .int .i64 ((k : Int) + ((j * 3 : Nat) : Int) + 1), .string (mt (k + j * 3 + 2))] := by
  simp [valCells, markVal, List.range_succ, V.enc]



def markStr (k n : Nat) : List ByteArray := (List.range n).map fun j => mt (k + j)
theorem markStr_length (k n : Nat) : (markStr k n).length = n := by simp [markStr]
theorem markStr_get (k n j : Nat) (h : j < n) : (strCells (markStr k n))[j]? = some (.string (mt (k + j))) := by
  simp only [strCells, markStr, List.getElem?_map, List.getElem?_range h, Option.map_some]
theorem markStr_snoc (k j : Nat) : strCells (markStr k (j + 1)) = strCells (markStr k j) ++ [.string (mt (k + j))] := by
  simp only [strCells, markStr, List.range_succ, List.map_append, List.map_cons, List.map_nil]



end Go.Proofs.YtgpimlmolcjeoaaGreatDoor
