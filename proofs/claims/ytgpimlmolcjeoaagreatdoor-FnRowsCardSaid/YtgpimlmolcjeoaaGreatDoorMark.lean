/-
  Lists that are filled place by place, and the marks that the laws lay into a slice.
-/
import Derived.Test.YtgpimlmolcjeoaaGreatDoorNum
namespace Go.Proofs.YtgpimlmolcjeoaaGreatDoor
open Go.RowKit
set_option linter.unusedVariables false

theorem info_Byte : (Tryz.prog.info? 5).map (fun i => (i.zero, i.size, i.bytes)) = some (some (.int .u8 0), 1, 1) := by kernel_rfl
theorem info_Int : (Tryz.prog.info? 3).map (fun i => (i.zero, i.size, i.bytes)) = some (some (.int .i64 0), 1, 8) := by kernel_rfl
theorem info_String : (Tryz.prog.info? 9).map (fun i => (i.zero, i.size, i.bytes)) = some (some (.string ByteArray.empty), 1, 16) := by kernel_rfl

theorem fill_set (xs : List Value) (z x : Value) (k : Nat) (h : xs[k]? = some x) :
    (xs.take k ++ List.replicate (xs.length - k) z).set k x = xs.take (k + 1) ++ List.replicate (xs.length - (k + 1)) z := by
  have hk : k < xs.length := (List.getElem?_eq_some_iff.1 h).1
  have e : xs.length - k = (xs.length - (k + 1)) + 1 := by omega
  rw [e, List.replicate_succ, List.set_append_right _ _ (by simp; omega)]
  have e2 : k - (xs.take k).length = 0 := by simp; omega
  rw [e2, List.set_cons_zero, List.take_add_one, h]
  simp
theorem fill_done (xs : List Value) (z : Value) (n : Nat) (h : xs.length = n) : xs.take n ++ List.replicate (xs.length - n) z = xs := by
  subst h
  simp
theorem set_at (m xs : List Value) (j : Nat) (v : Value) (hm : m.length = j) (hj : j < xs.length) : (m ++ xs.drop j).set j v = m ++ [v] ++ xs.drop (j + 1) := by
  subst hm
  rw [List.set_append_right _ _ (Nat.le_refl _), Nat.sub_self, List.drop_eq_getElem_cons hj, List.set_cons_zero]
  simp
theorem byteCells_get {bs : List UInt8} {k : Nat} {x : UInt8} (h : bs[k]? = some x) : (byteCells bs)[k]? = some (.int .u8 (x.toNat : Int)) := by
  simp [byteCells, byteV, h]
theorem intCells_get {xs : List Int} {k : Nat} {x : Int} (h : xs[k]? = some x) : (intCells xs)[k]? = some (.int .i64 x) := by
  simp [intCells, h]
theorem strCells_get {xs : List ByteArray} {k : Nat} {x : ByteArray} (h : xs[k]? = some x) : (strCells xs)[k]? = some (.string x) := by
  simp [strCells, h]

def markByte (k n : Nat) : List UInt8 := (List.range n).map fun j => UInt8.ofNat ((k + j) % 256)
def markInt (k n : Nat) : List Int := (List.range n).map fun j => ((k + j : Nat) : Int)
theorem byteOf (k j : Nat) : byteV (UInt8.ofNat ((k + j) % 256)) = .int .u8 (((k : Int) + (j : Int)) % 256) := by
  unfold byteV
  rw [UInt8.toNat_ofNat']
  have : (k + j) % 256 % 2 ^ 8 = (k + j) % 256 := Nat.mod_eq_of_lt (by omega)
  rw [this]
  congr 1
theorem markByte_snoc (k j : Nat) : byteCells (markByte k (j + 1)) = byteCells (markByte k j) ++ [.int .u8 (((k : Int) + (j : Int)) % 256)] := by
  simp only [byteCells, markByte, List.range_succ, List.map_append, List.map_cons, List.map_nil, byteOf]
theorem markInt_snoc (k j : Nat) : intCells (markInt k (j + 1)) = intCells (markInt k j) ++ [.int .i64 ((k : Int) + (j : Int))] := by
  simp only [intCells, markInt, List.range_succ, List.map_append, List.map_cons, List.map_nil, Int.natCast_add]
theorem markByte_get (k n j : Nat) (h : j < n) : (byteCells (markByte k n))[j]? = some (.int .u8 (((k : Int) + (j : Int)) % 256)) := by
  simp only [byteCells, markByte, List.getElem?_map, List.getElem?_range h, Option.map_some, byteOf]
theorem markInt_get (k n j : Nat) (h : j < n) : (intCells (markInt k n))[j]? = some (.int .i64 ((k : Int) + (j : Int))) := by
  simp only [intCells, markInt, List.getElem?_map, List.getElem?_range h, Option.map_some, Int.natCast_add]

end Go.Proofs.YtgpimlmolcjeoaaGreatDoor
