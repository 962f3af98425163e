/-
  Contracts of PutNum, in the program and in the reference.
-/
import Derived.Test.YtgpimlmolcjeoaaGreatDoorAppend
namespace Go.Proofs.YtgpimlmolcjeoaaGreatDoor
open Go.RowKit
set_option linter.unusedVariables false
set_option maxRecDepth 100000

def numTail (x : Nat) : List UInt8 := if h : 128 ≤ x then UInt8.ofNat (x % 128 + 128) :: numTail (x / 128) else [UInt8.ofNat x]
termination_by x
decreasing_by omega
theorem numTail_more {x : Nat} (h : 128 ≤ x) : numTail x = UInt8.ofNat (x % 128 + 128) :: numTail (x / 128) := by rw [numTail, dif_pos h]
theorem numTail_end {x : Nat} (h : ¬ 128 ≤ x) : numTail x = [UInt8.ofNat x] := by rw [numTail, dif_neg h]
theorem numTail_len : ∀ (f x : Nat), x < 128 ^ (f + 1) → (numTail x).length ≤ f + 1
  | 0, x, h => by rw [numTail_end (by omega)]; simp
  | f + 1, x, h => by
    by_cases hx : 128 ≤ x
    · rw [numTail_more hx]
      have := numTail_len f (x / 128) (by rw [Nat.pow_succ] at h; exact Nat.div_lt_of_lt_mul (by omega))
      simp; omega
    · rw [numTail_end hx]; simp
def putNum (bs : List UInt8) (n : Int) : List UInt8 := if inB n (-1000000000) 1000000000 then bs ++ numTail (zig n).toNat else bs
theorem zig_bd (n : Int) : 0 ≤ zig n ∧ zig n ≤ 2000000000 := by
  unfold zig inB
  split
  · rename_i h
    simp at h
    split <;> omega
  · omega
theorem putNum_len (bs : List UInt8) (n : Int) : (putNum bs n).length ≤ bs.length + 5 := by
  unfold putNum
  split
  · have := zig_bd n
    have := numTail_len 4 (zig n).toNat (by omega)
    simp; omega
  · omega
theorem putNum_bad {bs : List UInt8} {n : Int} (h : inB n (-1000000000) 1000000000 = false) : putNum bs n = bs := by unfold putNum; rw [h]; rfl
theorem putNum_good {bs : List UInt8} {n : Int} (h : inB n (-1000000000) 1000000000 = true) : putNum bs n = bs ++ numTail (zig n).toNat := by unfold putNum; rw [h]; rfl
theorem byteCells_one (bs : List UInt8) (b : UInt8) : byteCells (bs ++ [b]) = byteCells bs ++ [.int .u8 (b.toNat : Int)] := by simp [byteCells, byteV]
theorem byteCells_len (bs : List UInt8) : (byteCells bs).length = bs.length := by simp [byteCells]
theorem byteCells_one' (bs : List UInt8) : ∀ u ∈ byteCells bs, u.oneCell' = true := by
  intro u hu
  simp [byteCells] at hu
  obtain ⟨b, -, rfl⟩ := hu
  rfl
theorem own_blen {w : World} {base n c : Nat} {e : TypeId} {A : Option Addr} {L : List UInt8} (h : w.ownsRow base e 1 (.slice A n c) n (byteCells L)) : n = L.length := by
  have := h.1
  rw [byteCells_len] at this
  omega

theorem byte_ofNat {m : Nat} (h : m < 256) : ((UInt8.ofNat m).toNat : Int) = (m : Int) := by
  rw [UInt8.toNat_ofNat']; omega
theorem byteCells_more (L : List UInt8) (a : Nat) : byteCells L ++ [.int .u8 ((a : Int) % 128 + 128)] = byteCells (L ++ [UInt8.ofNat (a % 128 + 128)]) := by
  rw [byteCells_one, byte_ofNat (by omega)]
  simp
theorem byteCells_more2 (L : List UInt8) (a : Nat) : byteCells L ++ [.int .u8 (128 + (a : Int) % 128)] = byteCells (L ++ [UInt8.ofNat (a % 128 + 128)]) := by
  rw [byteCells_one, byte_ofNat (by omega)]
  simp; omega
theorem byteCells_last (L : List UInt8) (a : Nat) (h : a < 256) : byteCells L ++ [.int .u8 (a : Int)] = byteCells (L ++ [UInt8.ofNat a]) := by
  rw [byteCells_one, byte_ofNat h]
theorem put_more {P : List UInt8} {L : List UInt8} {a : Nat} (h : Hid (P = L ++ numTail a)) (ha : 128 ≤ a) : Hid (P = (L ++ [UInt8.ofNat (a % 128 + 128)]) ++ numTail (a / 128)) := by
  refine Lib.hid ?_
  rw [h.out, numTail_more ha]; simp
theorem put_end {P : List UInt8} {L : List UInt8} {a : Nat} (h : Hid (P = L ++ numTail a)) (ha : ¬ 128 ≤ a) : Hid (P = L ++ [UInt8.ofNat a]) := by
  refine Lib.hid ?_
  rw [h.out, numTail_end ha]

end Go.Proofs.YtgpimlmolcjeoaaGreatDoor
