/-
  Contracts of GetNum, in the program and in the reference.
-/
import Derived.Test.YtgpimlmolcjeoaaGreatDoorFlat
import Derived.Test.YtgpimlmolcjeoaaGreatDoorArith
import Derived.Test.YtgpimlmolcjeoaaGreatDoorOwned
namespace Go.Proofs.YtgpimlmolcjeoaaGreatDoor
open Go.RowKit
set_option linter.unusedVariables false
set_option maxRecDepth 100000

def getGo (bs : List UInt8) (p : Nat) : Nat → Nat → Nat → Option (Int × Nat)
  | 0, _, _ => none
  | f + 1, i, x => match bs[p + i]? with
    | none => none
    | some c =>
      if 128 ≤ c.toNat then getGo bs p f (i + 1) (x + c.toNat % 128 * 128 ^ i)
      else if (0 < i ∧ c.toNat = 0) ∨ 2000000000 < x + c.toNat % 128 * 128 ^ i then none
      else some (zag ((x + c.toNat % 128 * 128 ^ i : Nat) : Int), p + i + 1)
def getNum (bs : List UInt8) (at_ : Int) : Option (Int × Nat) := if at_ < 0 then none else getGo bs at_.toNat 5 0 0
def gnN (bs : List UInt8) (at_ : Int) : Int := match getNum bs at_ with | some (n, _) => n | none => 0
def gnP (bs : List UInt8) (at_ : Int) : Int := match getNum bs at_ with | some (_, q) => (q : Int) | none => 0
def gnOk (bs : List UInt8) (at_ : Int) : Bool := (getNum bs at_).isSome

theorem getGo_end (bs : List UInt8) (p f i x : Nat) (h : bs.length ≤ p + i) : getGo bs p f i x = none := by
  cases f with
  | zero => rfl
  | succ f => simp [getGo, List.getElem?_eq_none h]
theorem getGo_more {bs : List UInt8} {p f i x : Nat} {c : UInt8} (h : bs[p + i]? = some c) (hc : 128 ≤ c.toNat) : getGo bs p (f + 1) i x = getGo bs p f (i + 1) (x + c.toNat % 128 * 128 ^ i) := by
  simp only [getGo, h, if_pos hc]
theorem getGo_bad {bs : List UInt8} {p f i x : Nat} {c : UInt8} (h : bs[p + i]? = some c) (hc : ¬ 128 ≤ c.toNat) (hb : (0 < i ∧ c.toNat = 0) ∨ 2000000000 < x + c.toNat % 128 * 128 ^ i) : getGo bs p (f + 1) i x = none := by
  simp only [getGo, h, if_neg hc, if_pos hb]
theorem getGo_good {bs : List UInt8} {p f i x : Nat} {c : UInt8} (h : bs[p + i]? = some c) (hc : ¬ 128 ≤ c.toNat) (hb : ¬ ((0 < i ∧ c.toNat = 0) ∨ 2000000000 < x + c.toNat % 128 * 128 ^ i)) :
    getGo bs p (f + 1) i x = some (zag ((x + c.toNat % 128 * 128 ^ i : Nat) : Int), p + i + 1) := by
  simp only [getGo, h, if_neg hc, if_neg hb]
theorem gn_none {bs : List UInt8} {at_ : Int} (h : getNum bs at_ = none) : Value.tuple #[.int .i64 0, .int .i64 0, .bool false] = .tuple #[.int .i64 (gnN bs at_), .int .i64 (gnP bs at_), .bool (gnOk bs at_)] := by
  simp [gnN, gnP, gnOk, h]
theorem gn_some {bs : List UInt8} {at_ n q : Int} {m : Nat} (h : getNum bs at_ = some (n, m)) (hq : q = (m : Int)) : Value.tuple #[.int .i64 n, .int .i64 q, .bool true] = .tuple #[.int .i64 (gnN bs at_), .int .i64 (gnP bs at_), .bool (gnOk bs at_)] := by
  simp [gnN, gnP, gnOk, h, hq]

theorem pow_le4 (j : Nat) (h : j ≤ 4) : 128 ^ j ≤ 268435456 := Nat.pow_le_pow_right (by omega) h
theorem shl7 (r j : Nat) (h : j ≤ 4) : wrap64 ((r : Int) % 128 * 2 ^ (7 * j)) = ((r % 128 * 128 ^ j : Nat) : Int) := by
  rcases (show j = 0 ∨ j = 1 ∨ j = 2 ∨ j = 3 ∨ j = 4 by omega) with rfl | rfl | rfl | rfl | rfl <;> simp [wrap64] <;> omega

theorem and127 (x : UInt8) : bits BinOp.and IntKind.i64 (x.toNat : Int) 127 = (x.toNat : Int) % 128 := by
  have hx := byte_lt x
  rw [show (127 : Int) = ((127 : Nat) : Int) from rfl, i64_and_nat _ _ (by omega) (by omega)]
  have h : x.toNat &&& 127 = x.toNat % 128 := Nat.and_two_pow_sub_one_eq_mod x.toNat 7
  rw [h]; rfl
theorem or_add (a r j : Nat) (ha : a < 128 ^ j) (hj : j ≤ 4) (hr : r < 128 := by omega) : bits BinOp.or IntKind.i64 (a : Int) ((r * 128 ^ j : Nat) : Int) = ((a + r * 128 ^ j : Nat) : Int) := by
  have hp := pow_le4 j hj
  have hb : r * 128 ^ j ≤ 127 * 268435456 := Nat.mul_le_mul (by omega) hp
  rw [i64_or_nat _ _ (by omega) (by omega)]
  congr 1
  have e : 128 ^ j = 2 ^ (7 * j) := by rw [Nat.pow_mul]
  rw [e] at ha ⊢
  rw [Nat.or_comm, Nat.mul_comm, ← Nat.two_pow_add_eq_or_of_lt ha]
  omega

end Go.Proofs.YtgpimlmolcjeoaaGreatDoor
