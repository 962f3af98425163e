/-
  Plain words on packed bits: what the reference has packed after m bits, and what the program has.
-/
import Derived.Test.YtgpimlmolcjeoaaFor
import Derived.Test.YtgpimlmolcjeoaaVal
namespace Go.Proofs.Ytgpimlmolcjeoaa
open Go.RowKit
set_option linter.unusedVariables false

def pkBit (xs : List Int) (w n : Nat) : Bool := decide (((xs[n / w]?).getD 0).toNat / 2 ^ (n % w) % 2 = 1)
def pkStep (bs : List UInt8) (n : Nat) (v : Bool) : List UInt8 := if v then bs.set (n / 8) (UInt8.ofNat (((bs[n / 8]?).getD 0).toNat ||| 2 ^ (n % 8))) else bs
def packS (f : Nat → Bool) : Nat → List UInt8
  | 0 => []
  | m + 1 => pkStep (if m % 8 = 0 then packS f m ++ [0] else packS f m) m (f m)
def packI (f : Nat → Bool) (T m : Nat) : List UInt8 := packS f m ++ List.replicate (T - (m + 7) / 8) 0
theorem pkBit_at {xs : List Int} {i w k : Nat} {x : Int} (hx : xs[i]? = some x) (hk : k < w) : pkBit xs w (i * w + k) = decide (x.toNat / 2 ^ k % 2 = 1) := by
  unfold pkBit
  rw [show (i * w + k) / w = i by rw [Nat.mul_comm, Nat.mul_add_div (by omega), Nat.div_eq_of_lt hk]; omega, show (i * w + k) % w = k by rw [Nat.mul_comm, Nat.mul_add_mod, Nat.mod_eq_of_lt hk], hx]
  rfl
theorem pkStep_len (bs : List UInt8) (n : Nat) (v : Bool) : (pkStep bs n v).length = bs.length := by
  unfold pkStep
  split
  · simp
  · rfl
theorem packS_len (f : Nat → Bool) : ∀ m, (packS f m).length = (m + 7) / 8
  | 0 => rfl
  | m + 1 => by
    unfold packS
    rw [pkStep_len]
    have ih := packS_len f m
    split
    · simp [ih]; omega
    · rw [ih]; omega
theorem packI_len (f : Nat → Bool) (T m : Nat) (h : m ≤ 8 * T) : (packI f T m).length = T := by
  unfold packI
  rw [List.length_append, packS_len, List.length_replicate]
  omega
theorem pkStep_app {bs : List UInt8} {n : Nat} (h : n / 8 < bs.length) (v : Bool) (rs : List UInt8) : pkStep (bs ++ rs) n v = pkStep bs n v ++ rs := by
  unfold pkStep
  split
  · rw [List.set_append_left _ _ h, List.getElem?_append_left h]
  · rfl
theorem packI_succ {f : Nat → Bool} {T m : Nat} (h : m < 8 * T) : packI f T (m + 1) = pkStep (packI f T m) m (f m) := by
  have hl := packS_len f m
  unfold packI
  rw [packS]
  by_cases h8 : m % 8 = 0
  · rw [if_pos h8, show T - (m + 7) / 8 = T - (m + 1 + 7) / 8 + 1 by omega, List.replicate_succ,
      show packS f m ++ 0 :: List.replicate (T - (m + 1 + 7) / 8) 0 = (packS f m ++ [0]) ++ List.replicate (T - (m + 1 + 7) / 8) 0 by simp,
      pkStep_app (bs := packS f m ++ [0]) (n := m) (by simp [hl]; omega)]
  · rw [if_neg h8, show (m + 1 + 7) / 8 = (m + 7) / 8 by omega, pkStep_app (bs := packS f m) (n := m) (by omega)]
theorem packI_end (f : Nat → Bool) (m : Nat) : packI f ((m + 7) / 8) m = packS f m := by
  unfold packI
  simp
theorem packI_start (f : Nat → Bool) (T : Nat) : packI f T 0 = List.replicate T 0 := by
  simp [packI, packS]
def packFit (m x : Int) : Bool := inB x 0 2147483647 && decide (widthOf x ≤ m)
def packOk (xs : List Int) (m : Int) : Bool := xs.all (packFit m) && inB m 0 31
def packOf (xs : List Int) (m : Int) : List UInt8 := if packOk xs m then packS (pkBit xs m.toNat) (xs.length * m.toNat) else []
theorem packOf_no {xs : List Int} {m : Int} (h : packOk xs m = false) : packOf xs m = [] := by simp [packOf, h]
theorem packOf_yes {xs : List Int} {m : Nat} (h : packOk xs (m : Int) = true) : packOf xs (m : Int) = packS (pkBit xs m) (xs.length * m) := by simp [packOf, h]
theorem packOk_bad {xs : List Int} {m x : Int} {k : Nat} (hx : xs[k]? = some x) (h : packFit m x = false) : packOk xs m = false := by
  unfold packOk
  rw [all_false hx h]
  rfl
theorem packOk_w {xs : List Int} {m : Int} (h : inB m 0 31 = false) : packOk xs m = false := by
  unfold packOk
  rw [h]
  simp
theorem packOk_all {xs : List Int} {m : Int} (ha : AllTo (packFit m) xs xs.length) (h : inB m 0 31 = true) : packOk xs m = true := by
  unfold packOk
  rw [ha.all, h]
  rfl
theorem packFit_bd {m x : Int} (h : packFit m x = true) : 0 ≤ x ∧ x ≤ 2147483647 := by
  unfold packFit at h
  rw [Bool.and_eq_true] at h
  exact inB_iff.1 h.1
theorem mul_bd31 {i m : Nat} (hi : i ≤ 1048576) (hm : m ≤ 31) : i * m ≤ 32505856 := Nat.le_trans (Nat.mul_le_mul hi hm) (by omega)
theorem or_bd8 {a k : Nat} (ha : a < 256) (hk : k < 8) : a ||| 2 ^ k < 256 := Nat.or_lt_two_pow (n := 8) ha (Nat.pow_lt_pow_right (by omega) hk)
theorem packOf_len {xs : List Int} (m : Int) (h : xs.length ≤ 1048576) : (packOf xs m).length ≤ 4063236 := by
  unfold packOf
  split
  · rename_i hok
    unfold packOk at hok
    rw [Bool.and_eq_true] at hok
    have h31 := inB_iff.1 hok.2
    have := mul_bd31 h (show m.toNat ≤ 31 by omega)
    rw [packS_len]
    omega
  · simp

end Go.Proofs.Ytgpimlmolcjeoaa
