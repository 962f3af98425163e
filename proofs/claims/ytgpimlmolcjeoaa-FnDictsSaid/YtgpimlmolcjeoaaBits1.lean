/-
  Contracts of BitAt, in the program and in the reference.
-/
import Derived.Test.YtgpimlmolcjeoaaFlat
import Derived.Test.YtgpimlmolcjeoaaArith
import Derived.Test.YtgpimlmolcjeoaaOwned
namespace Go.Proofs.Ytgpimlmolcjeoaa
open Go.RowKit
set_option linter.unusedVariables false

def bitAt (bs : List UInt8) (n : Int) : Int := if n < 0 then 0 else match bs[(n / 8).toNat]? with
  | some x => (((x : UInt8).toNat / 2 ^ (n % 8).toNat % 2 : Nat) : Int)
  | none => 0

theorem bitAt_at {bs : List UInt8} {n : Int} {x : UInt8} (h : 0 ≤ n) (hx : bs[(n / 8).toNat]? = some x) : bitAt bs n = ((x.toNat / 2 ^ (n % 8).toNat % 2 : Nat) : Int) := by
  unfold bitAt; rw [if_neg (by omega), hx]
theorem bit_lt (x : UInt8) (k : Nat) : x.toNat / 2 ^ k < 256 := Nat.lt_of_le_of_lt (Nat.div_le_self _ _) (byte_lt x)
theorem bit_impl {bs : List UInt8} {n : Int} {x : UInt8} (h : 0 ≤ n) (hx : bs[(n / 8).toNat]? = some x) : wrap64 (bits BinOp.and IntKind.u8 ((x.toNat : Int) / 2 ^ (n % 8).toNat) 1) = bitAt bs n := by
  have hb := bit_lt x (n % 8).toNat
  rw [bitAt_at h hx, div_pow, u8_and_one _ hb, wrap_nat _ (by omega)]
theorem bit_spec {bs : List UInt8} {n : Int} {x : UInt8} (h : 0 ≤ n) (hx : bs[(n / 8).toNat]? = some x) : bits BinOp.and IntKind.i64 (wrap64 (x.toNat : Int) / 2 ^ (n % 8).toNat) 1 = bitAt bs n := by
  have hb := bit_lt x (n % 8).toNat
  have hx' := byte_lt x
  rw [bitAt_at h hx, wrap_nat _ (by omega), div_pow, i64_and_one _ (by omega)]

theorem impl_BitAt (w : World) (A : Option Addr) (c : Nat) (bs : List UInt8) (hr : Reads w w.heap.size 1 A bs.length (byteCells bs)) (hl : bs.length ≤ 1099511627776) (n : Int) (hn : I64 n) :
    Calls Try.prog 92 #[.slice A bs.length c, .int .i64 n] w fun e w' => e = .returned (.int .i64 (bitAt bs n)) ∧ Below w.heap.size w w' := by
  obtain ⟨hn1, hn2⟩ := hn
  by_cases h0 : n < 0
  · go_enter Try.func92, Try.ntmps92
    go_wp2
    go_ret
    exact ⟨by simp [bitAt, h0], Below.refl _ _⟩
  · by_cases h8 : bs.length ≤ n / 8
    · go_enter Try.func92, Try.ntmps92
      go_wp2
      go_ret
      exact ⟨ret_int (by unfold bitAt; rw [if_neg (by omega), List.getElem?_eq_none (by omega)]), Below.refl _ _⟩
    · have hlt : (n / 8).toNat < bs.length := by omega
      obtain ⟨b, off, x, rfl, hb, hx, hc⟩ := hr.byte hlt
      have hc' := hr
      go_enter Try.func92, Try.ntmps92
      clear hr hc'
      have h0' : 0 ≤ n := by omega
      go_wp2
      go_ret
      exact ⟨ret_int (bit_impl h0' hx.out), Below.refl _ _⟩


end Go.Proofs.Ytgpimlmolcjeoaa
