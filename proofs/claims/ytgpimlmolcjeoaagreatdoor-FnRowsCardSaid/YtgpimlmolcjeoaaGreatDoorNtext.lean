/-
  Contracts of NumText, in the program and in the reference.
-/
import Derived.Test.YtgpimlmolcjeoaaGreatDoorLaid
import Derived.Test.YtgpimlmolcjeoaaGreatDoorMt
import Derived.Test.YtgpimlmolcjeoaaGreatDoorShelf
namespace Go.Proofs.YtgpimlmolcjeoaaGreatDoor
open Go.RowKit
open Go.Lib (itoa decDigits)
set_option linter.unusedVariables false
set_option maxRecDepth 100000

def numText (n : Int) : ByteArray := ⟨(itoa n).toArray⟩
theorem numText_list (n : Int) : (numText n).data.toList = itoa n := rfl
theorem numText_neg (m : Nat) (h : m ≠ 0) : (⟨[45].toArray⟩ : ByteArray) ++ ⟨(decDigits m).toArray⟩ = numText (-(m : Int)) := by
  rw [app_str]
  unfold numText Go.Lib.itoa
  rw [if_pos (by omega)]
  simp
theorem numText_pos (m : Nat) : (⟨(decDigits m).toArray⟩ : ByteArray) = numText (m : Int) := by
  unfold numText Go.Lib.itoa
  rw [if_neg (by omega)]
  simp
theorem numText_zero : (⟨#[48]⟩ : ByteArray) = numText 0 := by
  have h := numText_pos 0
  rw [Go.Lib.decDigits_one (by omega)] at h
  exact h
theorem dig_toNat (u : Nat) : ((UInt8.ofNat (48 + u % 10)).toNat : Int) = 48 + (u : Int) % 10 := by
  rw [UInt8.toNat_ofNat', Nat.mod_eq_of_lt (by omega)]
  omega
theorem dig_room {u : Nat} (m : Nat) (acc : List UInt8) (hm : m < 18446744073709551616) (h : decDigits m = decPart u ++ acc) : acc.length ≤ 20 := by
  have h1 := congrArg List.length h
  rw [List.length_append, Go.Lib.decDigits_length] at h1
  have := Go.Lib.nDigits_le20 m hm
  omega
theorem impl_NumText (w : World) (n : Int) (hn : I64 n) (hT : Tab w) :
    Calls Tryz.prog 45 #[.int .i64 n] w fun e w' => e = .returned (.string (numText n)) ∧ Below w.heap.size w w' := by
  go_enter Tryz.func45, Tryz.ntmps45
  go_wp2_with fail
  refine (Tryz.strconv_Itoa n hn.1 hn.2 _ hT).mono ?_
  rintro e w' ⟨rfl, k, os, rfl⟩
  have hb := Lib.below_grow w.heap.size w (Nat.le_refl _) k os
  generalize Go.Sort.grow (w.drewN k) os = w2 at hb ⊢
  go_wp2
  go_ret
  exact ⟨rfl, hb⟩
theorem spec_NumText_pos (w : World) (m : Nat) (hm : (m : Int) ≤ 9223372036854775807) (h0 : 0 < m) :
    Calls Tryz.prog 48 #[.int .i64 (m : Int)] w fun e w' => e = .returned (.string (numText (m : Int))) ∧ Below w.heap.size w w' := by
  go_enter Tryz.func48, Tryz.ntmps48
  go_wp2
  go_loopw [3, 4, 5] (fun o q _ wr => ∃ (u : Nat) (acc : List UInt8), q = .int .i64 (u : Int) ∧ o = .string ⟨acc.toArray⟩ ∧ u ≤ m ∧ Hid (decDigits m = decPart u ++ acc) ∧ Below w.heap.size w wr) (fun _ q _ _ => (intOf q).toNat)
  case atStart => exact ⟨m, [], rfl, rfl, Nat.le_refl _, Lib.hid (by rw [decPart_pos (by omega)]; simp), Below.refl _ _⟩
  case round =>
    obtain ⟨u, acc, rfl, rfl, hum, hd, hbl⟩ := hrel
    by_cases hu : u = 0
    · subst hu
      have hmn : decide ((m : Int) < 0) = false := by simp
      have hd2 := Lib.hid (show (⟨acc.toArray⟩ : ByteArray) = numText (m : Int) by rw [← numText_pos, hd.out]; rfl)
      clear hd
      go_wp2
      go_ret
      exact ⟨ret_val (congrArg Value.string hd2.out), hbl⟩
    · have hal := dig_room m acc (by omega) hd.out
      obtain ⟨b, hb⟩ : ∃ b, b = UInt8.ofNat (48 + u % 10) := ⟨_, rfl⟩
      have hbn : (b.toNat : Int) = 48 + (u : Int) % 10 := by rw [hb]; exact dig_toNat u
      have hd2 := Lib.hid (show decDigits m = decPart (u / 10) ++ (b :: acc) by rw [hd.out, decPart_step hu, hb]; simp)
      clear hd hb
      have hcv := conv_one (P := Tryz.prog) wr 22 9 5 Tryz.underlying22 Tryz.underlying5 Tryz.underlying9 b (48 + (u : Int) % 10) hbn.symm
      have hdn : decide ((u : Int) % 10 < 0) = false := by simp; omega
      have hne : ((u : Int) != 0) = true := by simp; omega
      clear hbn
      go_wp2
      go_roundw
      case rel => exact ⟨u / 10, _, by go_num, congrArg Value.string (app_str [b] acc), by omega, hd2, hbl.alloc hbl.size _⟩
      case measure => simp [intOf]; omega
theorem spec_NumText_neg (w : World) (m : Nat) (hm : (m : Int) ≤ 9223372036854775808) (h0 : 0 < m) :
    Calls Tryz.prog 48 #[.int .i64 (-(m : Int))] w fun e w' => e = .returned (.string (numText (-(m : Int)))) ∧ Below w.heap.size w w' := by
  go_enter Tryz.func48, Tryz.ntmps48
  go_wp2
  go_loopw [3, 4, 5] (fun o q _ wr => ∃ (u : Nat) (acc : List UInt8), q = .int .i64 (-(u : Int)) ∧ o = .string ⟨acc.toArray⟩ ∧ u ≤ m ∧ Hid (decDigits m = decPart u ++ acc) ∧ Below w.heap.size w wr) (fun _ q _ _ => (intOf q).natAbs)
  case atStart => exact ⟨m, [], rfl, rfl, Nat.le_refl _, Lib.hid (by rw [decPart_pos (by omega)]; simp), Below.refl _ _⟩
  case round =>
    obtain ⟨u, acc, rfl, rfl, hum, hd, hbl⟩ := hrel
    by_cases hu : u = 0
    · subst hu
      have hmn : decide (0 < (m : Int)) = true := by simp; omega
      have hal := dig_room m acc (by omega) hd.out
      have hd2 := Lib.hid (show (⟨[45].toArray⟩ : ByteArray) ++ ⟨acc.toArray⟩ = numText (-(m : Int)) by rw [← numText_neg m (by omega), hd.out]; rfl)
      clear hd
      go_wp2
      go_ret
      exact ⟨ret_val (congrArg Value.string hd2.out), hbl⟩
    · have hal := dig_room m acc (by omega) hd.out
      obtain ⟨b, hb⟩ : ∃ b, b = UInt8.ofNat (48 + u % 10) := ⟨_, rfl⟩
      have hbn : (b.toNat : Int) = 48 + (u : Int) % 10 := by rw [hb]; exact dig_toNat u
      have hd2 := Lib.hid (show decDigits m = decPart (u / 10) ++ (b :: acc) by rw [hd.out, decPart_step hu, hb]; simp)
      clear hd hb
      have hne : (-(u : Int) != 0) = true := by simp; omega
      by_cases hz : u % 10 = 0
      · have hcv := conv_one (P := Tryz.prog) wr 22 9 5 Tryz.underlying22 Tryz.underlying5 Tryz.underlying9 b (48 + -((u : Int) % 10)) (by rw [hbn]; omega)
        have hdn : decide (0 < (u : Int) % 10) = false := by simp; omega
        clear hz hbn
        go_wp2
        go_roundw
        case rel => exact ⟨u / 10, _, by go_num, congrArg Value.string (app_str [b] acc), by omega, hd2, hbl.alloc hbl.size _⟩
        case measure => simp [intOf]; omega
      · have hcv := conv_one (P := Tryz.prog) wr 22 9 5 Tryz.underlying22 Tryz.underlying5 Tryz.underlying9 b (48 + (u : Int) % 10) hbn.symm
        have hdn : decide (0 < (u : Int) % 10) = true := by simp; omega
        clear hz hbn
        go_wp2
        go_roundw
        case rel => exact ⟨u / 10, _, by go_num, congrArg Value.string (app_str [b] acc), by omega, hd2, hbl.alloc hbl.size _⟩
        case measure => simp [intOf]; omega
theorem spec_NumText (w : World) (n : Int) (hn : I64 n) :
    Calls Tryz.prog 48 #[.int .i64 n] w fun e w' => e = .returned (.string (numText n)) ∧ Below w.heap.size w w' := by
  unfold I64 at hn
  by_cases h0 : n = 0
  · subst h0
    go_enter Tryz.func48, Tryz.ntmps48
    go_wp2
    go_ret
    exact ⟨ret_val (congrArg Value.string numText_zero), Below.refl _ _⟩
  by_cases hneg : n < 0
  · obtain ⟨m, rfl⟩ : ∃ m : Nat, n = -(m : Int) := ⟨n.natAbs, by omega⟩
    exact spec_NumText_neg w m (by omega) (by omega)
  · obtain ⟨m, rfl⟩ : ∃ m : Nat, n = (m : Int) := ⟨n.toNat, by omega⟩
    exact spec_NumText_pos w m (by omega) (by omega)
end Go.Proofs.YtgpimlmolcjeoaaGreatDoor
