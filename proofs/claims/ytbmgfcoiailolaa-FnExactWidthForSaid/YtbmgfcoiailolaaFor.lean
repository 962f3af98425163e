/-
  Contracts of WidthFor, in the program and in the reference.
-/
import Derived.Test.YtbmgfcoiailolaaWidth
import Derived.Test.YtbmgfcoiailolaaFlat
namespace Go.Proofs.Ytbmgfcoiailolaa
open Go.RowKit
set_option linter.unusedVariables false
set_option maxRecDepth 100000

def widthFor (xs : List Int) : Int := (xs.map widthOf).foldl max 0
theorem widthFor_snoc {xs : List Int} {k : Nat} {x : Int} (h : xs[k]? = some x) : widthFor (xs.take (k + 1)) = max (widthFor (xs.take k)) (widthOf x) := by
  unfold widthFor
  rw [List.take_add_one, h]
  simp [List.foldl_append]

set_option maxHeartbeats 800000 in
theorem impl_WidthFor (w : World) (A : Option Addr) (c : Nat) (xs : List Int) (hr : Reads w w.heap.size 1 A xs.length (intCells xs)) (hl : xs.length ≤ 1099511627776) (hi : ∀ x ∈ xs, I64 x) :
    Calls Try.prog 19 #[.slice A xs.length c] w fun e w' => e = .returned (.int .i64 (widthFor xs)) ∧ Below w.heap.size w w' := by
  go_enter Try.func19, Try.ntmps19
  go_wp2
  go_loopw [3, 8] (fun o i wr => ∃ (k m : Nat), k ≤ xs.length ∧ m ≤ 31 ∧ i = .int .i64 k ∧ o = .int .i64 m ∧ Hid (widthFor (xs.take k) = m) ∧ Below w.heap.size w wr) (fun _ i _ => xs.length - (intOf i).toNat)
  case atStart => exact ⟨0, 0, Nat.zero_le _, by omega, rfl, rfl, Lib.hid rfl, Below.refl _ _⟩
  case round =>
    obtain ⟨k, m, hk, hm, rfl, rfl, hw, hbl⟩ := hrel
    by_cases hlt : k < xs.length
    · obtain ⟨p, off, x, rfl, hb, hx, hc⟩ := hr.int hlt
      have hd : wr.cell? ⟨p, off + k, none⟩ = some (.int .i64 x) := (hbl.cell (p := ⟨p, off + k, none⟩) hb).trans hc
      have hix := hi x (List.mem_of_getElem? hx.out)
      have hbd := widthOf_bd x
      have hs := widthFor_snoc hx.out
      rw [hw.out] at hs
      obtain ⟨q, hq⟩ := Int.eq_ofNat_of_zero_le hbd.1
      rw [hq] at hs
      have hq31 : q ≤ 31 := by omega
      have hs' := Lib.hid hs
      clear hr hc hs hw hbd
      have hgo := impl_WidthOf wr x hix
      rw [hq] at hgo
      clear hq hix
      by_cases hmq : m ≤ q
      · rw [show max (m : Int) (q : Int) = (q : Int) by omega] at hs'
        go_wp2_with (go_at_call 48; refine hgo.mono ?_; rintro e w9 ⟨rfl, hb9⟩)
        have hbl2 := hbl.trans (hb9.mono hbl.size)
        go_roundw
        case rel => exact ⟨k + 1, q, by omega, hq31, by go_num, by go_num, hs', hbl2⟩
        case measure => simp [intOf]; omega
      · rw [show max (m : Int) (q : Int) = (m : Int) by omega] at hs'
        go_wp2_with (go_at_call 48; refine hgo.mono ?_; rintro e w9 ⟨rfl, hb9⟩)
        have hbl2 := hbl.trans (hb9.mono hbl.size)
        go_roundw
        case rel => exact ⟨k + 1, m, by omega, hm, by go_num, by go_num, hs', hbl2⟩
        case measure => simp [intOf]; omega
    · have hkn : k = xs.length := by omega
      subst hkn
      rw [List.take_of_length_le (Nat.le_refl _)] at hw
      go_wp2
      go_ret
      rw [hw.out]
      exact ⟨rfl, hbl⟩
theorem spec_WidthOf_at (w : World) (x : Int) (q : Nat) (hix : I64 x) (hq : widthOf x = (q : Int)) : Calls Try.prog 47 #[.int .i64 x] w fun e w' => e = .returned (.int .i64 (q : Int)) ∧ Below w.heap.size w w' := by
  have := spec_WidthOf w x hix
  rw [hq] at this
  exact this
set_option maxHeartbeats 800000 in
theorem spec_WidthFor (w : World) (A : Option Addr) (c : Nat) (xs : List Int) (hr : Reads w w.heap.size 1 A xs.length (intCells xs)) (hl : xs.length ≤ 1099511627776) (hi : ∀ x ∈ xs, I64 x) :
    Calls Try.prog 17 #[.slice A xs.length c] w fun e w' => e = .returned (.int .i64 (widthFor xs)) ∧ Below w.heap.size w w' := by
  go_enter Try.func17, Try.ntmps17
  go_wp2
  go_loopw [3, 4] (fun o i wr => ∃ (k m : Nat), k ≤ xs.length ∧ m ≤ 31 ∧ i = .int .i64 k ∧ o = .int .i64 m ∧ Hid (widthFor (xs.take k) = m) ∧ Below w.heap.size w wr) (fun _ i _ => xs.length - (intOf i).toNat)
  case atStart => exact ⟨0, 0, Nat.zero_le _, by omega, rfl, rfl, Lib.hid rfl, Below.refl _ _⟩
  case round =>
    obtain ⟨k, m, hk, hm, rfl, rfl, hw, hbl⟩ := hrel
    by_cases hlt : k < xs.length
    · obtain ⟨p, off, x, rfl, hb, hx, hc⟩ := hr.int hlt
      have hd : wr.cell? ⟨p, off + k, none⟩ = some (.int .i64 x) := (hbl.cell (p := ⟨p, off + k, none⟩) hb).trans hc
      have hix := hi x (List.mem_of_getElem? hx.out)
      have hbd := widthOf_bd x
      have hs := widthFor_snoc hx.out
      rw [hw.out] at hs
      obtain ⟨q, hq⟩ := Int.eq_ofNat_of_zero_le hbd.1
      rw [hq] at hs
      have hq31 : q ≤ 31 := by omega
      have hs' := Lib.hid hs
      clear hr hc hs hw hbd
      by_cases hmq : m ≤ q
      · rw [show max (m : Int) (q : Int) = (q : Int) by omega] at hs'
        rcases (show m < q ∨ m = q by omega) with hmq2 | rfl
        · go_wp2_with fail
          refine (spec_WidthOf_at _ x q hix hq).mono ?_
          rintro e w9 ⟨rfl, hb9⟩
          have hd9 := cell_keep hb9 hd
          go_wp2_with fail
          refine (spec_WidthOf_at _ x q hix hq).mono ?_
          rintro e w10 ⟨rfl, hb10⟩
          have hbl2 := (hbl.trans (hb9.mono hbl.size)).trans (hb10.mono (Nat.le_trans hbl.size hb9.size))
          clear hd hd9 hb9 hb10
          go_wp2
          go_roundw
          case rel => exact ⟨k + 1, q, by omega, hq31, by go_num, by go_num, hs', hbl2⟩
          case measure => simp [intOf]; omega
        go_wp2_with fail
        refine (spec_WidthOf_at _ x _ hix hq).mono ?_
        rintro e w9 ⟨rfl, hb9⟩
        have hbl2 := hbl.trans (hb9.mono hbl.size)
        go_wp2
        go_roundw
        case rel => exact ⟨k + 1, m, by omega, hq31, by go_num, by go_num, hs', hbl2⟩
        case measure => simp [intOf]; omega
      · rw [show max (m : Int) (q : Int) = (m : Int) by omega] at hs'
        go_wp2_with fail
        refine (spec_WidthOf_at _ x q hix hq).mono ?_
        rintro e w9 ⟨rfl, hb9⟩
        go_wp2
        have hbl2 := hbl.trans (hb9.mono hbl.size)
        go_roundw
        case rel => exact ⟨k + 1, m, by omega, hm, by go_num, by go_num, hs', hbl2⟩
        case measure => simp [intOf]; omega
    · have hkn : k = xs.length := by omega
      subst hkn
      rw [List.take_of_length_le (Nat.le_refl _)] at hw
      go_wp2
      go_ret
      rw [hw.out]
      exact ⟨rfl, hbl⟩
end Go.Proofs.Ytbmgfcoiailolaa
