/-
  The cursor of the draws: what stands in its block; contracts of l1New and l1Byte.
-/
import Derived.Test.YtgpimlmolcjeoaaGreatDoorAppend
import Derived.Test.YtgpimlmolcjeoaaGreatDoorBoxes
import Derived.Test.YtgpimlmolcjeoaaGreatDoorArith
namespace Go.Proofs.YtgpimlmolcjeoaaGreatDoor
open Go.RowKit
set_option linter.unusedVariables false
set_option maxRecDepth 100000

theorem and_bd (a : Int) (m : Nat) (hm : m < 9223372036854775808) : 0 ≤ bits .and .i64 a (m : Int) ∧ bits .and .i64 a (m : Int) ≤ (m : Int) := by
  have e : bits .and .i64 a (m : Int) = IntKind.i64.wrap (((BitVec.ofInt 64 a).toNat &&& (m % 2 ^ 64) : Nat) : Int) := by
    simp only [bits, BitVec.ofInt_natCast, BitVec.toNat_and, BitVec.toNat_ofNat]
    rfl
  have hle : (BitVec.ofInt 64 a).toNat &&& (m % 2 ^ 64) ≤ m := Nat.le_trans Nat.and_le_right (Nat.mod_le _ _)
  rw [e, IntKind.wrap_i64]
  omega
theorem and_255 (a : Int) : 0 ≤ bits .and .i64 a 255 ∧ bits .and .i64 a 255 ≤ 255 := and_bd a 255 (by omega)
theorem and_30 (a : Int) : 0 ≤ bits .and .i64 a 1073741823 ∧ bits .and .i64 a 1073741823 ≤ 1073741823 := and_bd a 1073741823 (by omega)
def CurB (w : World) (p : Nat) (A : Option Addr) (c : Nat) (bs : List UInt8) (i : Nat) (h : Int) : Prop :=
  w.heap[p]? = some (.cells #[.slice A bs.length c, .int .i64 i, .int .i64 h] 72 (0, 0)) ∧ Reads w p 1 A bs.length (byteCells bs) ∧ i ≤ bs.length ∧ I64 h ∧ bs.length ≤ 1099511627776
def Cur (w : World) (p : Nat) : Prop := ∃ A c bs i h, CurB w p A c bs i h
theorem CurB.lt {w : World} {p : Nat} {A : Option Addr} {c : Nat} {bs : List UInt8} {i : Nat} {h : Int} (hc : CurB w p A c bs i h) : p < w.heap.size := by
  rcases Nat.lt_or_ge p w.heap.size with h1 | h1
  · exact h1
  · have := hc.1
    rw [Array.getElem?_eq_none h1] at this
    cases this
theorem CurB.cells {w : World} {p : Nat} {A : Option Addr} {c : Nat} {bs : List UInt8} {i : Nat} {h : Int} (hc : CurB w p A c bs i h) :
    w.cell? ⟨p, 0, none⟩ = some (.slice A bs.length c) ∧ w.cell? ⟨p, 1, none⟩ = some (.int .i64 i) ∧ w.cell? ⟨p, 2, none⟩ = some (.int .i64 h) ∧ w.frozen? ⟨p, 1, none⟩ = false ∧ w.frozen? ⟨p, 2, none⟩ = false := by
  obtain ⟨h1, _⟩ := hc
  refine ⟨?_, ?_, ?_, ?_, ?_⟩
  all_goals simp [World.cell?, World.frozen?, h1]
theorem Cur.below {w w' : World} {p : Nat} (hc : Cur w p) (hb : Below w.heap.size w w') : Cur w' p := by
  obtain ⟨A, c, bs, i, h, hc⟩ := hc
  exact ⟨A, c, bs, i, h, (hb.block p hc.lt).trans hc.1, hc.2.1.below hb (Nat.le_of_lt hc.lt), hc.2.2⟩
theorem CurB.turn {w : World} {p : Nat} {A : Option Addr} {c : Nat} {bs : List UInt8} {i : Nat} {h : Int} (hc : CurB w p A c bs i h) (h' : Int) (hh : I64 h') : CurB (w.setCell ⟨p, 2, none⟩ (.int .i64 h')) p A c bs i h' := by
  refine ⟨?_, hc.2.1.setCell (Nat.le_refl _) _, hc.2.2.1, hh, hc.2.2.2.2⟩
  rw [heap_setCell_same w p 2 _ _ _ hc.1]
  rfl
theorem CurB.on {w : World} {p : Nat} {A : Option Addr} {c : Nat} {bs : List UInt8} {i : Nat} {h : Int} (hc : CurB w p A c bs i h) (i' : Nat) (hi : i' ≤ bs.length) : CurB (w.setCell ⟨p, 1, none⟩ (.int .i64 i')) p A c bs i' h := by
  refine ⟨?_, hc.2.1.setCell (Nat.le_refl _) _, hi, hc.2.2.2.1, hc.2.2.2.2⟩
  rw [heap_setCell_same w p 1 _ _ _ hc.1]
  rfl
set_option maxHeartbeats 400000 in
theorem l1New_any (w : World) (A : Option Addr) (c : Nat) (bs : List UInt8) (hr : Reads w w.heap.size 1 A bs.length (byteCells bs)) (hl : bs.length ≤ 1099511627776) :
    Calls Tryz.prog 26 #[.slice A bs.length c] w fun e w' => ∃ p, e = .returned (.pointer (some ⟨p, 0, none⟩)) ∧ w.heap.size ≤ p ∧ Cur w' p ∧ Below w.heap.size w w' := by
  go_enter Tryz.func26, Tryz.ntmps26
  go_wp2
  go_loopw [3, 4] (fun q i wr => ∃ (k : Nat) (h : Int), k ≤ bs.length ∧ i = .int .i64 k ∧ q = .int .i64 h ∧ I64 h ∧ Below w.heap.size w wr) (fun _ i _ => bs.length - (intOf i).toNat)
  case atStart => exact ⟨0, _, Nat.zero_le _, rfl, rfl, ⟨by omega, by omega⟩, Below.refl _ _⟩
  case round =>
    obtain ⟨k, h, hk, rfl, rfl, hh, hbl⟩ := hrel
    by_cases hlt : k < bs.length ∧ k < 4000
    · obtain ⟨hlt1, hlt2⟩ := hlt
      obtain ⟨b, off, x, rfl, hb, hx, hc⟩ := hr.byte hlt1
      have hrd : wr.cell? ⟨b, off + k, none⟩ = some (.int .u8 (x.toNat : Int)) := (hbl.cell (p := ⟨b, off + k, none⟩) hb).trans hc
      clear hr hc
      go_wp2
      go_roundw
      case rel => exact ⟨k + 1, _, by omega, by go_num, rfl, ⟨Int.le_trans (by omega) (and_30 _).1, Int.le_trans (and_30 _).2 (by omega)⟩, hbl⟩
      case measure => simp [intOf]; omega
    · rcases (show k = bs.length ∨ (k < bs.length ∧ 4000 ≤ k) by omega) with hkn | ⟨hkn, hk4⟩
      all_goals
        go_wp2
        go_ret
        refine ⟨wr.heap.size, rfl, hbl.size, ⟨A, c, bs, 0, h, heap_alloc_new _ _, ((hr.below hbl (Nat.le_refl _)).more hbl.size).alloc (Nat.le_refl _) _, Nat.zero_le _, hh, hl⟩, hbl.alloc hbl.size _⟩
theorem grown_drewN {w w' : World} {row : Option Nat} (h : w.grownBy w' row) (n : Nat) : w.grownBy (w'.drewN n) row := ⟨h.os, h.tape, h.output, h.size, h.block⟩
theorem wrap64_I64 (n : Int) : I64 (wrap64 n) := by
  unfold wrap64 I64
  omega
set_option maxHeartbeats 800000 in
theorem l1Byte_any (w : World) (p : Nat) (hc : Cur w p) :
    Calls Tryz.prog 49 #[.pointer (some ⟨p, 0, none⟩)] w fun e w' => ∃ x : Nat, e = .returned (.int .i64 (x : Int)) ∧ x ≤ 255 ∧ Cur w' p ∧ w.grownBy w' (some p) := by
  obtain ⟨A, c, bs, i, h, hc⟩ := hc
  obtain ⟨c0, c1, c2, f1, f2⟩ := hc.cells
  go_enter Tryz.func49, Tryz.ntmps49
  go_wp2
  obtain ⟨h1, hh1⟩ : ∃ h1, h1 = wrap64 (wrap64 (h * 6364136223846793005) + 1442695040888963407) := ⟨_, rfl⟩
  rw [← hh1]
  have hI : I64 h1 := by rw [hh1]; exact wrap64_I64 _
  have hc2 := hc.turn h1 hI
  have hg := grown_set w p 2 (.int .i64 h1)
  generalize w.setCell ⟨p, 2, none⟩ (.int .i64 h1) = W at hc2 hg ⊢
  clear hh1 hc c0 c1 c2 f1 f2
  obtain ⟨c0, c1, c2, f1, f2⟩ := hc2.cells
  go_quiet (fail)
  obtain ⟨W2, hW2⟩ : ∃ W2, W2 = W.drewN nq := ⟨_, rfl⟩
  rw [← hW2]
  have hc3 : CurB W2 p A c bs i h1 := by rw [hW2]; exact hc2
  have hg3 : w.grownBy W2 (some p) := by rw [hW2]; exact grown_drewN hg nq
  clear hW2 hc2 hg c0 c1 c2 f1 f2
  obtain ⟨c0, c1, c2, f1, f2⟩ := hc3.cells
  go_wp2
  have hbd := and_255 (bits .xor .i64 (h1 / 8589934592) (h1 / 140737488355328))
  obtain ⟨x, hx⟩ := Int.eq_ofNat_of_zero_le hbd.1
  rw [hx]
  have hx255 : x ≤ 255 := by omega
  clear hx hbd
  by_cases hib : i < bs.length
  · go_quiet (fail)
    obtain ⟨W3, hW⟩ : ∃ W3, W3 = W2.drewN nq := ⟨_, rfl⟩
    rw [← hW]
    have hc4 : CurB W3 p A c bs i h1 := by rw [hW]; exact hc3
    have hg4 : w.grownBy W3 (some p) := by rw [hW]; exact grown_drewN hg3 nq
    clear hW hc3 hg3 c0 c1 c2 f1 f2
    obtain ⟨c0, c1, c2, f1, f2⟩ := hc4.cells
    go_wp2
    obtain ⟨b, off, y, rfl, hb, hy, hcy⟩ := hc4.2.1.byte hib
    go_quiet (fail)
    obtain ⟨W4, hW⟩ : ∃ W4, W4 = W3.drewN nq := ⟨_, rfl⟩
    rw [← hW]
    have hc5 : CurB W4 p (some ⟨b, off, none⟩) c bs i h1 := by rw [hW]; exact hc4
    have hg5 : w.grownBy W4 (some p) := by rw [hW]; exact grown_drewN hg4 nq
    clear hW hc4 hg4 c0 c1 c2 f1 f2
    obtain ⟨c0, c1, c2, f1, f2⟩ := hc5.cells
    clear hcy hy
    have hbd := and_255 (wrap64 ((x : Int) + wrap64 (y.toNat : Int)))
    obtain ⟨x2, hx2⟩ := Int.eq_ofNat_of_zero_le hbd.1
    rw [hx2]
    have hx255' : x2 ≤ 255 := by omega
    have hc6 := hc5.on (i + 1) hib
    have hg6 := hg5.trans (grown_set W4 p 1 (.int .i64 ((i + 1 : Nat) : Int)))
    rw [Int.natCast_add, Int.natCast_one] at hc6 hg6
    have hi64 : i ≤ 1099511627776 := by have := hc5.2.2.2.2; omega
    clear hx2 hbd hc5 hg5
    go_wp2
    go_ret
    exact ⟨x2, rfl, hx255', ⟨_, _, _, _, _, hc6⟩, hg6⟩
  · go_quiet (fail)
    obtain ⟨W3, hW⟩ : ∃ W3, W3 = W2.drewN nq := ⟨_, rfl⟩
    rw [← hW]
    have hc4 : CurB W3 p A c bs i h1 := by rw [hW]; exact hc3
    have hg4 : w.grownBy W3 (some p) := by rw [hW]; exact grown_drewN hg3 nq
    clear hW hc3 hg3 c0 c1 c2 f1 f2
    obtain ⟨c0, c1, c2, f1, f2⟩ := hc4.cells
    go_wp2
    go_ret
    exact ⟨x, rfl, hx255, ⟨_, _, _, _, _, hc4⟩, hg4⟩
end Go.Proofs.YtgpimlmolcjeoaaGreatDoor
