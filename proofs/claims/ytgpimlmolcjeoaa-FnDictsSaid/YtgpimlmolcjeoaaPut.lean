/-
  Contracts of PutNum, in the program and in the reference.
-/
import Derived.Test.YtgpimlmolcjeoaaAppend
namespace Go.Proofs.Ytgpimlmolcjeoaa
open Go.RowKit
set_option linter.unusedVariables false
set_option maxRecDepth 100000

def numTail (x : Nat) : List UInt8 := if h : 128 ≤ x then UInt8.ofNat (x % 128 + 128) :: numTail (x / 128) else [UInt8.ofNat x]
termination_by x
decreasing_by omega
theorem numTail_more {x : Nat} (h : 128 ≤ x) : numTail x = UInt8.ofNat (x % 128 + 128) :: numTail (x / 128) := by rw [numTail, dif_pos h]
theorem numTail_end {x : Nat} (h : ¬ 128 ≤ x) : numTail x = [UInt8.ofNat x] := by rw [numTail, dif_neg h]
theorem numTail_len : ∀ (f x : Nat), x < 128 ^ (f + 1) → (numTail x).length ≤ f + 1
  | 0, x, h => by rw [numTail_end (by omega)]; simp
  | f + 1, x, h => by
    by_cases hx : 128 ≤ x
    · rw [numTail_more hx]
      have := numTail_len f (x / 128) (by rw [Nat.pow_succ] at h; exact Nat.div_lt_of_lt_mul (by omega))
      simp; omega
    · rw [numTail_end hx]; simp
def putNum (bs : List UInt8) (n : Int) : List UInt8 := if inB n (-1000000000) 1000000000 then bs ++ numTail (zig n).toNat else bs
theorem zig_bd (n : Int) : 0 ≤ zig n ∧ zig n ≤ 2000000000 := by
  unfold zig inB
  split
  · rename_i h
    simp at h
    split <;> omega
  · omega
theorem putNum_len (bs : List UInt8) (n : Int) : (putNum bs n).length ≤ bs.length + 5 := by
  unfold putNum
  split
  · have := zig_bd n
    have := numTail_len 4 (zig n).toNat (by omega)
    simp; omega
  · omega
theorem putNum_bad {bs : List UInt8} {n : Int} (h : inB n (-1000000000) 1000000000 = false) : putNum bs n = bs := by unfold putNum; rw [h]; rfl
theorem putNum_good {bs : List UInt8} {n : Int} (h : inB n (-1000000000) 1000000000 = true) : putNum bs n = bs ++ numTail (zig n).toNat := by unfold putNum; rw [h]; rfl
theorem byteCells_one (bs : List UInt8) (b : UInt8) : byteCells (bs ++ [b]) = byteCells bs ++ [.int .u8 (b.toNat : Int)] := by simp [byteCells, byteV]
theorem byteCells_len (bs : List UInt8) : (byteCells bs).length = bs.length := by simp [byteCells]
theorem byteCells_one' (bs : List UInt8) : ∀ u ∈ byteCells bs, u.oneCell' = true := by
  intro u hu
  simp [byteCells] at hu
  obtain ⟨b, -, rfl⟩ := hu
  rfl
theorem own_blen {w : World} {base n c : Nat} {e : TypeId} {A : Option Addr} {L : List UInt8} (h : w.ownsRow base e 1 (.slice A n c) n (byteCells L)) : n = L.length := by
  have := h.1
  rw [byteCells_len] at this
  omega

theorem byte_ofNat {m : Nat} (h : m < 256) : ((UInt8.ofNat m).toNat : Int) = (m : Int) := by
  rw [UInt8.toNat_ofNat']; omega
theorem byteCells_more (L : List UInt8) (a : Nat) : byteCells L ++ [.int .u8 ((a : Int) % 128 + 128)] = byteCells (L ++ [UInt8.ofNat (a % 128 + 128)]) := by
  rw [byteCells_one, byte_ofNat (by omega)]
  simp
theorem byteCells_more2 (L : List UInt8) (a : Nat) : byteCells L ++ [.int .u8 (128 + (a : Int) % 128)] = byteCells (L ++ [UInt8.ofNat (a % 128 + 128)]) := by
  rw [byteCells_one, byte_ofNat (by omega)]
  simp; omega
theorem byteCells_last (L : List UInt8) (a : Nat) (h : a < 256) : byteCells L ++ [.int .u8 (a : Int)] = byteCells (L ++ [UInt8.ofNat a]) := by
  rw [byteCells_one, byte_ofNat h]
theorem put_more {P : List UInt8} {L : List UInt8} {a : Nat} (h : Hid (P = L ++ numTail a)) (ha : 128 ≤ a) : Hid (P = (L ++ [UInt8.ofNat (a % 128 + 128)]) ++ numTail (a / 128)) := by
  refine Lib.hid ?_
  rw [h.out, numTail_more ha]; simp
theorem put_end {P : List UInt8} {L : List UInt8} {a : Nat} (h : Hid (P = L ++ numTail a)) (ha : ¬ 128 ≤ a) : Hid (P = L ++ [UInt8.ofNat a]) := by
  refine Lib.hid ?_
  rw [h.out, numTail_end ha]

set_option maxHeartbeats 800000 in
theorem impl_cloneBytes (w : World) (A : Option Addr) (c : Nat) (bs : List UInt8) (hr : Reads w w.heap.size 1 A bs.length (byteCells bs)) (hA : A = none → bs.length = 0 ∧ c = 0) (hl : bs.length ≤ 1000000000000) :
    Calls Try.prog 78 #[.slice A bs.length c] w fun e w' => ∃ A' c', e = .returned (.slice A' bs.length c') ∧
      w'.ownsRow w.heap.size 5 1 (.slice A' bs.length c') bs.length (byteCells bs) ∧ Below w.heap.size w w' := by
  obtain ⟨i0, hi0, hz0, hz1, hz2⟩ := info_parts info_Byte
  go_enter Try.func78, Try.ntmps78
  go_wp2_with (at_builtin; refine append_slice rfl (.tmp 3) (.tmp 4) 22 rfl w.heap.size 5 i0 _ 1 1 Try.underlying22 hi0 hz0 hz1 hz2 rfl (by omega) (by omega) (some ⟨w.heap.size, 0, none⟩) 0 0 _ rfl (own_empty (Nat.le_refl _)) w.heap.size bs.length c A _ rfl hA (hr.alloc (Nat.le_refl _) _) (byteCells_one' _) (by simp) (by omega) (by omega) ?_; intro A2 c2 w2 hown2 hb2)
  rw [Nat.zero_add, List.nil_append] at hown2
  have hbl := (Below.alloc0 (Below.refl w.heap.size w) _).trans hb2
  go_ret
  exact ⟨_, _, rfl, hown2, hbl⟩
set_option maxHeartbeats 1600000 in
theorem impl_PutNum (w : World) (A : Option Addr) (c : Nat) (bs : List UInt8) (hr : Reads w w.heap.size 1 A bs.length (byteCells bs)) (hA : A = none → bs.length = 0 ∧ c = 0) (hl : bs.length ≤ 1000000000000) (n : Int) :
    Calls Try.prog 48 #[.slice A bs.length c, .int .i64 n] w fun e w' => ∃ A' c', e = .returned (.slice A' (putNum bs n).length c') ∧
      w'.ownsRow w.heap.size 5 1 (.slice A' (putNum bs n).length c') (putNum bs n).length (byteCells (putNum bs n)) ∧ Below w.heap.size w w' := by
  obtain ⟨i0, hi0, hz0, hz1, hz2⟩ := info_parts info_Byte
  cases hin : inB n (-1000000000) 1000000000
  · rw [putNum_bad hin]
    go_enter Try.func48, Try.ntmps48
    go_wp2_with fail
    refine (impl_cloneBytes _ _ _ _ hr hA hl).mono ?_
    rintro e w1 ⟨A1, c1, rfl, hown, hbl⟩
    clear hr
    go_wp2_with (go_at_call 83; refine (isNum_any _ _).mono ?_; rintro e w' ⟨rfl, rfl⟩; rw [hin])
    go_ret
    exact ⟨_, _, rfl, hown, hbl⟩
  · have hp := Lib.hid (putNum_good (bs := bs) hin)
    have hzb := zig_bd n
    go_enter Try.func48, Try.ntmps48
    go_wp2_with fail
    refine (impl_cloneBytes _ _ _ _ hr hA hl).mono ?_
    rintro e w1 ⟨A1, c1, rfl, hown, hbl⟩
    clear hr
    go_wp2_with fail
    refine (isNum_any _ _).mono ?_
    rintro e w' ⟨rfl, rfl⟩
    rw [hin]
    go_wp2_with fail
    refine (impl_ZigZag _ _).mono ?_
    rintro e w' ⟨rfl, rfl⟩
    obtain ⟨z, hz⟩ := Int.eq_ofNat_of_zero_le hzb.1
    rw [hz, Int.toNat_natCast] at hp
    rw [hz]
    have hzb' : z ≤ 2000000000 := by omega
    clear hz hzb hin
    go_wp2_with fail
    go_loopw [5, 6] (fun o x wr => ∃ (L : List UInt8) (a : Nat) (A' : Option Addr) (c' : Nat), x = .int .i64 a ∧ o = .slice A' L.length c' ∧ wr.ownsRow w.heap.size 5 1 (.slice A' L.length c') L.length (byteCells L) ∧ L.length + a ≤ bs.length + 2000000000 ∧ Hid (putNum bs n = L ++ numTail a) ∧ Below w.heap.size w wr) (fun _ x _ => (intOf x).toNat)
    case atStart => exact ⟨bs, z, _, _, rfl, rfl, hown, by omega, hp, hbl⟩
    case round =>
      clear hown hbl hp hzb'
      obtain ⟨L, a, A', c', rfl, rfl, hown, hla, hp, hbl⟩ := hrel
      have hsz := hbl.size
      by_cases h128 : 128 ≤ a
      · have hp2 := put_more hp h128
        clear hp
        go_wp2_with (at_builtin; refine append_one rfl (.tmp 17) (.tmp 22) 22 rfl w.heap.size 5 i0 _ 1 1 Try.underlying22 hi0 hz0 hz1 hz2 rfl (by omega) (by omega) A' L.length c' _ rfl hown [.int .u8 ((a : Int) % 128 + 128)] _ rfl (by first | rfl | simp) rfl (by simp [Value.oneCell']) hsz (by omega) ?_; intro A2 c2 w2 hown2 hb2)
        rw [byteCells_more] at hown2
        have hbl2 := hbl.trans hb2
        clear hown hb2 hbl
        go_wp2
        go_roundw
        case rel => exact ⟨L ++ [UInt8.ofNat (a % 128 + 128)], a / 128, A2, c2, by go_num, by simp, by simpa using hown2, by simp; omega, hp2, hbl2⟩
        case measure => simp [intOf]; omega
      · have hp2 := put_end hp h128
        clear hp
        go_wp2_with (at_builtin; refine append_one rfl (.tmp 26) (.tmp 29) 22 rfl w.heap.size 5 i0 _ 1 1 Try.underlying22 hi0 hz0 hz1 hz2 rfl (by omega) (by omega) A' L.length c' _ rfl hown [.int .u8 (a : Int)] _ rfl (by first | rfl | simp) rfl (by simp [Value.oneCell']) hsz (by omega) ?_; intro A2 c2 w2 hown2 hb2)
        rw [byteCells_last _ _ (by omega)] at hown2
        have hbl2 := hbl.trans hb2
        clear hown hb2 hbl
        go_wp2
        go_ret
        rw [hp2.out]
        exact ⟨A2, c2, by simp, by simpa using hown2, hbl2⟩
set_option maxHeartbeats 1600000 in
theorem spec_PutNum (w : World) (A : Option Addr) (c : Nat) (bs : List UInt8) (hr : Reads w w.heap.size 1 A bs.length (byteCells bs)) (hA : A = none → bs.length = 0 ∧ c = 0) (hl : bs.length ≤ 1000000000000) (n : Int) :
    Calls Try.prog 54 #[.slice A bs.length c, .int .i64 n] w fun e w' => ∃ A' c', e = .returned (.slice A' (putNum bs n).length c') ∧
      w'.ownsRow w.heap.size 5 1 (.slice A' (putNum bs n).length c') (putNum bs n).length (byteCells (putNum bs n)) ∧ Below w.heap.size w w' := by
  obtain ⟨i0, hi0, hz0, hz1, hz2⟩ := info_parts info_Byte
  cases hin : inB n (-1000000000) 1000000000
  · rw [putNum_bad hin]
    go_enter Try.func54, Try.ntmps54
    go_wp2_with (at_builtin; refine append_slice rfl (.tmp 7) (.tmp 8) 22 rfl w.heap.size 5 i0 _ 1 1 Try.underlying22 hi0 hz0 hz1 hz2 rfl (by omega) (by omega) (some ⟨w.heap.size, 0, none⟩) 0 0 _ rfl (own_empty (Nat.le_refl _)) w.heap.size bs.length c A _ rfl hA (hr.alloc (Nat.le_refl _) _) (byteCells_one' _) (by simp) (by omega) (by omega) ?_; intro A1 c1 w1 hown hbl)
    rw [Nat.zero_add, List.nil_append] at hown
    replace hbl := (Below.alloc0 (Below.refl w.heap.size w) _).trans hbl
    clear hr
    go_wp2_with (go_at_call 87; refine (l1Right_any _ _).mono ?_; rintro e w' ⟨rfl, rfl⟩; rw [hin])
    go_ret
    exact ⟨_, _, rfl, hown, hbl⟩
  · have hp := Lib.hid (putNum_good (bs := bs) hin)
    have hzb := zig_bd n
    go_enter Try.func54, Try.ntmps54
    go_wp2_with (at_builtin; refine append_slice rfl (.tmp 7) (.tmp 8) 22 rfl w.heap.size 5 i0 _ 1 1 Try.underlying22 hi0 hz0 hz1 hz2 rfl (by omega) (by omega) (some ⟨w.heap.size, 0, none⟩) 0 0 _ rfl (own_empty (Nat.le_refl _)) w.heap.size bs.length c A _ rfl hA (hr.alloc (Nat.le_refl _) _) (byteCells_one' _) (by simp) (by omega) (by omega) ?_; intro A1 c1 w1 hown hbl)
    rw [Nat.zero_add, List.nil_append] at hown
    replace hbl := (Below.alloc0 (Below.refl w.heap.size w) _).trans hbl
    clear hr
    go_wp2_with fail
    refine (l1Right_any _ _).mono ?_
    rintro e w' ⟨rfl, rfl⟩
    rw [hin]
    go_wp2_with fail
    refine (spec_ZigZag _ _).mono ?_
    rintro e w' ⟨rfl, rfl⟩
    obtain ⟨z, hz⟩ := Int.eq_ofNat_of_zero_le hzb.1
    rw [hz, Int.toNat_natCast] at hp
    rw [hz]
    have hzb' : z ≤ 2000000000 := by omega
    clear hz hzb hin
    go_wp2_with fail
    go_loopw [5, 6] (fun o x wr => ∃ (L : List UInt8) (a : Nat) (A' : Option Addr) (c' : Nat), x = .int .i64 a ∧ o = .slice A' L.length c' ∧ wr.ownsRow w.heap.size 5 1 (.slice A' L.length c') L.length (byteCells L) ∧ L.length + a ≤ bs.length + 2000000000 ∧ Hid (putNum bs n = L ++ numTail a) ∧ Below w.heap.size w wr) (fun _ x _ => (intOf x).toNat)
    case atStart => exact ⟨bs, z, _, _, rfl, rfl, hown, by omega, hp, hbl⟩
    case round =>
      clear hown hbl hp hzb'
      obtain ⟨L, a, A', c', rfl, rfl, hown, hla, hp, hbl⟩ := hrel
      have hsz := hbl.size
      by_cases h128 : 128 ≤ a
      · have hp2 := put_more hp h128
        clear hp
        go_wp2_with (at_builtin; refine append_one rfl (.tmp 18) (.tmp 23) 22 rfl w.heap.size 5 i0 _ 1 1 Try.underlying22 hi0 hz0 hz1 hz2 rfl (by omega) (by omega) A' L.length c' _ rfl hown [.int .u8 (128 + (a : Int) % 128)] _ rfl (by first | rfl | simp) rfl (by simp [Value.oneCell']) hsz (by omega) ?_; intro A2 c2 w2 hown2 hb2)
        rw [byteCells_more2] at hown2
        have hbl2 := hbl.trans hb2
        clear hown hb2 hbl
        go_wp2
        go_roundw
        case rel => exact ⟨L ++ [UInt8.ofNat (a % 128 + 128)], a / 128, A2, c2, by go_num, by simp, by simpa using hown2, by simp; omega, hp2, hbl2⟩
        case measure => simp [intOf]; omega
      · have hp2 := put_end hp h128
        clear hp
        go_wp2_with (at_builtin; refine append_one rfl (.tmp 27) (.tmp 30) 22 rfl w.heap.size 5 i0 _ 1 1 Try.underlying22 hi0 hz0 hz1 hz2 rfl (by omega) (by omega) A' L.length c' _ rfl hown [.int .u8 (a : Int)] _ rfl (by first | rfl | simp) rfl (by simp [Value.oneCell']) hsz (by omega) ?_; intro A2 c2 w2 hown2 hb2)
        rw [byteCells_last _ _ (by omega)] at hown2
        have hbl2 := hbl.trans hb2
        clear hown hb2 hbl
        go_wp2
        go_ret
        rw [hp2.out]
        exact ⟨A2, c2, by simp, by simpa using hown2, hbl2⟩
end Go.Proofs.Ytgpimlmolcjeoaa
