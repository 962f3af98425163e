/-
  Contracts of UnpackBits, in the program and in the reference.
-/
import Derived.Test.YtgpimlmolcjeoaaAppend
import Derived.Test.YtgpimlmolcjeoaaBits1
import Derived.Test.YtgpimlmolcjeoaaGets
namespace Go.Proofs.Ytgpimlmolcjeoaa
open Go.RowKit
set_option linter.unusedVariables false
set_option maxRecDepth 100000

def wordTo (bs : List UInt8) (m i : Nat) : Nat → Int
  | 0 => 0
  | j + 1 => bits BinOp.or IntKind.i64 (wordTo bs m i j) (wrap64 (bitAt bs ((i : Int) * (m : Int) + (j : Int)) * 2 ^ j))
def wordsTo (bs : List UInt8) (m k : Nat) : List Int := (List.range k).map fun i => wordTo bs m i m
theorem wordsTo_snoc (bs : List UInt8) (m k : Nat) : wordsTo bs m (k + 1) = wordsTo bs m k ++ [wordTo bs m k m] := by simp [wordsTo, List.range_succ]
theorem wordsTo_len (bs : List UInt8) (m k : Nat) : (wordsTo bs m k).length = k := by simp [wordsTo]
def restOk (bs : List UInt8) (a b : Nat) : Bool := (List.range (b - a)).all fun t => bitAt bs ((a + t : Nat) : Int) == 0
theorem rest_bad {bs : List UInt8} {a b t : Nat} (h1 : a ≤ t) (h2 : t < b) (h : bitAt bs (t : Int) ≠ 0) : restOk bs a b = false := by
  unfold restOk
  rw [List.all_eq_false]
  refine ⟨t - a, by simp; omega, ?_⟩
  rw [show a + (t - a) = t from by omega]
  simpa using h
theorem rest_end {bs : List UInt8} {a b : Nat} (h : ∀ t, a ≤ t → t < b → bitAt bs (t : Int) = 0) : restOk bs a b = true := by
  unfold restOk
  rw [List.all_eq_true]
  intro t ht
  simp at ht
  have := h (a + t) (by omega) (by omega)
  simpa using this
def unpack (bs : List UInt8) (m k : Int) : Option (List Int) :=
  if inB m 0 31 = true ∧ inB k 0 64 = true ∧ (bs.length : Int) = bytesFor k m then (if restOk bs (k.toNat * m.toNat) (8 * bs.length) then some (wordsTo bs m.toNat k.toNat) else none) else none
def upL (bs : List UInt8) (m k : Int) : List Int := (unpack bs m k).getD []
def upOk (bs : List UInt8) (m k : Int) : Bool := (unpack bs m k).isSome
theorem up_nothing {bs : List UInt8} {m k : Int} (h : unpack bs m k = none) : upL bs m k = [] ∧ upOk bs m k = false := by simp [upL, upOk, h]
theorem up_out {bs : List UInt8} {m k : Int} (h : ¬ (inB m 0 31 = true ∧ inB k 0 64 = true ∧ (bs.length : Int) = bytesFor k m)) : unpack bs m k = none := by unfold unpack; rw [if_neg h]
theorem up_bad {bs : List UInt8} {m k : Nat} (hr : restOk bs (k * m) (8 * bs.length) = false) : unpack bs (m : Int) (k : Int) = none := by
  unfold unpack
  simp [hr]
theorem up_good {bs : List UInt8} {m k : Nat} (h : inB (m : Int) 0 31 = true ∧ inB (k : Int) 0 64 = true ∧ (bs.length : Int) = bytesFor (k : Int) (m : Int)) (hr : restOk bs (k * m) (8 * bs.length) = true) : upL bs (m : Int) (k : Int) = wordsTo bs m k ∧ upOk bs (m : Int) (k : Int) = true := by
  unfold upL upOk unpack
  rw [if_pos h]
  simp [hr]
theorem upL_len (bs : List UInt8) (m k : Int) : (upL bs m k).length ≤ 64 := by
  unfold upL unpack
  split
  · rename_i h
    have := h.2.1
    simp [inB] at this
    split
    · simp [wordsTo]; omega
    · simp
  · simp
theorem bytesFor_bd (k m : Int) : bytesFor k m ≤ 248 := by
  unfold bytesFor
  split
  · rename_i h
    simp [inB] at h
    have := mul_bd h.1.1 h.1.2 h.2.1 h.2.2
    omega
  · omega
theorem mulN {i K m : Nat} (h : i ≤ K) (hK : K ≤ 64) (hm : m ≤ 31) : 0 ≤ (i : Int) * (m : Int) ∧ (i : Int) * (m : Int) ≤ 1984 := mul_bd (by omega) (by omega) (by omega) (by omega)
set_option maxHeartbeats 1600000 in
theorem impl_UnpackBits (w : World) (A : Option Addr) (c : Nat) (bs : List UInt8) (hr : Reads w w.heap.size 1 A bs.length (byteCells bs)) (hl : bs.length ≤ 1099511627776) (m : Int) (hm : I64 m) (k : Int) (hk0 : I64 k) :
    Calls Try.prog 63 #[.slice A bs.length c, .int .i64 m, .int .i64 k] w fun e w' => ∃ A' c', e = .returned (.tuple #[.slice A' (upL bs m k).length c', .bool (upOk bs m k)]) ∧
      w'.ownsRow w.heap.size 3 1 (.slice A' (upL bs m k).length c') (upL bs m k).length (intCells (upL bs m k)) ∧ Below w.heap.size w w' := by
  obtain ⟨i0, hi1, hz0, hz1, hz2⟩ := info_parts info_Int
  cases hw : inB m 0 31
  · cases hk : inB k 0 64
    all_goals
    have hp := Lib.hid (up_nothing (bs := bs) (m := m) (k := k) (up_out (by rw [hw]; simp)))
    clear hr
    go_enter Try.func63, Try.ntmps63
    go_wp2_with (first | (go_at_call 59; refine (within_any _ _ _ _).mono ?_; rintro e w9 ⟨rfl, rfl⟩; first | rw [hw] | rw [hk]) | (go_at_call 91; refine (impl_BytesFor _ _ _).mono ?_; rintro e w9 ⟨rfl, rfl⟩))
    go_ret2
    rw [hp.out.1, hp.out.2]
    exact ⟨none, 0, rfl, World.ownsRow_nil _ _ _ _, (Below.refl _ _)⟩
  cases hk : inB k 0 64
  · have hp := Lib.hid (up_nothing (bs := bs) (m := m) (k := k) (up_out (by rw [hk]; simp)))
    clear hr
    go_enter Try.func63, Try.ntmps63
    go_wp2_with (first | (go_at_call 59; refine (within_any _ _ _ _).mono ?_; rintro e w9 ⟨rfl, rfl⟩; first | rw [hw] | rw [hk]) | (go_at_call 91; refine (impl_BytesFor _ _ _).mono ?_; rintro e w9 ⟨rfl, rfl⟩))
    go_ret2
    rw [hp.out.1, hp.out.2]
    exact ⟨none, 0, rfl, World.ownsRow_nil _ _ _ _, (Below.refl _ _)⟩
  by_cases hlen : (bs.length : Int) = bytesFor k m
  case neg =>
    have hp := Lib.hid (up_nothing (up_out (m := m) (k := k) (bs := bs) (by simp [hlen])))
    clear hr
    go_enter Try.func63, Try.ntmps63
    go_wp2_with (first | (go_at_call 59; refine (within_any _ _ _ _).mono ?_; rintro e w9 ⟨rfl, rfl⟩; first | rw [hw] | rw [hk]) | (go_at_call 91; refine (impl_BytesFor _ _ _).mono ?_; rintro e w9 ⟨rfl, rfl⟩))
    go_ret2
    rw [hp.out.1, hp.out.2]
    exact ⟨none, 0, rfl, World.ownsRow_nil _ _ _ _, (Below.refl _ _)⟩
  have hall3 := Lib.hid (And.intro hw (And.intro hk hlen))
  obtain ⟨M, rfl⟩ := Int.eq_ofNat_of_zero_le (show 0 ≤ m by simp [inB] at hw; omega)
  obtain ⟨K, rfl⟩ := Int.eq_ofNat_of_zero_le (show 0 ≤ k by simp [inB] at hk; omega)
  have hM : M ≤ 31 := by simp [inB] at hw; omega
  have hK : K ≤ 64 := by simp [inB] at hk; omega
  have hlb := bytesFor_bd (K : Int) (M : Int)
  go_enter Try.func63, Try.ntmps63
  go_wp2_with (first | (go_at_call 59; refine (within_any _ _ _ _).mono ?_; rintro e w9 ⟨rfl, rfl⟩; first | rw [hw] | rw [hk]) | (go_at_call 91; refine (impl_BytesFor _ _ _).mono ?_; rintro e w9 ⟨rfl, rfl⟩))
  clear hw hk
  go_loopw [8, 9] (fun o i wr => ∃ (j : Nat) (A' : Option Addr) (c' : Nat), j ≤ K ∧ i = .int .i64 j ∧ o = .slice A' j c' ∧ wr.ownsRow w.heap.size 3 1 (.slice A' j c') j (intCells (wordsTo bs M j)) ∧ Below w.heap.size w wr) (fun _ i _ => K - (intOf i).toNat)
  case atStart => exact ⟨0, _, _, Nat.zero_le _, rfl, rfl, own_empty (Nat.le_refl _), Below.alloc0 (Below.refl _ _) _⟩
  case round =>
    obtain ⟨j, A', c', hj, rfl, rfl, hown, hbl⟩ := hrel
    have hsz := hbl.size
    by_cases hjK : j < K
    · have hmul := mulN (i := j) (K := K) (m := M) (by omega) hK hM
      go_wp2_with fail
      go_loopw [10, 11] (fun n q wr' => ∃ (t : Nat), t ≤ M ∧ q = .int .i64 t ∧ n = .int .i64 (wordTo bs M j t) ∧ Below wr.heap.size wr wr') (fun _ q _ => M - (intOf q).toNat)
      case atStart => exact ⟨0, Nat.zero_le _, rfl, rfl, Below.refl _ _⟩
      case round =>
        obtain ⟨t, ht, rfl, rfl, hbl2⟩ := hrel
        by_cases htM : t < M
        · have hr2 := (hr.below (hbl.trans (hbl2.mono hsz)) (Nat.le_refl _)).more (Nat.le_trans hsz hbl2.size)
          have hwd := Lib.hid (show wordTo bs M j (t + 1) = bits BinOp.or IntKind.i64 (wordTo bs M j t) (wrap64 (bitAt bs ((j : Int) * (M : Int) + (t : Int)) * 2 ^ t)) from rfl)
          clear hown
          go_wp2_with (go_at_call 92; refine (impl_BitAt _ _ _ _ hr2 hl _ ⟨by omega, by omega⟩).mono ?_; rintro e w9 ⟨rfl, hb9⟩)
          have hbl3 := hbl2.trans (hb9.mono hbl2.size)
          go_roundw
          case rel => exact ⟨t + 1, by omega, by go_num, by rw [hwd.out], hbl3⟩
          case measure => simp [intOf]; omega
        · have htm : t = M := by omega
          subst htm
          replace hown := own_step hown hbl2
          replace hbl := hbl.trans (hbl2.mono hsz)
          replace hsz := hbl.size
          clear hbl2
          go_wp2_with (at_builtin; refine append_one rfl (.tmp 51) (.tmp 53) 28 rfl w.heap.size 3 i0 _ 1 8 Try.underlying28 hi1 hz0 hz1 hz2 rfl (by omega) (by omega) A' j c' _ rfl hown [.int .i64 (wordTo bs t j t)] _ rfl (by first | rfl | simp) rfl (by simp [Value.oneCell']) hsz (by omega) ?_; intro A2 c2 w2 hown2 hb2)
          rw [intCells_one, ← wordsTo_snoc] at hown2
          have hbl2 := hbl.trans hb2
          clear hown hb2 hbl
          go_wp2
          go_roundw
          case rel => exact ⟨j + 1, A2, c2, by omega, by go_num, rfl, hown2, hbl2⟩
          case measure => simp [intOf]; omega
    · have hjk : j = K := by omega
      subst hjk
      have hmul := mulN (i := j) (K := j) (m := M) (by omega) hK hM
      obtain ⟨z, hz⟩ : ∃ z : Nat, z = j * M := ⟨_, rfl⟩
      have hzi := Lib.hid (show (j : Int) * (M : Int) = (z : Int) by rw [hz]; simp)
      have hzb : z ≤ 1984 := by have := hzi.out; omega
      replace hz := Lib.hid hz
      go_wp2_with fail
      go_loopw [12] (fun q wr' => ∃ (t : Nat), z ≤ t ∧ (t ≤ 8 * bs.length ∨ t = z) ∧ q = .int .i64 t ∧ (∀ u, z ≤ u → u < t → bitAt bs (u : Int) = 0) ∧ Below wr.heap.size wr wr') (fun q _ => 8 * bs.length - (intOf q).toNat)
      case atStart => exact ⟨z, Nat.le_refl _, .inr rfl, by rw [← hzi.out], fun u h1 h2 => absurd h2 (by omega), Below.refl _ _⟩
      case round =>
        obtain ⟨t, hzt, ht, rfl, hall, hbl2⟩ := hrel
        have hbl4 := hbl.trans (hbl2.mono hsz)
        have hsz4 := hbl4.size
        by_cases htM : t < 8 * bs.length
        · have hr2 := (hr.below hbl4 (Nat.le_refl _)).more hsz4
          by_cases hbit : bitAt bs (t : Int) = 0
          · have hb0 : (bitAt bs (t : Int) != 0) = false := by simp [hbit]
            have hall2 : ∀ u, z ≤ u → u < t + 1 → bitAt bs (u : Int) = 0 := fun u h1 h2 => by
              by_cases hu : u < t
              · exact hall u h1 hu
              · rw [show u = t from by omega]; exact hbit
            clear hown hall hbit hbl hbl4
            go_wp2_with (go_at_call 92; refine (impl_BitAt _ _ _ _ hr2 hl _ ⟨by omega, by omega⟩).mono ?_; rintro e w9 ⟨rfl, hb9⟩)
            have hbl3 := hbl2.trans (hb9.mono hbl2.size)
            go_roundw
            case rel => exact ⟨t + 1, by omega, .inl (by omega), by go_num, hall2, hbl3⟩
            case measure => simp [intOf]; omega
          · have hb0 : (bitAt bs (t : Int) != 0) = true := by simp [hbit]
            have hbad := Lib.hid (up_nothing (up_bad (bs := bs) (m := M) (k := j) (by rw [← hz.out]; exact rest_bad hzt htM hbit)))
            clear hown hall hbit
            go_wp2_with (go_at_call 92; refine (impl_BitAt _ _ _ _ hr2 hl _ ⟨by omega, by omega⟩).mono ?_; rintro e w9 ⟨rfl, hb9⟩)
            have hbl5 := hbl4.trans (hb9.mono hsz4)
            have hsz5 := hbl5.size
            go_ret2
            rw [hbad.out.1, hbad.out.2]
            exact ⟨none, 0, rfl, World.ownsRow_nil _ _ _ _, hbl5⟩
        · have hgood := Lib.hid (up_good (bs := bs) hall3.out (by rw [← hz.out]; exact rest_end fun u h1 h2 => hall u h1 (by omega)))
          replace hown := own_step hown hbl2
          clear hall hbl2
          go_wp2
          go_ret2
          rw [hgood.out.1, hgood.out.2, wordsTo_len]
          exact ⟨_, _, rfl, hown, hbl4⟩

end Go.Proofs.Ytgpimlmolcjeoaa
