/-
  Contracts of bytes drawn, of DrawPutNum, and of the laws' same, at and big; the plain law that a number is read back from its bytes.
-/
import Derived.Test.YtgpimlmolcjeoaaGreatDoorDraw
import Derived.Test.YtgpimlmolcjeoaaGreatDoorGet
namespace Go.Proofs.YtgpimlmolcjeoaaGreatDoor
open Go.RowKit
set_option linter.unusedVariables false
set_option maxRecDepth 100000

theorem grown_below {w0 w w' : World} {row : Option Nat} (hg : w0.grownBy w row) (hb : Below w0.heap.size w w') : w0.grownBy w' row :=
  ⟨hb.os.trans hg.os, hb.tape.trans hg.tape, hb.output.trans hg.output, Nat.le_trans hg.size hb.size, fun k hk hne => (hb.block k hk).trans (hg.block k hk hne)⟩
theorem Cur.below' {w w' : World} {p B : Nat} (hc : Cur w p) (hb : Below B w w') (hp : p < B) : Cur w' p := by
  obtain ⟨A, c, bs, i, h, hc⟩ := hc
  exact ⟨A, c, bs, i, h, (hb.block p hp).trans hc.1, hc.2.1.below hb (Nat.le_of_lt hp), hc.2.2⟩
theorem own_cur {w w' : World} {base size n : Nat} {e : TypeId} {v : Value} {xs : List Value} {p : Nat} (h : w.ownsRow base e size v n xs) (hg : w.grownBy w' (some p)) (hp : p < base) : w'.ownsRow base e size v n xs := by
  refine h.kept hg ?_
  cases hv : v.ownBlock with
  | none => exact .inl rfl
  | some k => exact .inr fun he => by have := (h.lt k hv).1; have := Option.some.inj he; omega
theorem big_any (w : World) (A : Option Addr) (n c : Nat) :
    Calls Tryz.prog 4 #[.slice A n c] w fun e w' => e = .returned (.bool (decide (1048576 < (n : Int)))) ∧ w = w' := by
  go_enter Tryz.func4, Tryz.ntmps4
  go_wp2
  go_ret
  exact ⟨ret_bool (by simp), rfl⟩

theorem zag_zig {n : Int} (h : inB n (-1000000000) 1000000000 = true) : zag (zig n) = n := by
  have hn := inB_iff.1 h
  have e : zig n = if n < 0 then -2 * n - 1 else 2 * n := by unfold zig; rw [h]; rfl
  have hb : inB (zig n) 0 2000000000 = true := inB_true (zig_bd n)
  unfold zag
  rw [hb, e]
  simp only [if_true]
  by_cases hneg : n < 0
  · rw [if_pos hneg, if_pos (by omega)]
    omega
  · rw [if_neg hneg, if_neg (by omega)]
    omega
theorem getGo_tail {bs : List UInt8} {p : Nat} : ∀ (f i x z : Nat), (numTail z).length ≤ f → (∀ j, j < (numTail z).length → bs[p + i + j]? = (numTail z)[j]?) → (0 < i → 0 < z) → x + z * 128 ^ i ≤ 2000000000 →
    getGo bs p f i x = some (zag ((x + z * 128 ^ i : Nat) : Int), p + i + (numTail z).length) := by
  intro f
  induction f with
  | zero =>
    intro i x z h1
    have : 0 < (numTail z).length := by
      by_cases h : 128 ≤ z
      · rw [numTail_more h]; simp
      · rw [numTail_end h]; simp
    omega
  | succ f ih =>
    intro i x z h1 h2 h3 h4
    by_cases h : 128 ≤ z
    · have hc : bs[p + i]? = some (UInt8.ofNat (z % 128 + 128)) := by
        have := h2 0 (by rw [numTail_more h]; simp)
        rw [numTail_more h] at this
        simpa using this
      have ht : (UInt8.ofNat (z % 128 + 128)).toNat = z % 128 + 128 := by
        rw [UInt8.toNat_ofNat', Nat.mod_eq_of_lt (by omega)]
      have e : x + (z % 128 + 128) % 128 * 128 ^ i + z / 128 * 128 ^ (i + 1) = x + z * 128 ^ i := by
        have h128 : (z % 128 + 128) % 128 = z % 128 := by omega
        rw [h128, Nat.pow_succ, show z / 128 * (128 ^ i * 128) = 128 * (z / 128) * 128 ^ i by rw [Nat.mul_comm (128 ^ i) 128, ← Nat.mul_assoc, Nat.mul_comm (z / 128) 128]]
        rw [Nat.add_assoc, ← Nat.add_mul, Nat.mod_add_div]
      rw [getGo_more hc (by omega), ht, ih (i + 1) _ (z / 128) (by rw [numTail_more h] at h1; simp at h1; omega) ?_ (fun _ => by omega) (by rw [e]; exact h4), e]
      · rw [numTail_more h]
        simp
        omega
      · intro j hj
        have := h2 (j + 1) (by rw [numTail_more h]; simp; omega)
        rw [numTail_more h, List.getElem?_cons_succ, show p + i + (j + 1) = p + (i + 1) + j by omega] at this
        exact this
    · have hc : bs[p + i]? = some (UInt8.ofNat z) := by
        have := h2 0 (by rw [numTail_end h]; simp)
        rw [numTail_end h] at this
        simpa using this
      have ht : (UInt8.ofNat z).toNat = z := by rw [UInt8.toNat_ofNat', Nat.mod_eq_of_lt (by omega)]
      have hm : z % 128 = z := Nat.mod_eq_of_lt (by omega)
      have hok : ¬ ((0 < i ∧ (UInt8.ofNat z).toNat = 0) ∨ 2000000000 < x + (UInt8.ofNat z).toNat % 128 * 128 ^ i) := by
        rw [ht, hm]
        intro hh
        rcases hh with ⟨h5, h6⟩ | h5
        · have := h3 h5
          omega
        · omega
      rw [getGo_good hc (by omega) hok, ht, hm, numTail_end h]
      rfl
theorem getNum_back {b rest : List UInt8} {n : Int} (h : inB n (-1000000000) 1000000000 = true) : getNum (putNum b n ++ rest) (b.length : Int) = some (n, (putNum b n).length) := by
  have hz := zig_bd n
  rw [putNum_good h]
  unfold getNum
  rw [if_neg (by omega), Int.toNat_natCast]
  have hzz : ((zig n).toNat : Int) = zig n := by omega
  have h5 : (numTail (zig n).toNat).length ≤ 5 := numTail_len 4 _ (by omega)
  rw [getGo_tail 5 0 0 (zig n).toNat h5 (fun j hj => ?_) (fun hh => absurd hh (by omega)) (by simp; omega)]
  · simp only [Nat.zero_add, Nat.pow_zero, Nat.mul_one, Nat.add_zero, hzz, zag_zig h, List.length_append]
  · rw [Nat.add_zero, List.append_assoc, List.getElem?_append_right (by omega), Nat.add_sub_cancel_left, List.getElem?_append_left hj]

end Go.Proofs.YtgpimlmolcjeoaaGreatDoor
