/-
  Plain laws on numbers: the bytes that a number was read from are its encoding.
-/
import Derived.Test.YtgpimlmolcjeoaaGet
import Derived.Test.YtgpimlmolcjeoaaPut
namespace Go.Proofs.Ytgpimlmolcjeoaa
open Go.RowKit
set_option linter.unusedVariables false

theorem zig_zag {x : Nat} (h : x ≤ 2000000000) : zig (zag (x : Int)) = x ∧ inB (zag (x : Int)) (-1000000000) 1000000000 = true := by
  have h0 : inB (x : Int) 0 2000000000 = true := inB_true ⟨by omega, by omega⟩
  have e : zag (x : Int) = if (x : Int) % 2 = 1 then -(((x : Int) + 1) / 2) else (x : Int) / 2 := by unfold zag; rw [h0]; rfl
  by_cases hx : (x : Int) % 2 = 1
  · rw [if_pos hx] at e
    have hb : inB (zag (x : Int)) (-1000000000) 1000000000 = true := inB_true (by rw [e]; omega)
    refine ⟨?_, hb⟩
    unfold zig
    rw [hb, e]
    simp only [if_true]
    rw [if_pos (by omega)]
    omega
  · rw [if_neg hx] at e
    have hb : inB (zag (x : Int)) (-1000000000) 1000000000 = true := inB_true (by rw [e]; omega)
    refine ⟨?_, hb⟩
    unfold zig
    rw [hb, e]
    simp only [if_true]
    rw [if_neg (by omega)]
    omega
theorem take_cons {bs : List UInt8} {p m : Nat} {c : UInt8} (h : bs[p]? = some c) : (bs.drop p).take (m + 1) = c :: (bs.drop (p + 1)).take m := by
  obtain ⟨hl, rfl⟩ := List.getElem?_eq_some_iff.1 h
  rw [List.drop_eq_getElem_cons hl]
  rfl
theorem getGo_num {bs : List UInt8} {p : Nat} : ∀ {f i x : Nat} {n : Int} {q : Nat}, getGo bs p f i x = some (n, q) →
    ∃ y, n = zag ((x + y * 128 ^ i : Nat) : Int) ∧ x + y * 128 ^ i ≤ 2000000000 ∧ p + i < q ∧ q ≤ bs.length ∧ (0 < i → 0 < y) ∧ (bs.drop (p + i)).take (q - (p + i)) = numTail y := by
  intro f
  induction f with
  | zero => intro i x n q h; cases h
  | succ f ih =>
    intro i x n q h
    cases hc : bs[p + i]? with
    | none => simp only [getGo, hc] at h; cases h
    | some c =>
      have hlt : p + i < bs.length := (List.getElem?_eq_some_iff.1 hc).1
      have hc255 := c.toNat_lt
      by_cases h128 : 128 ≤ c.toNat
      · rw [getGo_more hc h128] at h
        obtain ⟨y, h1, h2, h3, h4, h5, h6⟩ := ih h
        have hy := h5 (by omega)
        have e : x + c.toNat % 128 * 128 ^ i + y * 128 ^ (i + 1) = x + (c.toNat % 128 + 128 * y) * 128 ^ i := by
          rw [Nat.pow_succ, Nat.add_mul, show y * (128 ^ i * 128) = 128 * y * 128 ^ i by rw [Nat.mul_comm 128 y, Nat.mul_assoc, Nat.mul_comm 128 (128 ^ i)]]
          omega
        rw [e] at h1 h2
        refine ⟨c.toNat % 128 + 128 * y, h1, h2, by omega, h4, fun _ => by omega, ?_⟩
        rw [numTail_more (by omega), show (c.toNat % 128 + 128 * y) % 128 + 128 = c.toNat by omega, show (c.toNat % 128 + 128 * y) / 128 = y by omega, UInt8.ofNat_toNat, ← h6,
          show q - (p + i) = q - (p + (i + 1)) + 1 by omega, take_cons hc, Nat.add_assoc]
      · by_cases hb : (0 < i ∧ c.toNat = 0) ∨ 2000000000 < x + c.toNat % 128 * 128 ^ i
        · rw [getGo_bad hc h128 hb] at h; cases h
        · rw [getGo_good hc h128 hb] at h
          injection h with h
          injection h with h1 h2
          have em : c.toNat % 128 = c.toNat := Nat.mod_eq_of_lt (by omega)
          rw [em] at h1 hb
          subst h2
          refine ⟨c.toNat, h1.symm, by omega, by omega, by omega, fun _ => by omega, ?_⟩
          rw [numTail_end h128, UInt8.ofNat_toNat, show p + i + 1 - (p + i) = 0 + 1 by omega, take_cons hc]
          rfl
theorem take_more (bs : List UInt8) {p q : Nat} (h : p ≤ q) : bs.take p ++ (bs.drop p).take (q - p) = bs.take q := by
  conv => rhs; rw [show q = p + (q - p) by omega, List.take_add]
theorem getNum_put {bs : List UInt8} {p q : Nat} {n : Int} (h : getNum bs (p : Int) = some (n, q)) : p < q ∧ q ≤ bs.length ∧ inB n (-1000000000) 1000000000 = true ∧ putNum (bs.take p) n = bs.take q := by
  unfold getNum at h
  rw [if_neg (by omega), Int.toNat_natCast] at h
  obtain ⟨y, h1, h2, h3, h4, _, h6⟩ := getGo_num h
  simp only [Nat.zero_add, Nat.pow_zero, Nat.mul_one, Nat.add_zero] at h1 h2 h3 h6
  obtain ⟨hz, hb⟩ := zig_zag h2
  rw [← h1] at hz hb
  refine ⟨h3, h4, hb, ?_⟩
  rw [putNum_good hb, hz, Int.toNat_natCast, ← h6, take_more bs (by omega)]
theorem getNum_neg {bs : List UInt8} {a n : Int} {q : Nat} (h : getNum bs a = some (n, q)) : 0 ≤ a := by
  unfold getNum at h
  split at h
  · cases h
  · omega

end Go.Proofs.Ytgpimlmolcjeoaa
