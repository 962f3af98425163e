/-
  Contracts of GetNum, in the program and in the reference.
-/
import Derived.Test.YtgpimlmolcjeoaaFlat
import Derived.Test.YtgpimlmolcjeoaaArith
import Derived.Test.YtgpimlmolcjeoaaOwned
namespace Go.Proofs.Ytgpimlmolcjeoaa
open Go.RowKit
set_option linter.unusedVariables false
set_option maxRecDepth 100000

def getGo (bs : List UInt8) (p : Nat) : Nat → Nat → Nat → Option (Int × Nat)
  | 0, _, _ => none
  | f + 1, i, x => match bs[p + i]? with
    | none => none
    | some c =>
      if 128 ≤ c.toNat then getGo bs p f (i + 1) (x + c.toNat % 128 * 128 ^ i)
      else if (0 < i ∧ c.toNat = 0) ∨ 2000000000 < x + c.toNat % 128 * 128 ^ i then none
      else some (zag ((x + c.toNat % 128 * 128 ^ i : Nat) : Int), p + i + 1)
def getNum (bs : List UInt8) (at_ : Int) : Option (Int × Nat) := if at_ < 0 then none else getGo bs at_.toNat 5 0 0
def gnN (bs : List UInt8) (at_ : Int) : Int := match getNum bs at_ with | some (n, _) => n | none => 0
def gnP (bs : List UInt8) (at_ : Int) : Int := match getNum bs at_ with | some (_, q) => (q : Int) | none => 0
def gnOk (bs : List UInt8) (at_ : Int) : Bool := (getNum bs at_).isSome

theorem getGo_end (bs : List UInt8) (p f i x : Nat) (h : bs.length ≤ p + i) : getGo bs p f i x = none := by
  cases f with
  | zero => rfl
  | succ f => simp [getGo, List.getElem?_eq_none h]
theorem getGo_more {bs : List UInt8} {p f i x : Nat} {c : UInt8} (h : bs[p + i]? = some c) (hc : 128 ≤ c.toNat) : getGo bs p (f + 1) i x = getGo bs p f (i + 1) (x + c.toNat % 128 * 128 ^ i) := by
  simp only [getGo, h, if_pos hc]
theorem getGo_bad {bs : List UInt8} {p f i x : Nat} {c : UInt8} (h : bs[p + i]? = some c) (hc : ¬ 128 ≤ c.toNat) (hb : (0 < i ∧ c.toNat = 0) ∨ 2000000000 < x + c.toNat % 128 * 128 ^ i) : getGo bs p (f + 1) i x = none := by
  simp only [getGo, h, if_neg hc, if_pos hb]
theorem getGo_good {bs : List UInt8} {p f i x : Nat} {c : UInt8} (h : bs[p + i]? = some c) (hc : ¬ 128 ≤ c.toNat) (hb : ¬ ((0 < i ∧ c.toNat = 0) ∨ 2000000000 < x + c.toNat % 128 * 128 ^ i)) :
    getGo bs p (f + 1) i x = some (zag ((x + c.toNat % 128 * 128 ^ i : Nat) : Int), p + i + 1) := by
  simp only [getGo, h, if_neg hc, if_neg hb]
theorem gn_none {bs : List UInt8} {at_ : Int} (h : getNum bs at_ = none) : Value.tuple #[.int .i64 0, .int .i64 0, .bool false] = .tuple #[.int .i64 (gnN bs at_), .int .i64 (gnP bs at_), .bool (gnOk bs at_)] := by
  simp [gnN, gnP, gnOk, h]
theorem gn_some {bs : List UInt8} {at_ n q : Int} {m : Nat} (h : getNum bs at_ = some (n, m)) (hq : q = (m : Int)) : Value.tuple #[.int .i64 n, .int .i64 q, .bool true] = .tuple #[.int .i64 (gnN bs at_), .int .i64 (gnP bs at_), .bool (gnOk bs at_)] := by
  simp [gnN, gnP, gnOk, h, hq]

theorem pow_le4 (j : Nat) (h : j ≤ 4) : 128 ^ j ≤ 268435456 := Nat.pow_le_pow_right (by omega) h
theorem shl7 (r j : Nat) (h : j ≤ 4) : wrap64 ((r : Int) % 128 * 2 ^ (7 * j)) = ((r % 128 * 128 ^ j : Nat) : Int) := by
  rcases (show j = 0 ∨ j = 1 ∨ j = 2 ∨ j = 3 ∨ j = 4 by omega) with rfl | rfl | rfl | rfl | rfl <;> simp [wrap64] <;> omega

set_option maxRecDepth 100000 in
set_option maxHeartbeats 2000000 in
theorem impl_GetNum (w : World) (A : Option Addr) (c : Nat) (bs : List UInt8) (hr : Reads w w.heap.size 1 A bs.length (byteCells bs)) (hl : bs.length ≤ 1099511627776) (n : Int) (hn : I64 n) :
    Calls Try.prog 61 #[.slice A bs.length c, .int .i64 n] w fun e w' => e = .returned (.tuple #[.int .i64 (gnN bs n), .int .i64 (gnP bs n), .bool (gnOk bs n)]) ∧ Below w.heap.size w w' := by
  obtain ⟨hn1, hn2⟩ := hn
  by_cases h0 : n < 0
  · have hg := Lib.hid (show getNum bs n = none by unfold getNum; rw [if_pos h0])
    go_enter Try.func61, Try.ntmps61
    go_wp2
    go_ret3
    exact ⟨ret_val (gn_none hg.out), Below.refl _ _⟩
  obtain ⟨p, rfl⟩ := Int.eq_ofNat_of_zero_le (show 0 ≤ n by omega)
  clear h0
  have hg := Lib.hid (show getNum bs (p : Int) = getGo bs p 5 0 0 by unfold getNum; rw [if_neg (by omega), Int.toNat_natCast])
  by_cases hp : bs.length ≤ p
  · have hg' := Lib.hid (hg.out.trans (getGo_end bs p 5 0 0 (by omega)))
    go_enter Try.func61, Try.ntmps61
    go_wp2
    go_ret3
    exact ⟨ret_val (gn_none hg'.out), Below.refl _ _⟩
  go_enter Try.func61, Try.ntmps61
  go_wp2
  go_loopw [7, 8] (fun x i wr => ∃ (a j : Nat), x = .int .i64 a ∧ i = .int .i64 j ∧ j ≤ 5 ∧ a < 128 ^ j ∧ Hid (getNum bs (p : Int) = getGo bs p (5 - j) j a) ∧ Below w.heap.size w wr) (fun _ i _ => 5 - (intOf i).toNat)
  case atStart => exact ⟨0, 0, rfl, rfl, by omega, by omega, hg, Below.refl _ _⟩
  case round =>
    clear hg
    obtain ⟨a, j, rfl, rfl, hj, ha, hg, hbl⟩ := hrel
    by_cases hj5 : j = 5
    · subst hj5
      go_wp2
      go_ret3
      exact ⟨ret_val (gn_none hg.out), hbl⟩
    by_cases hpl : bs.length ≤ p + j
    · have hg' := Lib.hid (hg.out.trans (getGo_end bs p _ _ _ hpl))
      go_wp2
      go_ret3
      exact ⟨ret_val (gn_none hg'.out), hbl⟩
    obtain ⟨b, off, x, rfl, hb, hx, hc⟩ := hr.byte (k := p + j) (by omega)
    have hrd : wr.cell? ⟨b, off + (p + j), none⟩ = some (.int .u8 (x.toNat : Int)) := (hbl.cell (p := ⟨b, off + (p + j), none⟩) hb).trans hc
    have hxb := byte_lt x
    have hw : wrap64 (x.toNat : Int) = (x.toNat : Int) := wrap_nat _ (by omega)
    clear hr hc
    obtain ⟨P, hP⟩ : ∃ P : Nat, P = 128 ^ j := ⟨_, rfl⟩
    obtain ⟨m, hm⟩ : ∃ m : Nat, m = x.toNat % 128 * 128 ^ j := ⟨_, rfl⟩
    have hj4 : j ≤ 4 := by omega
    have hsh : wrap64 ((x.toNat : Int) % 128 * 2 ^ (7 * j)) = (m : Int) := by rw [hm]; exact shl7 x.toNat j hj4
    have hPb : P ≤ 268435456 := by rw [hP]; exact pow_le4 j hj4
    have hmb : m ≤ 127 * P := by rw [hm, hP]; exact Nat.mul_le_mul_right _ (by omega)
    have haP : a < P := by rw [hP]; exact ha
    have hP1 : Hid (128 ^ (j + 1) = 128 * P) := by show 128 ^ (j + 1) = 128 * P; rw [hP, Nat.pow_succ, Nat.mul_comm]
    have hx' : Hid (bs[p + j]? = some x) := hx
    by_cases h128 : 128 ≤ x.toNat
    · have hg' : Hid (getNum bs (p : Int) = getGo bs p (5 - (j + 1)) (j + 1) (a + m)) := by
        show getNum bs (p : Int) = getGo bs p (5 - (j + 1)) (j + 1) (a + m)
        have := hg.out
        rw [this, show 5 - j = (5 - (j + 1)) + 1 from by omega, getGo_more hx.out h128, hm]
      clear hg hm hP ha
      go_wp2
      go_roundw
      case rel => exact ⟨a + m, j + 1, by go_num, by go_num, by omega, by rw [hP1.out]; omega, hg', hbl⟩
      case measure => simp [intOf]; omega
    · by_cases hbad : (0 < j ∧ x.toNat = 0) ∨ 2000000000 < a + m
      · have hg' : Hid (getNum bs (p : Int) = none) := by
          show getNum bs (p : Int) = none
          have := hg.out
          rw [this, show 5 - j = (5 - (j + 1)) + 1 from by omega]
          exact getGo_bad hx.out h128 (by rw [← hm]; exact hbad)
        have hbad' := Lib.hid hbad
        clear hg hm hP ha
        by_cases hj0 : 0 < j
        · by_cases hx0 : x.toNat = 0
          · have e0 : ((x.toNat : Int) == 0) = true := by simp; omega
            clear hbad
            go_wp2
            go_ret3
            exact ⟨ret_val (gn_none hg'.out), hbl⟩
          · have e0 : ((x.toNat : Int) == 0) = false := by simp; omega
            have e1 : 2000000000 < a + m := by omega
            clear hbad
            go_wp2
            go_ret3
            exact ⟨ret_val (gn_none hg'.out), hbl⟩
        · have e1 : 2000000000 < a + m := by omega
          clear hbad
          go_wp2
          go_ret3
          exact ⟨ret_val (gn_none hg'.out), hbl⟩
      · have hg' : Hid (getNum bs (p : Int) = some (zag ((a + m : Nat) : Int), p + j + 1)) := by
          show getNum bs (p : Int) = some (zag ((a + m : Nat) : Int), p + j + 1)
          have := hg.out
          rw [this, show 5 - j = (5 - (j + 1)) + 1 from by omega, hm]
          exact getGo_good hx.out h128 (by rw [← hm]; exact hbad)
        clear hg hm hP ha
        have e1 : a + m ≤ 2000000000 := by omega
        by_cases hj0 : 0 < j
        · have e0 : ((x.toNat : Int) == 0) = false := by simp; omega
          clear hbad
          go_wp2_with (go_at_call 90; refine (impl_ZagZig _ _).mono ?_; rintro e w' ⟨rfl, rfl⟩)
          go_ret3
          exact ⟨ret_val (gn_some hg'.out (by omega)), hbl⟩
        · clear hbad
          go_wp2_with (go_at_call 90; refine (impl_ZagZig _ _).mono ?_; rintro e w' ⟨rfl, rfl⟩)
          go_ret3
          exact ⟨ret_val (gn_some hg'.out (by omega)), hbl⟩

theorem and127 (x : UInt8) : bits BinOp.and IntKind.i64 (x.toNat : Int) 127 = (x.toNat : Int) % 128 := by
  have hx := byte_lt x
  rw [show (127 : Int) = ((127 : Nat) : Int) from rfl, i64_and_nat _ _ (by omega) (by omega)]
  have h : x.toNat &&& 127 = x.toNat % 128 := Nat.and_two_pow_sub_one_eq_mod x.toNat 7
  rw [h]; rfl
theorem or_add (a r j : Nat) (ha : a < 128 ^ j) (hj : j ≤ 4) (hr : r < 128 := by omega) : bits BinOp.or IntKind.i64 (a : Int) ((r * 128 ^ j : Nat) : Int) = ((a + r * 128 ^ j : Nat) : Int) := by
  have hp := pow_le4 j hj
  have hb : r * 128 ^ j ≤ 127 * 268435456 := Nat.mul_le_mul (by omega) hp
  rw [i64_or_nat _ _ (by omega) (by omega)]
  congr 1
  have e : 128 ^ j = 2 ^ (7 * j) := by rw [Nat.pow_mul]
  rw [e] at ha ⊢
  rw [Nat.or_comm, Nat.mul_comm, ← Nat.two_pow_add_eq_or_of_lt ha]
  omega

set_option maxRecDepth 100000 in
set_option maxHeartbeats 2000000 in
theorem spec_GetNum (w : World) (A : Option Addr) (c : Nat) (bs : List UInt8) (hr : Reads w w.heap.size 1 A bs.length (byteCells bs)) (hl : bs.length ≤ 1099511627776) (n : Int) (hn : I64 n) :
    Calls Try.prog 76 #[.slice A bs.length c, .int .i64 n] w fun e w' => e = .returned (.tuple #[.int .i64 (gnN bs n), .int .i64 (gnP bs n), .bool (gnOk bs n)]) ∧ Below w.heap.size w w' := by
  obtain ⟨hn1, hn2⟩ := hn
  by_cases h0 : n < 0
  · have hg := Lib.hid (show getNum bs n = none by unfold getNum; rw [if_pos h0])
    have hB : inB n 0 (bs.length : Int) = false := inB_false (by omega)
    go_enter Try.func76, Try.ntmps76
    go_wp2_with (go_at_call 71; refine (l1In_any _ _ _ _).mono ?_; rintro e w' ⟨rfl, rfl⟩)
    go_ret3
    exact ⟨ret_val (gn_none hg.out), Below.refl _ _⟩
  obtain ⟨p, rfl⟩ := Int.eq_ofNat_of_zero_le (show 0 ≤ n by omega)
  clear h0
  have hg := Lib.hid (show getNum bs (p : Int) = getGo bs p 5 0 0 by unfold getNum; rw [if_neg (by omega), Int.toNat_natCast])
  by_cases hp : bs.length < p
  · have hg' := Lib.hid (hg.out.trans (getGo_end bs p 5 0 0 (by omega)))
    have hB : inB (p : Int) 0 (bs.length : Int) = false := inB_false (by omega)
    go_enter Try.func76, Try.ntmps76
    go_wp2_with (go_at_call 71; refine (l1In_any _ _ _ _).mono ?_; rintro e w' ⟨rfl, rfl⟩)
    go_ret3
    exact ⟨ret_val (gn_none hg'.out), Below.refl _ _⟩
  have hB : inB (p : Int) 0 (bs.length : Int) = true := inB_true (by omega)
  go_enter Try.func76, Try.ntmps76
  go_wp2_with (go_at_call 71; refine (l1In_any _ _ _ _).mono ?_; rintro e w' ⟨rfl, rfl⟩)
  go_loopw [7, 8] (fun x i wr => ∃ (a j : Nat), x = .int .i64 a ∧ i = .int .i64 j ∧ j ≤ 5 ∧ a < 128 ^ j ∧ Hid (getNum bs (p : Int) = getGo bs p (5 - j) j a) ∧ Below w.heap.size w wr) (fun _ i _ => 5 - (intOf i).toNat)
  case atStart => exact ⟨0, 0, rfl, rfl, by omega, by omega, hg, Below.refl _ _⟩
  case round =>
    clear hg
    obtain ⟨a, j, rfl, rfl, hj, ha, hg, hbl⟩ := hrel
    by_cases hj5 : j = 5
    · subst hj5
      go_wp2
      go_ret3
      exact ⟨ret_val (gn_none hg.out), hbl⟩
    by_cases hpl : bs.length ≤ p + j
    · have hg' := Lib.hid (hg.out.trans (getGo_end bs p _ _ _ hpl))
      go_wp2
      go_ret3
      exact ⟨ret_val (gn_none hg'.out), hbl⟩
    obtain ⟨b, off, x, rfl, hb, hx, hc⟩ := hr.byte (k := p + j) (by omega)
    have hrd : wr.cell? ⟨b, off + (p + j), none⟩ = some (.int .u8 (x.toNat : Int)) := (hbl.cell (p := ⟨b, off + (p + j), none⟩) hb).trans hc
    have hxb := byte_lt x
    have hw : wrap64 (x.toNat : Int) = (x.toNat : Int) := wrap_nat _ (by omega)
    clear hr hc
    obtain ⟨P, hP⟩ : ∃ P : Nat, P = 128 ^ j := ⟨_, rfl⟩
    obtain ⟨m, hm⟩ : ∃ m : Nat, m = x.toNat % 128 * 128 ^ j := ⟨_, rfl⟩
    have hj4 : j ≤ 4 := by omega
    have hsh : wrap64 ((x.toNat : Int) % 128 * 2 ^ (7 * j)) = (m : Int) := by rw [hm]; exact shl7 x.toNat j hj4
    have hPb : P ≤ 268435456 := by rw [hP]; exact pow_le4 j hj4
    have hmb : m ≤ 127 * P := by rw [hm, hP]; exact Nat.mul_le_mul_right _ (by omega)
    have haP : a < P := by rw [hP]; exact ha
    have hP1 : Hid (128 ^ (j + 1) = 128 * P) := by show 128 ^ (j + 1) = 128 * P; rw [hP, Nat.pow_succ, Nat.mul_comm]
    have hand : bits BinOp.and IntKind.i64 (x.toNat : Int) 127 = (x.toNat : Int) % 128 := and127 x
    have hor : bits BinOp.or IntKind.i64 (a : Int) (m : Int) = ((a + m : Nat) : Int) := by rw [hm]; exact or_add a (x.toNat % 128) j ha hj4
    by_cases h128 : 128 ≤ x.toNat
    · have hg' : Hid (getNum bs (p : Int) = getGo bs p (5 - (j + 1)) (j + 1) (a + m)) := by
        show getNum bs (p : Int) = getGo bs p (5 - (j + 1)) (j + 1) (a + m)
        have := hg.out
        rw [this, show 5 - j = (5 - (j + 1)) + 1 from by omega, getGo_more hx.out h128, hm]
      clear hg hm hP ha
      go_wp2
      go_roundw
      case rel => exact ⟨a + m, j + 1, by go_num, by go_num, by omega, by rw [hP1.out]; omega, hg', hbl⟩
      case measure => simp [intOf]; omega
    · by_cases hbad : (0 < j ∧ x.toNat = 0) ∨ 2000000000 < a + m
      · have hg' : Hid (getNum bs (p : Int) = none) := by
          show getNum bs (p : Int) = none
          have := hg.out
          rw [this, show 5 - j = (5 - (j + 1)) + 1 from by omega]
          exact getGo_bad hx.out h128 (by rw [← hm]; exact hbad)
        have hbad' := Lib.hid hbad
        clear hg hm hP ha
        by_cases hj0 : 0 < j
        · by_cases hx0 : x.toNat = 0
          · have e0 : ((x.toNat : Int) == 0) = true := by simp; omega
            clear hbad hx0
            rcases Nat.lt_or_ge 2000000000 (a + m) with hbig | hbig
            all_goals
              go_wp2
              go_ret3
              exact ⟨ret_val (gn_none hg'.out), hbl⟩
          · have e0 : ((x.toNat : Int) == 0) = false := by simp; omega
            have e1 : 2000000000 < a + m := by omega
            clear hbad
            go_wp2
            go_ret3
            exact ⟨ret_val (gn_none hg'.out), hbl⟩
        · have e1 : 2000000000 < a + m := by omega
          clear hbad
          go_wp2
          go_ret3
          exact ⟨ret_val (gn_none hg'.out), hbl⟩
      · have hg' : Hid (getNum bs (p : Int) = some (zag ((a + m : Nat) : Int), p + j + 1)) := by
          show getNum bs (p : Int) = some (zag ((a + m : Nat) : Int), p + j + 1)
          have := hg.out
          rw [this, show 5 - j = (5 - (j + 1)) + 1 from by omega, hm]
          exact getGo_good hx.out h128 (by rw [← hm]; exact hbad)
        clear hg hm hP ha
        have e1 : a + m ≤ 2000000000 := by omega
        by_cases hj0 : 0 < j
        · have e0 : ((x.toNat : Int) == 0) = false := by simp; omega
          clear hbad
          go_wp2_with (go_at_call 98; refine (spec_ZagZig _ _).mono ?_; rintro e w' ⟨rfl, rfl⟩)
          go_ret3
          exact ⟨ret_val (gn_some hg'.out (by omega)), hbl⟩
        · clear hbad
          have hxz : ((x.toNat : Int) == 0) = true ∨ ((x.toNat : Int) == 0) = false := by cases ((x.toNat : Int) == 0) <;> simp
          rcases hxz with e0 | e0
          all_goals
            go_wp2_with (go_at_call 98; refine (spec_ZagZig _ _).mono ?_; rintro e w' ⟨rfl, rfl⟩)
            go_ret3
            exact ⟨ret_val (gn_some hg'.out (by omega)), hbl⟩

end Go.Proofs.Ytgpimlmolcjeoaa
