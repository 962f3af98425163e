/-
  Plain laws of decimal numerals, no program in sight: a numeral is parsed back; what both parsers of an integer answer.
-/
import Derived.Lib.AtoiTie
import Derived.Lib.ItoaLen
namespace Go.Proofs.YtgpimlmolcjeoaaGreatDoor
open Go.Lib (itoa decDigits nDigits decFrom decNat digitVal atoi atoiAll)

/-- The digits that stand ahead of what has been written: none for 0. -/
def decPart (u : Nat) : List UInt8 := if u = 0 then [] else decDigits u
theorem decPart_zero : decPart 0 = [] := rfl
theorem decPart_pos {u : Nat} (h : u ≠ 0) : decPart u = decDigits u := by unfold decPart; rw [if_neg h]
theorem decPart_step {u : Nat} (h : u ≠ 0) : decPart u = decPart (u / 10) ++ [UInt8.ofNat (48 + u % 10)] := by
  rw [decPart_pos h, decDigits]
  by_cases h10 : u < 10
  · rw [dif_pos h10]
    have h0 : u / 10 = 0 := by omega
    have h1 : u % 10 = u := by omega
    rw [h0, h1, decPart_zero]
    rfl
  · rw [dif_neg h10, decPart_pos (by omega)]

theorem digit_ofNat {d : Nat} (h : d < 10) : digitVal (UInt8.ofNat (48 + d)) = some d := by
  unfold digitVal
  have e : (UInt8.ofNat (48 + d)).toNat = 48 + d := by rw [UInt8.toNat_ofNat']; omega
  rw [e, if_pos (by omega)]
  congr 1
  omega

theorem decFrom_snoc : ∀ (l : List UInt8) (acc : Nat) (b : UInt8), decFrom acc (l ++ [b]) = (decFrom acc l).bind fun n => (digitVal b).map fun d => n * 10 + d
  | [], acc, b => by
    simp only [List.nil_append, decFrom, Option.bind_some]
    cases digitVal b <;> rfl
  | c :: l, acc, b => by
    simp only [List.cons_append, decFrom]
    cases digitVal c with
    | none => rfl
    | some d => exact decFrom_snoc l _ b

theorem dec_back (u : Nat) : decFrom 0 (decDigits u) = some u := by
  induction u using Nat.strongRecOn with
  | _ u ih =>
    rw [decDigits]
    by_cases h : u < 10
    · rw [dif_pos h]
      simp only [decFrom, digit_ofNat h]
      rw [Nat.zero_mul, Nat.zero_add]
    · rw [dif_neg h, decFrom_snoc, ih (u / 10) (by omega), digit_ofNat (by omega)]
      simp only [Option.bind_some, Option.map_some]
      congr 1
      omega

theorem decDigits_ne (u : Nat) : decDigits u ≠ [] := by
  intro h
  have := Go.Lib.decDigits_length u
  rw [h] at this
  have := Go.Lib.nDigits_pos u
  simp at *
  omega

theorem decDigits_head (u : Nat) : ∃ d r, decDigits u = UInt8.ofNat (48 + d) :: r ∧ d < 10 := by
  induction u using Nat.strongRecOn with
  | _ u ih =>
    rw [decDigits]
    by_cases h : u < 10
    · rw [dif_pos h]; exact ⟨u, [], rfl, h⟩
    · rw [dif_neg h]
      obtain ⟨d, r, e, hd⟩ := ih (u / 10) (by omega)
      rw [e]
      exact ⟨d, r ++ [_], rfl, hd⟩

theorem ofNat_ne {d k : Nat} (h : d < 10) (hk : k < 48) : UInt8.ofNat (48 + d) ≠ UInt8.ofNat k := by
  intro e
  have e2 := congrArg UInt8.toNat e
  rw [UInt8.toNat_ofNat', UInt8.toNat_ofNat'] at e2
  omega

theorem decNat_back (u : Nat) : decNat (decDigits u) = some u := by
  obtain ⟨d, r, e, _⟩ := decDigits_head u
  have := dec_back u
  rw [e] at this ⊢
  exact this

theorem atoi_itoa (n : Int) : atoi (itoa n) = some n := by
  unfold Go.Lib.itoa
  by_cases h : n < 0
  · rw [if_pos h]
    simp only [atoi, beq_self_eq_true, if_true, decNat_back, Option.map_some]
    congr 1
    omega
  · rw [if_neg h]
    obtain ⟨d, r, e, hd⟩ := decDigits_head n.toNat
    have hb := decNat_back n.toNat
    rw [e] at hb ⊢
    have h45 : (UInt8.ofNat (48 + d) == 45) = false := beq_eq_false_iff_ne.2 (ofNat_ne (k := 45) hd (by omega))
    have h43 : (UInt8.ofNat (48 + d) == 43) = false := beq_eq_false_iff_ne.2 (ofNat_ne (k := 43) hd (by omega))
    simp only [atoi, h45, h43, hb, Option.map_some]
    simp only [Bool.false_eq_true, if_false]
    congr 1
    omega

theorem nDigits_le10 (u : Nat) (h : u ≤ 1000000000) : nDigits u ≤ 10 := by
  by_cases h0 : u = 0
  · subst h0; rw [Go.Lib.nDigits_small (by omega)]; omega
  · obtain ⟨k, hk⟩ : ∃ k, nDigits u = k + 1 := ⟨nDigits u - 1, by have := Go.Lib.nDigits_pos u; omega⟩
    suffices hs : ∀ (j u : Nat), u < 10 ^ (j + 1) → nDigits u ≤ j + 1 from hs 9 u (by omega)
    intro j
    induction j with
    | zero => intro u hu; rw [Go.Lib.nDigits_small (by simpa using hu)]; omega
    | succ j ih =>
      intro u hu
      by_cases hs : u < 10
      · rw [Go.Lib.nDigits_small hs]; omega
      · rw [Go.Lib.nDigits_big hs]
        have := ih (u / 10) (by rw [Nat.pow_succ] at hu; omega)
        omega

def IsN (n : Int) : Prop := -1000000000 ≤ n ∧ n ≤ 1000000000
instance (n : Int) : Decidable (IsN n) := inferInstanceAs (Decidable (_ ∧ _))

theorem itoa_len11 {n : Int} (h : IsN n) : 1 ≤ (itoa n).length ∧ (itoa n).length ≤ 11 := by
  unfold IsN at h
  unfold Go.Lib.itoa
  by_cases hn : n < 0
  · rw [if_pos hn, List.length_cons, Go.Lib.decDigits_length]
    have := nDigits_le10 n.natAbs (by omega)
    omega
  · rw [if_neg hn, Go.Lib.decDigits_length]
    have := nDigits_le10 n.toNat (by omega)
    have := Go.Lib.nDigits_pos n.toNat
    omega

/-- Behind the sign a numeral's bytes are its digits. -/
theorem itoa_parts (n : Int) : ((itoa n).head? = some 45 ↔ n < 0) ∧ decFrom 0 ((itoa n).drop (if n < 0 then 1 else 0)) = some n.natAbs := by
  unfold Go.Lib.itoa
  by_cases hn : n < 0
  · rw [if_pos hn, if_pos hn]
    exact ⟨⟨fun _ => hn, fun _ => rfl⟩, dec_back _⟩
  · rw [if_neg hn, if_neg hn]
    obtain ⟨d, r, e, hd⟩ := decDigits_head n.toNat
    have hb := dec_back n.toNat
    refine ⟨⟨fun h => ?_, fun h => absurd h hn⟩, ?_⟩
    · rw [e] at h
      exact absurd (Option.some.inj h) (ofNat_ne (k := 45) hd (by omega))
    · rw [List.drop_zero, hb]
      congr 1
      omega

/-- The integer that a text is the numeral of, if it is one of the program's integers. -/
def pnOf (s : List UInt8) : Option Int := match atoi s with
  | some n => if IsN n ∧ itoa n = s then some n else none
  | none => none

theorem pnOf_some {s : List UInt8} {n : Int} : pnOf s = some n ↔ IsN n ∧ itoa n = s := by
  unfold pnOf
  constructor
  · intro h
    split at h
    · rename_i m hm
      split at h
      · rename_i hc
        obtain rfl := Option.some.inj h
        exact hc
      · cases h
    · cases h
  · rintro ⟨h, rfl⟩
    rw [atoi_itoa]
    simp only [h, and_self, if_true]

theorem pnOf_none {s : List UInt8} (h : ∀ n, IsN n → itoa n ≠ s) : pnOf s = none := by
  cases hp : pnOf s with
  | none => rfl
  | some n => exact absurd (pnOf_some.1 hp).2 (h n (pnOf_some.1 hp).1)

theorem pnOf_itoa {n : Int} (h : IsN n) : pnOf (itoa n) = some n := pnOf_some.2 ⟨h, rfl⟩
theorem pnOf_itoa_big {n : Int} (h : ¬ IsN n) : pnOf (itoa n) = none := by
  refine pnOf_none fun m hm e => ?_
  have h1 := atoi_itoa m
  rw [e, atoi_itoa] at h1
  exact h ((Option.some.inj h1) ▸ hm)

/-! ### the library's road: the numeral of Go's parse, tested against the text -/
theorem pnOf_atoi {s : List UInt8} {v : Int} (h : atoiAll s = .ok v) : pnOf s = if IsN v ∧ itoa v = s then some v else none := by
  by_cases hc : IsN v ∧ itoa v = s
  · rw [if_pos hc]; exact pnOf_some.2 hc
  · rw [if_neg hc]
    refine pnOf_none fun m hm e => ?_
    have hl := (itoa_len11 hm).2
    have h2 : atoiAll s = .ok m := by
      rw [Go.Lib.atoiAll_short s (by rw [← e]; omega), ← e, atoi_itoa]
      rfl
    rw [h] at h2
    have hv : v = m := by injection h2
    subst hv
    exact hc ⟨hm, e⟩
theorem pnOf_fault {s : List UInt8} (h : ∀ v, atoiAll s ≠ .ok v) : pnOf s = none := by
  refine pnOf_none fun m hm e => ?_
  have hl := (itoa_len11 hm).2
  refine h m ?_
  rw [Go.Lib.atoiAll_short s (by rw [← e]; omega), ← e, atoi_itoa]
  rfl

/-! ### the reference's road: byte by byte -/
def sgn (s : List UInt8) : Nat := if s.head? = some 45 then 1 else 0
theorem pnOf_long {s : List UInt8} (h : ¬ (1 ≤ s.length ∧ s.length ≤ 11)) : pnOf s = none :=
  pnOf_none fun _ hm e => h (e ▸ itoa_len11 hm)
theorem num_parts {s : List UInt8} {m : Int} (e : itoa m = s) : decFrom 0 (s.drop (sgn s)) = some m.natAbs ∧ (s.head? = some 45 ↔ m < 0) := by
  obtain ⟨h1, h2⟩ := itoa_parts m
  rw [e] at h1 h2
  refine ⟨?_, h1⟩
  unfold sgn
  by_cases hn : m < 0
  · rw [if_pos hn] at h2; rw [if_pos (h1.2 hn)]; exact h2
  · rw [if_neg hn] at h2; rw [if_neg (fun e => hn (h1.1 e))]; exact h2
theorem pnOf_digit {s : List UInt8} {i : Nat} {b : UInt8} (hi : sgn s ≤ i) (hb : s[i]? = some b) (hd : ¬ (48 ≤ b.toNat ∧ b.toNat ≤ 57)) : pnOf s = none := by
  refine pnOf_none fun m _ e => ?_
  obtain ⟨h1, _⟩ := num_parts e
  obtain ⟨d, h2⟩ := Go.Lib.digit_of_decFrom _ _ _ h1 (i - sgn s) b (by rw [List.getElem?_drop, show sgn s + (i - sgn s) = i by omega]; exact hb)
  obtain ⟨h3, h4, _⟩ := Go.Lib.digitVal_eq h2
  exact hd ⟨h3, h4⟩
theorem pnOf_end {s : List UInt8} {k : Nat} (h : decFrom 0 (s.drop (sgn s)) = some k) : pnOf s = (if IsN (if s.head? = some 45 then -(k : Int) else k) ∧ itoa (if s.head? = some 45 then -(k : Int) else k) = s then some (if s.head? = some 45 then -(k : Int) else k) else none) := by
  by_cases hc : IsN (if s.head? = some 45 then -(k : Int) else k) ∧ itoa (if s.head? = some 45 then -(k : Int) else k) = s
  · rw [if_pos hc]; exact pnOf_some.2 hc
  · rw [if_neg hc]
    refine pnOf_none fun m hm e => hc ?_
    obtain ⟨h1, h2⟩ := num_parts e
    rw [h] at h1
    have hk : k = m.natAbs := Option.some.inj h1
    have : (if s.head? = some 45 then -(k : Int) else k) = m := by
      by_cases hs : s.head? = some 45
      · rw [if_pos hs]; have := h2.1 hs; omega
      · rw [if_neg hs]; have : ¬ m < 0 := fun x => hs (h2.2 x); omega
    rw [this]
    exact ⟨hm, e⟩
/-- One byte more. -/
theorem dec_step {s : List UInt8} {i k : Nat} {b : UInt8} (hi : sgn s ≤ i) (hb : s[i]? = some b) (hd : 48 ≤ b.toNat ∧ b.toNat ≤ 57) (h : decFrom 0 ((s.take i).drop (sgn s)) = some k) :
    decFrom 0 ((s.take (i + 1)).drop (sgn s)) = some (k * 10 + (b.toNat - 48)) := by
  have hl : i < s.length := (List.getElem?_eq_some_iff.1 hb).1
  rw [List.take_add_one, hb, Option.toList_some, List.drop_append_of_le_length (by rw [List.length_take]; omega), decFrom_snoc, h]
  simp only [Option.bind_some, digitVal, if_pos hd, Option.map_some]
theorem dec_bound {s : List UInt8} {i k : Nat} (hi : i ≤ 11) (h : decFrom 0 ((s.take i).drop (sgn s)) = some k) : k < 100000000000 := by
  have h1 := Go.Lib.decFrom_lt _ _ _ h
  have h2 : ((s.take i).drop (sgn s)).length ≤ 11 := by rw [List.length_drop, List.length_take]; omega
  have h3 : (10 : Nat) ^ ((s.take i).drop (sgn s)).length ≤ 10 ^ 11 := Nat.pow_le_pow_right (by omega) h2
  omega
end Go.Proofs.YtgpimlmolcjeoaaGreatDoor
