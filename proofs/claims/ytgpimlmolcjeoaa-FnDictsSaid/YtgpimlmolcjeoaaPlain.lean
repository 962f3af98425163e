/-
  Plain laws on encodings: a number's bytes are the number's; a value's bytes are the value's; decoded values encode to the bytes that they were decoded from.
-/
import Derived.Test.YtgpimlmolcjeoaaGetp
import Derived.Test.YtgpimlmolcjeoaaEncs
namespace Go.Proofs.Ytgpimlmolcjeoaa
open Go.RowKit
set_option linter.unusedVariables false

def textAt (bs : List UInt8) (p k : Nat) : V := ⟨2, 0, ⟨((bs.drop (p + 1)).take k).toArray⟩⟩
def getVal (bs : List UInt8) (a ty : Int) : Option (V × Nat) :=
  if ty = 1 then (match getNum bs a with | some (n, q) => some (⟨1, n, ⟨#[]⟩⟩, q) | none => none)
  else if ty = 2 ∧ 0 ≤ a then
    match bs[a.toNat]? with
    | none => none
    | some c => if a.toNat + 1 + c.toNat ≤ bs.length ∧ valOk (textAt bs a.toNat c.toNat) = true then some (textAt bs a.toNat c.toNat, a.toNat + 1 + c.toNat) else none
  else none
def gvV (bs : List UInt8) (a ty : Int) : V := match getVal bs a ty with | some (v, _) => v | none => ⟨0, 0, ⟨#[]⟩⟩
def gvP (bs : List UInt8) (a ty : Int) : Int := match getVal bs a ty with | some (_, q) => (q : Int) | none => 0
def gvOk (bs : List UInt8) (a ty : Int) : Bool := (getVal bs a ty).isSome
theorem gv_nothing {bs : List UInt8} {a ty : Int} (h : getVal bs a ty = none) : gvV bs a ty = ⟨0, 0, ⟨#[]⟩⟩ ∧ gvP bs a ty = 0 ∧ gvOk bs a ty = false := by simp [gvV, gvP, gvOk, h]
theorem gv_parts {bs : List UInt8} {a ty : Int} {v : V} {q : Nat} (h : getVal bs a ty = some (v, q)) : gvV bs a ty = v ∧ gvP bs a ty = (q : Int) ∧ gvOk bs a ty = true := by simp [gvV, gvP, gvOk, h]
theorem getVal_int {bs : List UInt8} {a n : Int} {q : Nat} (h : getNum bs a = some (n, q)) : getVal bs a 1 = some (⟨1, n, ⟨#[]⟩⟩, q) := by simp [getVal, h]
theorem getVal_int_no {bs : List UInt8} {a : Int} (h : getNum bs a = none) : getVal bs a 1 = none := by simp [getVal, h]
theorem getVal_other {bs : List UInt8} {a ty : Int} (h1 : ¬ ty = 1) (h2 : ¬ (ty = 2 ∧ 0 ≤ a ∧ a < (bs.length : Int))) : getVal bs a ty = none := by
  unfold getVal
  rw [if_neg h1]
  split
  · rename_i h
    rw [List.getElem?_eq_none (by omega)]
  · rfl
theorem getVal_text {bs : List UInt8} {p : Nat} {c : UInt8} (h : bs[p]? = some c) : getVal bs (p : Int) 2 = if p + 1 + c.toNat ≤ bs.length ∧ valOk (textAt bs p c.toNat) = true then some (textAt bs p c.toNat, p + 1 + c.toNat) else none := by
  unfold getVal
  rw [if_neg (by omega), if_pos ⟨rfl, by omega⟩, Int.toNat_natCast, h]
theorem valOk_int1 {n : Int} (h : inB n (-1000000000) 1000000000 = true) : valOk ⟨1, n, ⟨#[]⟩⟩ = true := by
  unfold valOk
  simp only [if_true, h]
  rfl
theorem valOk_ok {v : V} (h : valOk v = true) : v.ok := by
  have hs := valOk_size h
  obtain ⟨ty, n, s⟩ := v
  unfold valOk at h
  refine ⟨?_, ?_, ?_⟩
  · show I64 ty
    unfold I64
    by_cases h1 : ty = 1
    · subst h1; omega
    · by_cases h2 : ty = 2
      · subst h2; omega
      · simp [h1, h2] at h
  · show I64 n
    unfold I64
    by_cases h1 : ty = 1
    · simp only [h1, if_true, Bool.and_eq_true] at h
      have := h.1
      simp [inB] at this
      omega
    · by_cases h2 : ty = 2
      · dsimp only at h
        rw [if_neg h1, if_pos h2] at h
        simp only [Bool.and_eq_true, decide_eq_true_eq] at h
        have := h.2
        omega
      · simp [h1, h2] at h
  · show s.size ≤ maxLen
    dsimp only at hs
    unfold maxLen
    omega
theorem getVal_put {bs : List UInt8} {p q : Nat} {ty : Int} {x : V} (h : getVal bs (p : Int) ty = some (x, q)) : p < q ∧ q ≤ bs.length ∧ valOk x = true ∧ x.ty = ty ∧ (ty = 1 ∨ ty = 2) ∧ putVal (bs.take p) x = bs.take q := by
  by_cases h1 : ty = 1
  · subst h1
    cases hg : getNum bs (p : Int) with
    | none => rw [getVal_int_no hg] at h; cases h
    | some r =>
      obtain ⟨n, q'⟩ := r
      rw [getVal_int hg] at h
      injection h with h
      injection h with h1 h2
      subst h1; subst h2
      obtain ⟨k1, k2, k3, k4⟩ := getNum_put hg
      have hv := valOk_int1 k3
      exact ⟨k1, k2, hv, rfl, .inl rfl, by rw [putVal_int hv rfl]; exact k4⟩
  · by_cases h2 : ty = 2 ∧ 0 ≤ (p : Int) ∧ (p : Int) < (bs.length : Int)
    · obtain ⟨rfl, _, hl⟩ := h2
      have hp : p < bs.length := by omega
      have hc := List.getElem?_eq_getElem hp
      rw [getVal_text hc] at h
      split at h
      · rename_i hh
        injection h with h
        injection h with h3 h4
        subst h3; subst h4
        refine ⟨by omega, hh.1, hh.2, rfl, .inr rfl, ?_⟩
        have hs : (textAt bs p bs[p].toNat).s.size = bs[p].toNat := by
          show ((bs.drop (p + 1)).take bs[p].toNat).toArray.size = _
          simp
          omega
        rw [putVal_text hh.2 (by show ¬ (2 : Int) = 1; omega), hs, UInt8.ofNat_toNat]
        show bs.take p ++ [bs[p]] ++ (bs.drop (p + 1)).take bs[p].toNat = _
        rw [← take_more bs (show p ≤ p + 1 + bs[p].toNat by omega), show p + 1 + bs[p].toNat - p = bs[p].toNat + 1 by omega, take_cons hc, List.append_assoc]
        rfl
      · cases h
    · rw [getVal_other h1 h2] at h; cases h
def dvAcc (bs : List UInt8) (ty : Int) : Nat → List V → Int → Option (List V × Int)
  | 0, L, q => some (L, q)
  | f + 1, L, q => match getVal bs q ty with | none => none | some (x, q2) => dvAcc bs ty f (L ++ [x]) (q2 : Int)
theorem dv_put {bs : List UInt8} {ty : Int} : ∀ {f : Nat} {L l : List V} {p : Nat} {q : Int}, p ≤ bs.length → dvAcc bs ty f L (p : Int) = some (l, q) →
    ∃ (Q : Nat) (M : List V), q = (Q : Int) ∧ p ≤ Q ∧ Q ≤ bs.length ∧ l = L ++ M ∧ M.length = f ∧ (∀ x ∈ M, valOk x = true ∧ x.ty = ty) ∧ (0 < f → ty = 1 ∨ ty = 2) ∧ M.foldl putVal (bs.take p) = bs.take Q := by
  intro f
  induction f with
  | zero =>
    intro L l p q hp h
    injection h with h
    injection h with h1 h2
    exact ⟨p, [], h2.symm, Nat.le_refl _, hp, by simp [h1], rfl, by simp, fun h => absurd h (by omega), rfl⟩
  | succ f ih =>
    intro L l p q hp h
    cases hg : getVal bs (p : Int) ty with
    | none => simp only [dvAcc, hg] at h; cases h
    | some r =>
      obtain ⟨x, q2⟩ := r
      simp only [dvAcc, hg] at h
      obtain ⟨k1, k2, k3, k4, k5, k6⟩ := getVal_put hg
      obtain ⟨Q, M, m1, m2, m3, m4, m5, m6, _, m7⟩ := ih k2 h
      refine ⟨Q, x :: M, m1, by omega, m3, by simp [m4], by simp [m5], ?_, fun _ => k5, ?_⟩
      · intro y hy
        rcases List.mem_cons.1 hy with rfl | hy
        · exact ⟨k3, k4⟩
        · exact m6 y hy
      · rw [List.foldl_cons, k6, m7]
def decPlain (bs : List UInt8) (ty k : Int) : Option (List V) :=
  if inB k 1 64 then (match dvAcc bs ty k.toNat [] 0 with | some (l, q) => if q = (bs.length : Int) then some l else none | none => none) else none
def dpL (bs : List UInt8) (ty k : Int) : List V := (decPlain bs ty k).getD []
def dpOk (bs : List UInt8) (ty k : Int) : Bool := (decPlain bs ty k).isSome
theorem typeOf_all {l : List V} {ty : Int} (h1 : 1 ≤ l.length) (h2 : l.length ≤ 64) (h : ∀ x ∈ l, valOk x = true ∧ x.ty = ty) : typeOf l = ty := by
  cases l with
  | nil => simp at h1
  | cons x xs =>
    have hx := h x (by simp)
    show (if (x :: xs).length ≤ 64 ∧ (x :: xs).all (tyGood x.ty) = true then x.ty else 0) = ty
    rw [if_pos]
    · exact hx.2
    · refine ⟨h2, ?_⟩
      rw [List.all_eq_true]
      intro y hy
      have := h y hy
      simp [tyGood, this.1, this.2, hx.2]
theorem enc_dv {bs : List UInt8} {ty : Int} {K : Nat} {l : List V} {q : Int} (h1 : 1 ≤ K) (h2 : K ≤ 64) (h : dvAcc bs ty K [] 0 = some (l, q)) :
    l.length = K ∧ typeOf l = ty ∧ (ty = 1 ∨ ty = 2) ∧ (∀ x ∈ l, x.ok) ∧ ∃ Q : Nat, q = (Q : Int) ∧ Q ≤ bs.length ∧ encPlain l = bs.take Q := by
  obtain ⟨Q, M, m1, m2, m3, m4, m5, m6, m7, m8⟩ := dv_put (p := 0) (Nat.zero_le _) h
  rw [List.nil_append] at m4
  subst m4
  have ht := typeOf_all (by omega) (by omega) m6
  have hty := m7 (by omega)
  refine ⟨m5, ht, hty, fun x hx => valOk_ok (m6 x hx).1, Q, m1, m3, ?_⟩
  unfold encPlain
  rw [if_neg (by rw [ht]; omega)]
  simpa using m8
theorem dec_full {bs : List UInt8} {ty : Int} {K : Nat} {l : List V} {q : Int} (h1 : 1 ≤ K) (h2 : K ≤ 64) (h : dvAcc bs ty K [] 0 = some (l, q)) : (encPlain l = bs ↔ q = (bs.length : Int)) := by
  obtain ⟨_, _, _, _, Q, hq, hQ, he⟩ := enc_dv h1 h2 h
  rw [he, hq]
  constructor
  · intro e
    have := congrArg List.length e
    simp at this
    omega
  · intro e
    exact List.take_of_length_le (by omega)
theorem inB_nat {k : Int} (h : inB k 1 64 = true) : ∃ K : Nat, k = (K : Int) ∧ 1 ≤ K ∧ K ≤ 64 := by
  simp [inB] at h
  exact ⟨k.toNat, by omega, by omega, by omega⟩
theorem dp_wide {bs : List UInt8} {ty k : Int} (h : inB k 1 64 = false) : dpL bs ty k = [] ∧ dpOk bs ty k = false := by simp [dpL, dpOk, decPlain, h]
theorem dp_none {bs : List UInt8} {ty : Int} {K : Nat} (h : dvAcc bs ty K [] 0 = none) : dpL bs ty K = [] ∧ dpOk bs ty K = false := by
  have : decPlain bs ty K = none := by
    unfold decPlain
    split
    · rw [Int.toNat_natCast, h]
    · rfl
  simp [dpL, dpOk, this]
theorem dp_cut {bs : List UInt8} {ty : Int} {K : Nat} {l : List V} {q : Int} (h : dvAcc bs ty K [] 0 = some (l, q)) (hq : ¬ q = (bs.length : Int)) : dpL bs ty K = [] ∧ dpOk bs ty K = false := by
  have : decPlain bs ty K = none := by
    unfold decPlain
    split
    · rw [Int.toNat_natCast, h]; simp [hq]
    · rfl
  simp [dpL, dpOk, this]
theorem dp_good {bs : List UInt8} {ty : Int} {K : Nat} {l : List V} {q : Int} (h1 : 1 ≤ K) (h2 : K ≤ 64) (h : dvAcc bs ty K [] 0 = some (l, q)) (hq : q = (bs.length : Int)) : dpL bs ty K = l ∧ dpOk bs ty K = true := by
  have : decPlain bs ty K = some l := by
    unfold decPlain
    rw [if_pos (inB_true ⟨by omega, by omega⟩), Int.toNat_natCast, h]
    simp [hq]
  simp [dpL, dpOk, this]
end Go.Proofs.Ytgpimlmolcjeoaa
