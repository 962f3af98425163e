/-
  Plain laws: values come back of their bytes.
-/
import Derived.Test.YtgpimlmolcjeoaaPlain
import Derived.Test.YtgpimlmolcjeoaaDrawn
namespace Go.Proofs.Ytgpimlmolcjeoaa
open Go.RowKit
set_option linter.unusedVariables false

theorem typeOf_facts {l : List V} (h : ¬ typeOf l = 0) : 1 ≤ l.length ∧ l.length ≤ 64 ∧ (∀ x ∈ l, valOk x = true ∧ x.ty = typeOf l) := by
  cases l with
  | nil => exact absurd rfl h
  | cons x xs =>
    have e : typeOf (x :: xs) = if (x :: xs).length ≤ 64 ∧ (x :: xs).all (tyGood x.ty) = true then x.ty else 0 := rfl
    by_cases hc : (x :: xs).length ≤ 64 ∧ (x :: xs).all (tyGood x.ty) = true
    · rw [if_pos hc] at e
      refine ⟨by simp, hc.1, fun y hy => ?_⟩
      have h2 := List.all_eq_true.1 hc.2 y hy
      simp only [tyGood, Bool.and_eq_true, decide_eq_true_eq] at h2
      exact ⟨h2.1, by rw [e]; exact h2.2⟩
    · rw [if_neg hc] at e
      exact absurd e h
theorem typeOf_bd (l : List V) : 0 ≤ typeOf l ∧ typeOf l ≤ 2 := by
  by_cases h : typeOf l = 0
  · omega
  · obtain ⟨h1, h2, h3⟩ := typeOf_facts h
    obtain ⟨x, hx⟩ : ∃ x, x ∈ l := by
      cases l with
      | nil => simp at h1
      | cons x xs => exact ⟨x, by simp⟩
    have hv := h3 x hx
    by_cases ht : x.ty = 1
    · omega
    · have h := hv.1
      unfold valOk at h
      rw [if_neg ht] at h
      by_cases h2 : x.ty = 2
      · omega
      · rw [if_neg h2] at h
        cases h
theorem put_ext (b : List UInt8) (v : V) : ∃ r, putVal b v = b ++ r := by
  cases hv : valOk v
  · exact ⟨[], by rw [putVal_bad hv]; simp⟩
  · by_cases ht : v.ty = 1
    · rw [putVal_int hv ht]
      unfold putNum
      split
      · exact ⟨_, rfl⟩
      · exact ⟨[], by simp⟩
    · rw [putVal_text hv ht, List.append_assoc]
      exact ⟨_, rfl⟩
theorem foldPut_ext : ∀ (M : List V) (b : List UInt8), ∃ r, M.foldl putVal b = b ++ r
  | [], b => ⟨[], by simp⟩
  | x :: M, b => by
    obtain ⟨r1, h1⟩ := put_ext b x
    obtain ⟨r2, h2⟩ := foldPut_ext M (putVal b x)
    exact ⟨r1 ++ r2, by rw [List.foldl_cons, h2, h1, List.append_assoc]⟩
theorem valOk_int_form {v : V} (h : valOk v = true) (ht : v.ty = 1) : inB v.n (-1000000000) 1000000000 = true ∧ v = ⟨1, v.n, ⟨#[]⟩⟩ := by
  obtain ⟨ty, n, s⟩ := v
  dsimp only at ht
  subst ht
  unfold valOk at h
  simp only [if_true, Bool.and_eq_true, decide_eq_true_eq] at h
  refine ⟨h.1, ?_⟩
  have : s = ⟨#[]⟩ := by
    obtain ⟨d⟩ := s
    have hd : d.size = 0 := h.2
    rw [Array.eq_empty_of_size_eq_zero hd]
  rw [this]
theorem valOk_text_form {v : V} (h : valOk v = true) (ht : ¬ v.ty = 1) : v.ty = 2 ∧ v.n = 0 ∧ v.s.size ≤ 6 := by
  unfold valOk at h
  rw [if_neg ht] at h
  by_cases h2 : v.ty = 2
  · rw [if_pos h2] at h
    simp only [Bool.and_eq_true, decide_eq_true_eq] at h
    exact ⟨h2, h.2, h.1.2⟩
  · rw [if_neg h2] at h
    cases h
theorem getVal_back {b rest : List UInt8} {v : V} (h : valOk v = true) : getVal (putVal b v ++ rest) (b.length : Int) v.ty = some (v, (putVal b v).length) := by
  by_cases ht : v.ty = 1
  · obtain ⟨hn, hv⟩ := valOk_int_form h ht
    rw [putVal_int h ht, ht, getVal_int (getNum_back hn), ← hv]
  · obtain ⟨h2, h0, h6⟩ := valOk_text_form h ht
    have hl : v.s.data.toList.length = v.s.size := by rw [Array.length_toList]; rfl
    have hP := putVal_text (bs := b) h ht
    have hc : (putVal b v ++ rest)[b.length]? = some (UInt8.ofNat v.s.size) := by
      rw [hP, List.append_assoc, List.append_assoc, List.getElem?_append_right (Nat.le_refl _), Nat.sub_self]
      rfl
    have hsz : (UInt8.ofNat v.s.size).toNat = v.s.size := by rw [UInt8.toNat_ofNat', Nat.mod_eq_of_lt (by omega)]
    have htx : textAt (putVal b v ++ rest) b.length v.s.size = v := by
      have hd : ((putVal b v ++ rest).drop (b.length + 1)).take v.s.size = v.s.data.toList := by
        rw [hP, show b ++ [UInt8.ofNat v.s.size] ++ v.s.data.toList ++ rest = (b ++ [UInt8.ofNat v.s.size]) ++ (v.s.data.toList ++ rest) by simp,
          show b.length + 1 = (b ++ [UInt8.ofNat v.s.size]).length by simp, List.drop_left, ← hl, List.take_left]
      unfold textAt
      rw [hd]
      obtain ⟨ty, n, s⟩ := v
      dsimp only at h2 h0
      subst h2
      subst h0
      rfl
    have hlen : (putVal b v).length = b.length + 1 + v.s.size := by rw [hP, text_len]
    rw [h2, getVal_text hc, hsz, htx, if_pos ⟨by rw [List.length_append, hlen]; omega, h⟩, hlen]
theorem dv_back {ty : Int} : ∀ (M L : List V) (b : List UInt8), (∀ x ∈ M, valOk x = true ∧ x.ty = ty) → dvAcc (M.foldl putVal b) ty M.length L (b.length : Int) = some (L ++ M, ((M.foldl putVal b).length : Int))
  | [], L, b, _ => by simp [dvAcc]
  | x :: M, L, b, h => by
    obtain ⟨hx, ht⟩ := h x (by simp)
    obtain ⟨r, hr⟩ := foldPut_ext M (putVal b x)
    have hg : getVal (M.foldl putVal (putVal b x)) (b.length : Int) ty = some (x, (putVal b x).length) := by
      rw [hr, ← ht]
      exact getVal_back hx
    have ih := dv_back M (L ++ [x]) (putVal b x) (fun y hy => h y (by simp [hy]))
    rw [List.foldl_cons, List.length_cons]
    simp only [dvAcc, hg, ih]
    simp
theorem plain_back {l : List V} (h : ¬ typeOf l = 0) : dpL (encPlain l) (typeOf l) (l.length : Int) = l ∧ dpOk (encPlain l) (typeOf l) (l.length : Int) = true := by
  obtain ⟨h1, h2, h3⟩ := typeOf_facts h
  have he : encPlain l = l.foldl putVal [] := by unfold encPlain; rw [if_neg h]
  have := dv_back l [] [] h3
  rw [← he] at this
  exact dp_good h1 h2 (by simpa using this) rfl

end Go.Proofs.Ytgpimlmolcjeoaa
