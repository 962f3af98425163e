/-
  Plain laws: places and picked values come back; packed bits read back.
-/
import Derived.Test.YtgpimlmolcjeoaaDecdi
namespace Go.Proofs.Ytgpimlmolcjeoaa
open Go.RowKit
set_option linter.unusedVariables false

theorem idx_mem {v : V} : ∀ {d : List V} {k : Nat}, v ∈ d → ∃ j : Nat, idxGo d v k = ((k + j : Nat) : Int) ∧ d[j]? = some v
  | [], _, h => by cases h
  | x :: d, k, h => by
    unfold idxGo
    cases hx : veq x v
    · rcases List.mem_cons.1 h with h | h
      · subst h
        rw [veq_self] at hx
        cases hx
      · obtain ⟨j, h1, h2⟩ := idx_mem (k := k + 1) h
        refine ⟨j + 1, ?_, by simpa using h2⟩
        simp only [Bool.false_eq_true, if_false]
        rw [h1, show k + 1 + j = k + (j + 1) by omega]
    · have := veq_iff.1 hx
      subst this
      exact ⟨0, by simp, rfl⟩
theorem inDict_mem {d : List V} {v : V} (h : v ∈ d) : ∃ j : Nat, inDict d v = (j : Int) ∧ d[j]? = some v := by
  obtain ⟨j, h1, h2⟩ := idx_mem (k := 0) h
  exact ⟨j, by unfold inDict; rw [h1, Nat.zero_add], h2⟩
theorem place_all {d l : List V} (h : ∀ x ∈ l, x ∈ d) : placeOk d l = true ∧ placeL d l = l.map (inDict d) := by
  have h1 : placeOk d l = true := by
    unfold placeOk
    rw [List.all_eq_true]
    intro x hx
    obtain ⟨j, h1, _⟩ := inDict_mem (h x hx)
    simp [placeGood, h1]
  exact ⟨h1, by unfold placeL; rw [h1]; rfl⟩
theorem picked_map {d : List V} : ∀ {l : List V}, (∀ x ∈ l, x ∈ d) → pickedOk d (l.map (inDict d)) = true ∧ pickTo d (l.map (inDict d)) = l
  | [], _ => ⟨rfl, rfl⟩
  | x :: l, h => by
    obtain ⟨h1, h2⟩ := picked_map (l := l) (fun y hy => h y (List.mem_cons_of_mem _ hy))
    obtain ⟨j, h3, h4⟩ := inDict_mem (h x (List.mem_cons_self ..))
    have hj := (List.getElem?_eq_some_iff.1 h4).1
    constructor
    · unfold pickedOk at h1 ⊢
      rw [List.map_cons, List.all_cons, h1, Bool.and_true, h3]
      exact inB_true ⟨by omega, by omega⟩
    · unfold pickTo at h2 ⊢
      rw [List.map_cons, h3, List.filterMap_cons, Int.toNat_natCast, h4]
      simp [h2]
theorem dict_place (l : List V) : placeOk (dictOf l) l = true ∧ pickedOk (dictOf l) (placeL (dictOf l) l) = true ∧ pickedL (dictOf l) (placeL (dictOf l) l) = l := by
  have hm : ∀ x ∈ l, x ∈ dictOf l := fun x hx => (dict_mem l x).2 hx
  obtain ⟨h1, h2⟩ := place_all hm
  obtain ⟨h3, h4⟩ := picked_map hm
  rw [h2]
  exact ⟨h1, h3, by unfold pickedL; rw [h3]; exact h4⟩
theorem dict_less {l : List V} {j : Nat} {x y : V} (h1 : (dictOf l)[j]? = some x) (h2 : (dictOf l)[j + 1]? = some y) : lessV x y = true := by
  obtain ⟨a1, rfl⟩ := List.getElem?_eq_some_iff.1 h1
  obtain ⟨a2, rfl⟩ := List.getElem?_eq_some_iff.1 h2
  exact List.pairwise_iff_getElem.1 (dict_ss l) j (j + 1) a1 a2 (by omega)

def bitN (bs : List UInt8) (n : Nat) : Bool := (((bs[n / 8]?).getD 0).toNat).testBit (n % 8)
theorem bitN_app (bs : List UInt8) (n : Nat) : bitN (bs ++ [0]) n = bitN bs n := by
  unfold bitN
  by_cases h : n / 8 < bs.length
  · rw [List.getElem?_append_left h]
  · rw [List.getElem?_append_right (by omega), List.getElem?_eq_none (l := bs) (by omega)]
    by_cases h2 : n / 8 - bs.length = 0
    · rw [h2]; rfl
    · rw [List.getElem?_eq_none (by simp; omega)]
theorem bitN_step {bs : List UInt8} {m n : Nat} (hm : m / 8 < bs.length) (v : Bool) : bitN (pkStep bs m v) n = (bitN bs n || (v && decide (n = m))) := by
  cases v
  · simp [pkStep]
  · simp only [pkStep, if_true, Bool.true_and]
    unfold bitN
    by_cases h : n / 8 = m / 8
    · rw [h, List.getElem?_set_self hm]
      have hx := ((bs[m / 8]?).getD 0).toNat_lt
      have hb := or_bd8 (a := ((bs[m / 8]?).getD 0).toNat) (k := m % 8) hx (by omega)
      rw [Option.getD_some, UInt8.toNat_ofNat_of_lt' hb, Nat.testBit_or, Nat.testBit_two_pow]
      congr 1
      apply decide_eq_decide.2
      omega
    · rw [List.getElem?_set_ne (by omega), decide_eq_false (show ¬ n = m by rintro rfl; exact h rfl), Bool.or_false]
theorem bitN_pack (f : Nat → Bool) (n : Nat) : ∀ m, bitN (packS f m) n = (decide (n < m) && f n)
  | 0 => by simp [packS, bitN]
  | m + 1 => by
    have ih := bitN_pack f n m
    have hl := packS_len f m
    unfold packS
    rw [bitN_step (by
      split
      · simp; omega
      · omega)]
    have h2 : bitN (if m % 8 = 0 then packS f m ++ [0] else packS f m) n = bitN (packS f m) n := by
      split
      · exact bitN_app _ _
      · rfl
    rw [h2, ih]
    by_cases h : n = m
    · subst h
      simp
    · rw [decide_eq_false h, Bool.and_false, Bool.or_false]
      congr 1
      apply decide_eq_decide.2
      omega
theorem bitAt_N (bs : List UInt8) (n : Nat) : bitAt bs (n : Int) = if bitN bs n then 1 else 0 := by
  unfold bitAt bitN
  rw [if_neg (by omega), show ((n : Int) / 8).toNat = n / 8 by omega, show ((n : Int) % 8).toNat = n % 8 by omega]
  cases h : bs[n / 8]? with
  | none => simp
  | some x =>
    simp only [Option.getD_some, Nat.testBit_eq_decide_div_mod_eq]
    have := Nat.mod_two_eq_zero_or_one (x.toNat / 2 ^ (n % 8))
    rcases this with h | h <;> simp [h]

theorem word_back {bs : List UInt8} {m i X : Nat} (hX : X < 2 ^ m) (hm : m ≤ 31) (hb : ∀ t, t < m → bitN bs (i * m + t) = X.testBit t) : ∀ j, j ≤ m → wordTo bs m i j = ((X % 2 ^ j : Nat) : Int)
  | 0, _ => by simp [wordTo, Nat.mod_one]
  | j + 1, hj => by
    have ih := word_back hX hm hb j (by omega)
    have hp : 2 ^ j ≤ 2 ^ 31 := Nat.pow_le_pow_right (by omega) (by omega)
    have hlt : X % 2 ^ j < 2 ^ j := Nat.mod_lt _ (Nat.pow_pos (by omega))
    unfold wordTo
    rw [ih, show (i : Int) * (m : Int) + (j : Int) = ((i * m + j : Nat) : Int) by simp, bitAt_N, hb j (by omega), Nat.mod_pow_succ]
    cases h : X.testBit j
    · have h0 : X / 2 ^ j % 2 = 0 := by
        rw [Nat.testBit_eq_decide_div_mod_eq] at h
        have := of_decide_eq_false h
        omega
      rw [h0]
      have e0 : wrap64 ((if false = true then (1 : Int) else 0) * 2 ^ j) = ((0 : Nat) : Int) := by simp [wrap64]
      rw [e0, i64_or_nat _ _ (by omega) (by omega)]
      simp
    · have h1 : X / 2 ^ j % 2 = 1 := by
        rw [Nat.testBit_eq_decide_div_mod_eq] at h
        exact of_decide_eq_true h
      rw [h1]
      have e1 : wrap64 ((if true = true then (1 : Int) else 0) * 2 ^ j) = ((2 ^ j : Nat) : Int) := by
        rw [if_pos rfl, Int.one_mul, show (2 : Int) ^ j = ((2 ^ j : Nat) : Int) by simp]
        exact wrap_nat _ (by omega)
      rw [e1, i64_or_nat _ _ (by omega) (by omega), Nat.mul_one]
      congr 1
      have := Nat.two_pow_add_eq_or_of_lt hlt 1
      rw [Nat.mul_one] at this
      rw [Nat.or_comm, ← this, Nat.add_comm]
theorem unpack_pack {xs : List Int} {m : Nat} (hm : m ≤ 31) (hk : xs.length ≤ 64) (hx : ∀ x ∈ xs, 0 ≤ x ∧ x < 2 ^ m) (hp : packOk xs (m : Int) = true) : upOk (packOf xs m) m (xs.length : Int) = true ∧ upL (packOf xs m) m (xs.length : Int) = xs := by
  have hl : (packOf xs m).length = (xs.length * m + 7) / 8 := by rw [packOf_yes hp, packS_len]
  have hbit : ∀ n, bitN (packOf xs m) n = (decide (n < xs.length * m) && pkBit xs m n) := fun n => by rw [packOf_yes hp, bitN_pack]
  have hB : ((packOf xs m).length : Int) = bytesFor (xs.length : Int) (m : Int) := by
    unfold bytesFor
    rw [inB_true (by omega), inB_true (by omega), hl]
    simp
  have hr : restOk (packOf xs m) (xs.length * m) (8 * (packOf xs m).length) = true := by
    apply rest_end
    intro t h1 h2
    rw [bitAt_N, hbit, decide_eq_false (by omega)]
    rfl
  obtain ⟨g1, g2⟩ := up_good (bs := packOf xs m) (m := m) (k := xs.length) ⟨inB_true (by omega), inB_true (by omega), hB⟩ hr
  refine ⟨g2, ?_⟩
  rw [g1]
  unfold wordsTo
  apply List.ext_getElem
  · simp
  · intro i h1 h2
    have hi := hx _ (List.getElem_mem h2)
    obtain ⟨X, hX⟩ := Int.eq_ofNat_of_zero_le hi.1
    have hXm : X < 2 ^ m := by
      have h3 := hi.2
      rw [hX, show (2 : Int) ^ m = ((2 ^ m : Nat) : Int) by simp] at h3
      omega
    have hgx : xs[i]? = some (X : Int) := by rw [List.getElem?_eq_getElem h2, hX]
    rw [List.getElem_map, List.getElem_range, word_back hXm hm (fun t ht => ?_) m (Nat.le_refl _), Nat.mod_eq_of_lt hXm, hX]
    have hin : i * m + t < xs.length * m := by
      have := Nat.mul_le_mul_right m (show i + 1 ≤ xs.length by omega)
      rw [Nat.add_mul, Nat.one_mul] at this
      omega
    rw [hbit, decide_eq_true hin, pkBit_at hgx ht, Bool.true_and, Int.toNat_natCast, Nat.testBit_eq_decide_div_mod_eq]

theorem dv_backr {ty : Int} : ∀ (M L : List V) (b rest : List UInt8), (∀ x ∈ M, valOk x = true ∧ x.ty = ty) → dvAcc (M.foldl putVal b ++ rest) ty M.length L (b.length : Int) = some (L ++ M, ((M.foldl putVal b).length : Int))
  | [], L, b, rest, _ => by simp [dvAcc]
  | x :: M, L, b, rest, h => by
    obtain ⟨hx, ht⟩ := h x (by simp)
    obtain ⟨r, hr⟩ := foldPut_ext M (putVal b x)
    have hg : getVal (M.foldl putVal (putVal b x) ++ rest) (b.length : Int) ty = some (x, (putVal b x).length) := by
      rw [hr, ← ht, List.append_assoc]
      exact getVal_back hx
    have ih := dv_backr M (L ++ [x]) (putVal b x) rest (fun y hy => h y (by simp [hy]))
    rw [List.foldl_cons, List.length_cons]
    simp only [dvAcc, hg, ih]
    simp
theorem fin_wid : ∀ y x : Fin 64, x ≤ y → x.val < 2 ^ Lib.bitLen y.val ∧ Lib.bitLen x.val ≤ Lib.bitLen y.val := by decide +kernel
theorem wid_small {x : Nat} (h : x ≤ 63) : widthOf (x : Int) = (Lib.bitLen x : Int) := by
  unfold widthOf
  cases x with
  | zero => rfl
  | succ x => rw [inB_true (by omega)]; simp
theorem dict_back {l : List V} (h : ¬ typeOf l = 0) : ddL (encDict l) (typeOf l) (l.length : Int) = l ∧ ddOk (encDict l) (typeOf l) (l.length : Int) = true := by
  obtain ⟨h1, h2, h3⟩ := typeOf_facts h
  have hdl := dict_len l
  obtain ⟨p1, p2, p3⟩ := dict_place l
  have hm : ∀ x ∈ l, x ∈ dictOf l := fun x hx => (dict_mem l x).2 hx
  have hpl := (place_all hm).2
  have hD3 : ∀ x ∈ dictOf l, valOk x = true ∧ x.ty = typeOf l := fun x hx => h3 x ((dict_mem l x).1 hx)
  have hN1 : 1 ≤ (dictOf l).length := by
    cases hl : l with
    | nil => rw [hl] at h1; simp at h1
    | cons x t =>
      have := hm x (by rw [hl]; simp)
      rw [hl] at this
      exact List.length_pos_of_mem this
  obtain ⟨Y, hY⟩ : ∃ Y, (dictOf l).length = Y + 1 := ⟨(dictOf l).length - 1, by omega⟩
  have hY1 : ((dictOf l).length : Int) - 1 = (Y : Int) := by omega
  have hwY := wid_small (x := Y) (by omega)
  have hW31 := bitLen_le31 Y (by omega)
  have hxs : ∀ x ∈ placeL (dictOf l) l, ∃ j : Nat, x = (j : Int) ∧ j ≤ Y := by
    intro x hx
    rw [hpl, List.mem_map] at hx
    obtain ⟨v, hv, rfl⟩ := hx
    obtain ⟨j, g1, g2⟩ := inDict_mem (hm v hv)
    have := (List.getElem?_eq_some_iff.1 g2).1
    exact ⟨j, g1, by omega⟩
  have hlen : (placeL (dictOf l) l).length = l.length := by rw [hpl, List.length_map]
  have hpk : packOk (placeL (dictOf l) l) ((Lib.bitLen Y : Nat) : Int) = true := by
    unfold packOk
    rw [Bool.and_eq_true, List.all_eq_true]
    refine ⟨fun x hx => ?_, inB_true (by omega)⟩
    obtain ⟨j, rfl, hj⟩ := hxs x hx
    have hf := (fin_wid ⟨Y, by omega⟩ ⟨j, by omega⟩ hj).2
    simp only at hf
    unfold packFit
    rw [inB_true (by omega), wid_small (by omega), decide_eq_true (by omega)]
    rfl
  obtain ⟨u1, u2⟩ := unpack_pack (xs := placeL (dictOf l) l) (m := Lib.bitLen Y) hW31 (by omega) (fun x hx => by
    obtain ⟨j, rfl, hj⟩ := hxs x hx
    have hf := (fin_wid ⟨Y, by omega⟩ ⟨j, by omega⟩ hj).1
    simp only at hf
    refine ⟨by omega, ?_⟩
    rw [show (2 : Int) ^ Lib.bitLen Y = ((2 ^ Lib.bitLen Y : Nat) : Int) by simp]
    exact_mod_cast hf) hpk
  rw [hlen] at u1 u2
  have he : encDict l = (dictOf l).foldl putVal (putNum [] ((dictOf l).length : Int)) ++ packOf (placeL (dictOf l) l) ((Lib.bitLen Y : Nat) : Int) := by
    rw [encD_some h, encDTo, List.take_of_length_le (Nat.le_refl _), hY1, hwY]
  obtain ⟨r, hr⟩ := foldPut_ext (dictOf l) (putNum [] ((dictOf l).length : Int))
  have hg : getNum (encDict l) 0 = some (((dictOf l).length : Int), (putNum [] ((dictOf l).length : Int)).length) := by
    rw [he, hr, List.append_assoc]
    exact getNum_back (b := []) (inB_true ⟨by omega, by omega⟩)
  have hd := dv_backr (ty := typeOf l) (dictOf l) [] (putNum [] ((dictOf l).length : Int)) (packOf (placeL (dictOf l) l) ((Lib.bitLen Y : Nat) : Int)) hD3
  rw [← he, List.nil_append] at hd
  have hdr : (encDict l).drop ((dictOf l).foldl putVal (putNum [] ((dictOf l).length : Int))).length = packOf (placeL (dictOf l) l) ((Lib.bitLen Y : Nat) : Int) := by
    rw [he, List.drop_left]
  have hU : ddU (encDict l) (l.length : Int) ((dictOf l).length : Int) ((dictOf l).foldl putVal (putNum [] ((dictOf l).length : Int))).length = placeL (dictOf l) l := by
    unfold ddU
    rw [hdr, hY1, hwY, u2]
  obtain ⟨f1, _⟩ := dd_full (ty := typeOf l) (k := (l.length : Int)) hg hd hN1 (inB_true ⟨by omega, by omega⟩) (by rw [hdr, hY1, hwY]; exact u1)
  rw [hU, p3] at f1
  exact dd_some (f1 ⟨rfl, rfl⟩)

end Go.Proofs.Ytgpimlmolcjeoaa
