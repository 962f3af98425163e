/-
  Contracts of ParseNum, in the program and in the reference.
-/
import Derived.Test.YtgpimlmolcjeoaaDoorNtext
import Derived.Test.YtgpimlmolcjeoaaDoorNum
import Derived.Test.YtgpimlmolcjeoaaDoorValOk

namespace Go.Proofs.YtgpimlmolcjeoaaDoor
open Go.RowKit
open Go.Lib (itoa decDigits decFrom)
set_option linter.unusedVariables false
set_option maxRecDepth 100000

def pnN (s : ByteArray) : Int := (pnOf s.data.toList).getD 0
def pnB (s : ByteArray) : Bool := (pnOf s.data.toList).isSome
def pnT (s : ByteArray) : Value := .tuple #[.int .i64 (pnN s), .bool (pnB s)]
theorem pnT_none {s : ByteArray} (h : pnOf s.data.toList = none) : Value.tuple #[.int .i64 0, .bool false] = pnT s := by simp [pnT, pnN, pnB, h]
theorem pnT_some {s : ByteArray} {n : Int} (h : pnOf s.data.toList = some n) : Value.tuple #[.int .i64 n, .bool true] = pnT s := by simp [pnT, pnN, pnB, h]
theorem numText_eq {n : Int} {s : ByteArray} : numText n = s ↔ itoa n = s.data.toList := by
  constructor
  · intro h; rw [← h]; rfl
  · intro h; unfold numText; rw [h]
theorem str_ext {a b : ByteArray} (h : a.toList = b.toList) : a = b := by
  rw [ByteArray.toList_eq, ByteArray.toList_eq] at h
  exact ByteArray.ext (Array.toList_inj.1 h)
theorem pn_len (s : ByteArray) : s.data.toList.length = s.size := by simp
theorem pn_isN {n : Int} : inB n (-1000000000) 1000000000 = decide (IsN n) := rfl
theorem pnN_ok (s : ByteArray) : I64 (pnN s) := by
  unfold pnN
  cases h : pnOf s.data.toList with
  | none => exact ⟨by decide, by decide⟩
  | some n =>
    have := (pnOf_some.1 h).1
    unfold IsN at this
    exact ⟨by simp only [Option.getD_some]; omega, by simp only [Option.getD_some]; omega⟩
theorem head_get (s : ByteArray) (h : 0 < s.size) : s.data.toList.head? = some s[0] := by
  rw [List.head?_eq_getElem?]
  exact get_data s 0 h
theorem sgn_one {s : ByteArray} (h : 0 < s.size) (h45 : s[0].toNat = 45) : sgn s.data.toList = 1 ∧ s.data.toList.head? = some 45 := by
  have e : s[0] = 45 := UInt8.toNat_inj.1 h45
  unfold sgn
  rw [head_get s h, e]
  exact ⟨rfl, rfl⟩
theorem sgn_zero {s : ByteArray} (h : 0 < s.size) (h45 : s[0].toNat ≠ 45) : sgn s.data.toList = 0 ∧ s.data.toList.head? ≠ some 45 := by
  have e : s.data.toList.head? ≠ some 45 := by
    rw [head_get s h]
    intro he
    injection he with he
    exact h45 (congrArg UInt8.toNat he)
  unfold sgn
  rw [if_neg e]
  exact ⟨rfl, e⟩

theorem impl_ParseNum (w : World) (s : ByteArray) (hs : s.size ≤ 281474976710656) (hT : Tab w) (hE : Errs w) :
    Calls Tryd.prog 22 #[.string s] w fun e w' => e = .returned (pnT s) ∧ Below w.heap.size w w' := by
  obtain ⟨⟨t1, p1, h1⟩, t2, p2, h2⟩ := hE
  cases hA : Lib.atoiAll s.data.toList with
  | range =>
    have hp := Lib.hid (pnOf_fault (fun v h => by rw [hA] at h; cases h))
    go_enter Tryd.func22, Tryd.ntmps22
    go_wp2_with fail
    refine (Tryd.strconv_Atoi_range_var s hs hA t2 p2 w h2).mono ?_
    rintro e w1 ⟨N, rfl, -, -, hb⟩
    clear h1 h2 hA hT
    go_wp2
    go_ret2
    exact ⟨ret_val (pnT_none hp.out), hb⟩
  | ok v =>
    have hp := Lib.hid (pnOf_atoi hA)
    have hv := Lib.atoiAll_bounds hA
    go_enter Tryd.func22, Tryd.ntmps22
    go_wp2_with fail
    refine (Tryd.strconv_Atoi_ok s (by omega) v hA w).mono ?_
    rintro e w1 ⟨rfl, hw⟩
    have hb : Below w.heap.size w w1 := by
      rcases hw with rfl | ⟨t, rfl⟩
      · exact Below.refl _ _
      · exact Lib.bytesWorld_below _ _ _
    have hT1 := hT.below hb
    clear h1 h2 hA hT hw
    by_cases hN : IsN v
    case neg =>
      have hB : inB v (-1000000000) 1000000000 = false := by rw [pn_isN]; exact decide_eq_false hN
      have hp2 := Lib.hid (show pnOf s.data.toList = none by rw [hp.out, if_neg (fun h => hN h.1)])
      clear hp hN
      go_wp2_with (go_at_call 47; refine (isNum_any _ _).mono ?_; rintro e w2 ⟨rfl, rfl⟩)
      go_ret2
      exact ⟨ret_val (pnT_none hp2.out), hb⟩
    have hB : inB v (-1000000000) 1000000000 = true := by rw [pn_isN]; exact decide_eq_true hN
    have HN := Lib.hid hN
    clear hN
    go_wp2_with (go_at_call 47; refine (isNum_any _ _).mono ?_; rintro e w2 ⟨rfl, rfl⟩)
    refine (impl_NumText _ v hv hT1).mono ?_
    rintro e w2 ⟨rfl, hb2⟩
    have hb3 := hb.trans (hb2.mono hb.size)
    clear hb hb2 hT1
    by_cases he : numText v = s
    · have hp2 := Lib.hid (show pnOf s.data.toList = some v by rw [hp.out, if_pos ⟨HN.out, numText_eq.1 he⟩])
      have e1 : ((numText v).toList == s.toList) = true := by rw [he]; exact beq_self_eq_true _
      clear hp he
      go_wp2
      go_ret2
      exact ⟨ret_val (pnT_some hp2.out), hb3⟩
    · have hp2 := Lib.hid (show pnOf s.data.toList = none by rw [hp.out, if_neg (fun h => he (numText_eq.2 h.2))])
      have e1 : ((numText v).toList == s.toList) = false := beq_eq_false_iff_ne.2 (fun h => he (str_ext h))
      clear hp he
      go_wp2
      go_ret2
      exact ⟨ret_val (pnT_none hp2.out), hb3⟩
  | _ =>
    have hp := Lib.hid (pnOf_fault (fun v h => by rw [hA] at h; cases h))
    go_enter Tryd.func22, Tryd.ntmps22
    go_wp2_with fail
    refine (Any.strconv_Atoi_syntax_var Tryd.laysC172 s hs hA t1 p1 w h1).mono ?_
    rintro e w1 ⟨N, rfl, -, -, hb⟩
    clear h1 h2 hA hT
    go_wp2
    go_ret2
    exact ⟨ret_val (pnT_none hp.out), hb⟩
set_option maxHeartbeats 1600000 in
theorem spec_ParseNum_neg (w : World) (s : ByteArray) (h1 : 0 < s.size) (h11 : s.size ≤ 11) (h45 : s[0].toNat = 45) :
    Calls Tryd.prog 21 #[.string s] w fun e w' => e = .returned (pnT s) ∧ Below w.heap.size w w' := by
  obtain ⟨hsg, hhd⟩ := sgn_one h1 h45
  have HSG := Lib.hid hsg
  have HHD := Lib.hid hhd
  have HL := Lib.hid (pn_len s)
  have h45b : ((s[0].toNat : Int) == 45) = true := by simp; omega
  have hBL : inB (s.size : Int) 1 11 = true := inB_true (by omega)
  clear hsg hhd h45
  go_enter Tryd.func21, Tryd.ntmps21
  go_wp2_with (go_at_call 44; refine (l1In_any _ _ _ _).mono ?_; rintro e w' ⟨rfl, rfl⟩)
  go_loopw [4, 6] (fun q i wr => ∃ (k j : Nat), q = .int .i64 (k : Int) ∧ i = .int .i64 (j : Int) ∧ j ≤ s.size ∧ k < 100000000000 ∧ Hid (decFrom 0 ((s.data.toList.take j).drop (sgn s.data.toList)) = some k) ∧ Below w.heap.size w wr) (fun _ i _ => s.size - (intOf i).toNat)
  case atStart => exact ⟨0, 0, rfl, rfl, Nat.zero_le _, by omega, Lib.hid (by simp [decFrom]), Below.refl _ _⟩
  case round =>
    obtain ⟨k, j, rfl, rfl, hj, hk, hD, hbl⟩ := hrel
    by_cases hlt : j < s.size
    · by_cases hj0 : j = 0
      · subst hj0
        have hk0 : k = 0 := by have := hD.out; simp [decFrom] at this; exact this.symm
        subst hk0
        have hD1 : Hid (decFrom 0 ((s.data.toList.take 1).drop (sgn s.data.toList)) = some 0) := Lib.hid (by rw [HSG.out, List.drop_of_length_le (by simp; omega)]; rfl)
        clear hD
        go_wp2
        go_roundw
        case rel => exact ⟨0, 1, rfl, by go_num, by omega, by omega, hD1, hbl⟩
        case measure => simp [intOf]; omega
      have hsj : Hid (sgn s.data.toList ≤ j) := Lib.hid (by rw [HSG.out]; omega)
      have hx := Lib.hid (get_data s j hlt)
      by_cases hdg : 48 ≤ s[j].toNat ∧ s[j].toNat ≤ 57
      · have hB : inB (s[j].toNat : Int) 48 57 = true := inB_true (by omega)
        have hD1 := dec_step hsj.out hx.out hdg hD.out
        have hk2 := dec_bound (by omega) hD1
        have HD1 := Lib.hid hD1
        obtain ⟨hd1, hd2⟩ := hdg
        clear hD hD1 hx hsj
        go_wp2_with (go_at_call 44; refine (l1In_any _ _ _ _).mono ?_; rintro e w' ⟨rfl, rfl⟩)
        go_roundw
        case rel => exact ⟨k * 10 + (s[j].toNat - 48), j + 1, by go_num, by go_num, by omega, hk2, HD1, hbl⟩
        case measure => simp [intOf]; omega
      · have hB : inB (s[j].toNat : Int) 48 57 = false := inB_false (by omega)
        have hp := Lib.hid (pnOf_digit hsj.out hx.out hdg)
        have h256 : s[j].toNat < 256 := UInt8.toNat_lt _
        clear hD hx hsj hdg
        go_wp2_with (go_at_call 44; refine (l1In_any _ _ _ _).mono ?_; rintro e w' ⟨rfl, rfl⟩)
        go_ret2
        exact ⟨ret_val (pnT_none hp.out), hbl⟩
    · have hjn : j = s.size := by omega
      subst hjn
      have hD2 := Lib.hid (pnOf_end (s := s.data.toList) (k := k) (by have := hD.out; rwa [List.take_of_length_le (by rw [HL.out]; exact Nat.le_refl _)] at this))
      clear hD
      have HE := Lib.hid (show pnOf s.data.toList = if IsN (-(k : Int)) ∧ itoa (-(k : Int)) = s.data.toList then some (-(k : Int)) else none by rw [hD2.out]; simp only [HHD.out, if_true])
      clear hD2
      obtain ⟨v, hv⟩ : ∃ v : Int, v = (-(k : Int)) := ⟨_, rfl⟩
      rw [← hv] at HE
      have hv1 : I64 v := by unfold I64; omega
      by_cases hN : IsN v
      case neg =>
        have hB : inB (-(k : Int)) (-1000000000) 1000000000 = false := by rw [← hv, pn_isN]; exact decide_eq_false hN
        have hp2 := Lib.hid (show pnOf s.data.toList = none by rw [HE.out, if_neg (fun h => hN h.1)])
        clear HE hN hv hv1
        go_wp2_with (go_at_call 45; refine (l1Right_any _ _).mono ?_; rintro e w2 ⟨rfl, rfl⟩)
        go_ret2
        exact ⟨ret_val (pnT_none hp2.out), hbl⟩
      have hB : inB (-(k : Int)) (-1000000000) 1000000000 = true := by rw [← hv, pn_isN]; exact decide_eq_true hN
      have HN := Lib.hid hN
      have HV := Lib.hid hv
      clear hN hv
      go_wp2_with (go_at_call 45; refine (l1Right_any _ _).mono ?_; rintro e w2 ⟨rfl, rfl⟩)
      refine (spec_NumText _ (-(k : Int)) (HV.out ▸ hv1)).mono ?_
      rw [← HV.out]
      rintro e w2 ⟨rfl, hb2⟩
      have hb3 := hbl.trans (hb2.mono hbl.size)
      clear hbl hb2 hv1
      by_cases he : numText v = s
      · have hp2 := Lib.hid (show pnOf s.data.toList = some v by rw [HE.out, if_pos ⟨HN.out, numText_eq.1 he⟩])
        have e1 : ((numText v).toList == s.toList) = true := by rw [he]; exact beq_self_eq_true _
        clear HE he
        go_wp2
        go_ret2
        exact ⟨ret_val (pnT_some hp2.out), hb3⟩
      · have hp2 := Lib.hid (show pnOf s.data.toList = none by rw [HE.out, if_neg (fun h => he (numText_eq.2 h.2))])
        have e1 : ((numText v).toList == s.toList) = false := beq_eq_false_iff_ne.2 (fun h => he (str_ext h))
        clear HE he
        go_wp2
        go_ret2
        exact ⟨ret_val (pnT_none hp2.out), hb3⟩
set_option maxHeartbeats 1600000 in
theorem spec_ParseNum_pos (w : World) (s : ByteArray) (h1 : 0 < s.size) (h11 : s.size ≤ 11) (h45 : s[0].toNat ≠ 45) :
    Calls Tryd.prog 21 #[.string s] w fun e w' => e = .returned (pnT s) ∧ Below w.heap.size w w' := by
  obtain ⟨hsg, hhd⟩ := sgn_zero h1 h45
  have HSG := Lib.hid hsg
  have HHD := Lib.hid hhd
  have HL := Lib.hid (pn_len s)
  have h45b : ((s[0].toNat : Int) == 45) = false := by simp; omega
  have hBL : inB (s.size : Int) 1 11 = true := inB_true (by omega)
  clear hsg hhd h45
  go_enter Tryd.func21, Tryd.ntmps21
  go_wp2_with (go_at_call 44; refine (l1In_any _ _ _ _).mono ?_; rintro e w' ⟨rfl, rfl⟩)
  go_loopw [4, 6] (fun q i wr => ∃ (k j : Nat), q = .int .i64 (k : Int) ∧ i = .int .i64 (j : Int) ∧ j ≤ s.size ∧ k < 100000000000 ∧ Hid (decFrom 0 ((s.data.toList.take j).drop (sgn s.data.toList)) = some k) ∧ Below w.heap.size w wr) (fun _ i _ => s.size - (intOf i).toNat)
  case atStart => exact ⟨0, 0, rfl, rfl, Nat.zero_le _, by omega, Lib.hid (by simp [decFrom]), Below.refl _ _⟩
  case round =>
    obtain ⟨k, j, rfl, rfl, hj, hk, hD, hbl⟩ := hrel
    by_cases hlt : j < s.size
    · have hsj : Hid (sgn s.data.toList ≤ j) := Lib.hid (by rw [HSG.out]; omega)
      cases hjb : ((j : Int) == 0)
      all_goals
        have hx := Lib.hid (get_data s j hlt)
        by_cases hdg : 48 ≤ s[j].toNat ∧ s[j].toNat ≤ 57
        · have hB : inB (s[j].toNat : Int) 48 57 = true := inB_true (by omega)
          have hD1 := dec_step hsj.out hx.out hdg hD.out
          have hk2 := dec_bound (by omega) hD1
          have HD1 := Lib.hid hD1
          obtain ⟨hd1, hd2⟩ := hdg
          clear hD hD1 hx hsj
          go_wp2_with (go_at_call 44; refine (l1In_any _ _ _ _).mono ?_; rintro e w' ⟨rfl, rfl⟩)
          go_roundw
          case rel => exact ⟨k * 10 + (s[j].toNat - 48), j + 1, by go_num, by go_num, by omega, hk2, HD1, hbl⟩
          case measure => simp [intOf]; omega
        · have hB : inB (s[j].toNat : Int) 48 57 = false := inB_false (by omega)
          have hp := Lib.hid (pnOf_digit hsj.out hx.out hdg)
          have h256 : s[j].toNat < 256 := UInt8.toNat_lt _
          clear hD hx hsj hdg
          go_wp2_with (go_at_call 44; refine (l1In_any _ _ _ _).mono ?_; rintro e w' ⟨rfl, rfl⟩)
          go_ret2
          exact ⟨ret_val (pnT_none hp.out), hbl⟩
    · have hjn : j = s.size := by omega
      subst hjn
      have hD2 := Lib.hid (pnOf_end (s := s.data.toList) (k := k) (by have := hD.out; rwa [List.take_of_length_le (by rw [HL.out]; exact Nat.le_refl _)] at this))
      clear hD
      have HE := Lib.hid (show pnOf s.data.toList = if IsN (k : Int) ∧ itoa (k : Int) = s.data.toList then some (k : Int) else none by rw [hD2.out]; simp only [if_neg HHD.out])
      clear hD2
      obtain ⟨v, hv⟩ : ∃ v : Int, v = (k : Int) := ⟨_, rfl⟩
      rw [← hv] at HE
      have hv1 : I64 v := by unfold I64; omega
      by_cases hN : IsN v
      case neg =>
        have hB : inB (k : Int) (-1000000000) 1000000000 = false := by rw [← hv, pn_isN]; exact decide_eq_false hN
        have hp2 := Lib.hid (show pnOf s.data.toList = none by rw [HE.out, if_neg (fun h => hN h.1)])
        clear HE hN hv hv1
        go_wp2_with (go_at_call 45; refine (l1Right_any _ _).mono ?_; rintro e w2 ⟨rfl, rfl⟩)
        go_ret2
        exact ⟨ret_val (pnT_none hp2.out), hbl⟩
      have hB : inB (k : Int) (-1000000000) 1000000000 = true := by rw [← hv, pn_isN]; exact decide_eq_true hN
      have HN := Lib.hid hN
      have HV := Lib.hid hv
      clear hN hv
      go_wp2_with (go_at_call 45; refine (l1Right_any _ _).mono ?_; rintro e w2 ⟨rfl, rfl⟩)
      refine (spec_NumText _ (k : Int) (HV.out ▸ hv1)).mono ?_
      rw [← HV.out]
      rintro e w2 ⟨rfl, hb2⟩
      have hb3 := hbl.trans (hb2.mono hbl.size)
      clear hbl hb2 hv1
      by_cases he : numText v = s
      · have hp2 := Lib.hid (show pnOf s.data.toList = some v by rw [HE.out, if_pos ⟨HN.out, numText_eq.1 he⟩])
        have e1 : ((numText v).toList == s.toList) = true := by rw [he]; exact beq_self_eq_true _
        clear HE he
        go_wp2
        go_ret2
        exact ⟨ret_val (pnT_some hp2.out), hb3⟩
      · have hp2 := Lib.hid (show pnOf s.data.toList = none by rw [HE.out, if_neg (fun h => he (numText_eq.2 h.2))])
        have e1 : ((numText v).toList == s.toList) = false := beq_eq_false_iff_ne.2 (fun h => he (str_ext h))
        clear HE he
        go_wp2
        go_ret2
        exact ⟨ret_val (pnT_none hp2.out), hb3⟩
theorem spec_ParseNum (w : World) (s : ByteArray) (hs : s.size ≤ 281474976710656) :
    Calls Tryd.prog 21 #[.string s] w fun e w' => e = .returned (pnT s) ∧ Below w.heap.size w w' := by
  by_cases hl : 1 ≤ s.size ∧ s.size ≤ 11
  · by_cases h45 : s[0].toNat = 45
    · exact spec_ParseNum_neg w s hl.1 hl.2 h45
    · exact spec_ParseNum_pos w s hl.1 hl.2 h45
  · have hBL : inB (s.size : Int) 1 11 = false := inB_false (by omega)
    have hp := Lib.hid (pnOf_long (s := s.data.toList) (by rw [pn_len]; exact hl))
    clear hl
    go_enter Tryd.func21, Tryd.ntmps21
    go_wp2_with (go_at_call 44; refine (l1In_any _ _ _ _).mono ?_; rintro e w' ⟨rfl, rfl⟩)
    go_ret2
    exact ⟨ret_val (pnT_none hp.out), Below.refl _ _⟩
end Go.Proofs.YtgpimlmolcjeoaaDoor
