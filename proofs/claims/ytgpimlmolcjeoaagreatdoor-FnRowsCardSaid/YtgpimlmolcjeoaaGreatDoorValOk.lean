/-
  Contracts of ValOk, in the program and in the reference.
-/
import Derived.Test.YtgpimlmolcjeoaaGreatDoorVal
namespace Go.Proofs.YtgpimlmolcjeoaaGreatDoor
open Go.RowKit
set_option linter.unusedVariables false
set_option maxRecDepth 100000

def charOk (x : UInt8) : Bool := decide (97 ≤ x.toNat ∧ x.toNat ≤ 122 ∨ 48 ≤ x.toNat ∧ x.toNat ≤ 57)
def valOk (v : V) : Bool :=
  if v.ty = 1 then inB v.n (-1000000000) 1000000000 && decide (v.s.size = 0)
  else if v.ty = 2 then v.s.data.toList.all charOk && decide (v.s.size ≤ 6) && decide (v.n = 0)
  else false

theorem str_toList (s : ByteArray) : s.toList = s.data.toList := ByteArray.toList_eq s
theorem str_isEmpty (s : ByteArray) : s.toList.isEmpty = decide (s.size = 0) := by
  rw [str_toList]
  obtain ⟨⟨l⟩⟩ := s
  cases l <;> simp [ByteArray.size]
theorem get_data (s : ByteArray) (k : Nat) (h : k < s.size) : s.data.toList[k]? = some s[k] := by
  have h' : k < s.data.toList.length := by simpa using h
  rw [List.getElem?_eq_getElem h']
  rfl
theorem valOk_int {n : Int} {s : ByteArray} : valOk ⟨1, n, s⟩ = (inB n (-1000000000) 1000000000 && decide (s.size = 0)) := rfl
theorem valOk_text {n : Int} {s : ByteArray} : valOk ⟨2, n, s⟩ = (s.data.toList.all charOk && decide (s.size ≤ 6) && decide (n = 0)) := rfl
theorem valOk_other {ty n : Int} {s : ByteArray} (h1 : ty ≠ 1) (h2 : ty ≠ 2) : valOk ⟨ty, n, s⟩ = false := by simp [valOk, h1, h2]
theorem valOk_bad {n : Int} {s : ByteArray} {k : Nat} {x : UInt8} (hx : s.data.toList[k]? = some x) (h : charOk x = false) : false = valOk ⟨2, n, s⟩ := by
  rw [valOk_text, all_false hx h]; rfl

set_option maxHeartbeats 800000 in
theorem impl_ValOk (w : World) (v : V) (hv : v.ok) :
    Calls Tryz.prog 40 #[v.val] w fun e w' => e = .returned (.bool (valOk v)) ∧ Below w.heap.size w w' := by
  obtain ⟨ty, n, s⟩ := v
  obtain ⟨_, _, hs⟩ := hv
  unfold maxLen at hs
  dsimp only at hs
  show Calls Tryz.prog 40 #[.agg #[.int .i64 ty, .int .i64 n, .string s]] w _
  by_cases h1 : ty = 1
  · subst h1
    by_cases hn : -1000000000 ≤ n ∧ n ≤ 1000000000
    · have hB := inB_true hn
      clear hn
      go_enter Tryz.func40, Tryz.ntmps40
      go_wp2_with (go_at_call 58; refine (isNum_any _ _).mono ?_; rintro e w' ⟨rfl, rfl⟩)
      go_ret
      exact ⟨ret_bool (by rw [valOk_int, hB, str_isEmpty]; rfl), Below.alloc0 (Below.refl _ _) _⟩
    · have hB := inB_false hn
      clear hn
      go_enter Tryz.func40, Tryz.ntmps40
      go_wp2_with (go_at_call 58; refine (isNum_any _ _).mono ?_; rintro e w' ⟨rfl, rfl⟩)
      go_ret
      exact ⟨ret_bool (by rw [valOk_int, hB]; rfl), Below.alloc0 (Below.refl _ _) _⟩
  by_cases h2 : ty = 2
  · subst h2
    go_enter Tryz.func40, Tryz.ntmps40
    go_wp2
    go_loopw [3] (fun i wr => ∃ k : Nat, k ≤ s.size ∧ i = .int .i64 k ∧ AllTo charOk s.data.toList k ∧ Below (w.heap.size + 1) (w.alloc (.cells #[.int .i64 2, .int .i64 n, .string s] 49)) wr) (fun i _ => s.size - (intOf i).toNat)
    case atStart => exact ⟨0, Nat.zero_le _, rfl, AllTo.zero _ _, Below.refl _ _⟩
    case round =>
      obtain ⟨k, hk, rfl, hall, hbl⟩ := hrel
      have c1 : wr.cell? ⟨w.heap.size, 1, none⟩ = some (.int .i64 n) := (hbl.cell (p := ⟨w.heap.size, 1, none⟩) (by simp)).trans (by simp [go_sem])
      have c2 : wr.cell? ⟨w.heap.size, 2, none⟩ = some (.string s) := (hbl.cell (p := ⟨w.heap.size, 2, none⟩) (by simp)).trans (by simp [go_sem])
      have hb0 : Below w.heap.size w wr := (Below.alloc0 (Below.refl _ _) _).trans (hbl.mono (by omega))
      by_cases hlt : k < s.size
      · have hx := Lib.hid (get_data s k hlt)
        have hcok := Lib.hid (show charOk s[k] = decide (97 ≤ s[k].toNat ∧ s[k].toNat ≤ 122 ∨ 48 ≤ s[k].toNat ∧ s[k].toNat ≤ 57) from rfl)
        rcases Nat.lt_or_ge s[k].toNat 48 with q1 | q1
        · go_wp2
          go_ret
          exact ⟨ret_bool (valOk_bad hx.out (by rw [hcok.out]; simp; omega)), hb0⟩
        rcases Nat.lt_or_ge 57 s[k].toNat with q2 | q2
        · have d57 : decide ((s[k].toNat : Int) ≤ 57) = false := by simp; omega
          rcases Nat.lt_or_ge s[k].toNat 97 with q3 | q3
          · go_wp2
            go_ret
            exact ⟨ret_bool (valOk_bad hx.out (by rw [hcok.out]; simp; omega)), hb0⟩
          rcases Nat.lt_or_ge 122 s[k].toNat with q4 | q4
          · have d122 : decide ((s[k].toNat : Int) ≤ 122) = false := by simp; omega
            go_wp2
            go_ret
            exact ⟨ret_bool (valOk_bad hx.out (by rw [hcok.out]; simp; omega)), hb0⟩
          · have d122 : decide ((s[k].toNat : Int) ≤ 122) = true := by simp; omega
            go_wp2
            go_roundw
            case rel => exact ⟨k + 1, by omega, by go_num, hall.succ hx.out (by rw [hcok.out]; simp; omega), hbl⟩
            case measure => simp [intOf]; omega
        · have d57 : decide ((s[k].toNat : Int) ≤ 57) = true := by simp; omega
          go_wp2
          go_roundw
          case rel => exact ⟨k + 1, by omega, by go_num, hall.succ hx.out (by rw [hcok.out]; simp; omega), hbl⟩
          case measure => simp [intOf]; omega
      · have hkn : k = s.data.toList.length := by simp at *; omega
        subst hkn
        have hta := Lib.hid hall.all
        clear hall
        by_cases h6 : s.size ≤ 6
        · go_wp2
          go_ret
          exact ⟨ret_bool (by rw [valOk_text, hta.out]; by_cases hn0 : n = 0 <;> simp [hn0, h6]), hb0⟩
        · go_wp2
          go_ret
          exact ⟨ret_bool (by rw [valOk_text, hta.out]; simp [h6]), hb0⟩
  · have e1 : (ty == 1) = false := by simpa using h1
    have e2 : (ty == 2) = false := by simpa using h2
    go_enter Tryz.func40, Tryz.ntmps40
    go_wp2
    go_ret
    exact ⟨ret_bool (valOk_other h1 h2).symm, Below.alloc0 (Below.refl _ _) _⟩

theorem valOk_end {ty n : Int} {s : ByteArray} {k : Nat} (h1 : ty ≠ 1) (hall : AllTo charOk s.data.toList k) (hk : k = s.size ∨ 6 < s.size) :
    (decide (ty = 2) && decide (n = 0) && decide (s.size ≤ 6)) = valOk ⟨ty, n, s⟩ := by
  by_cases h2 : ty = 2
  · subst h2
    rw [valOk_text]
    rcases hk with hk | hk
    · have hk' : k = s.data.toList.length := by simp; exact hk
      subst hk'
      rw [hall.all]
      by_cases hn : n = 0 <;> by_cases h6 : s.size ≤ 6 <;> simp [hn, h6]
    · have h6 : ¬ s.size ≤ 6 := by omega
      simp [h6]
  · rw [valOk_other h1 h2]
    simp [h2]
theorem valOk_bad' {ty n : Int} {s : ByteArray} {k : Nat} {x : UInt8} (h1 : ty ≠ 1) (hx : s.data.toList[k]? = some x) (h : charOk x = false) : false = valOk ⟨ty, n, s⟩ := by
  by_cases h2 : ty = 2
  · subst h2; exact valOk_bad hx h
  · exact (valOk_other h1 h2).symm

set_option maxHeartbeats 1000000 in
theorem spec_ValOk (w : World) (v : V) (hv : v.ok) :
    Calls Tryz.prog 41 #[v.val] w fun e w' => e = .returned (.bool (valOk v)) ∧ Below w.heap.size w w' := by
  obtain ⟨ty, n, s⟩ := v
  obtain ⟨_, _, hs⟩ := hv
  unfold maxLen at hs
  dsimp only at hs
  show Calls Tryz.prog 41 #[.agg #[.int .i64 ty, .int .i64 n, .string s]] w _
  by_cases h1 : ty = 1
  · subst h1
    by_cases hn : -1000000000 ≤ n ∧ n ≤ 1000000000
    · have hB := inB_true hn
      clear hn
      go_enter Tryz.func41, Tryz.ntmps41
      go_wp2_with (go_at_call 59; refine (l1Right_any _ _).mono ?_; rintro e w' ⟨rfl, rfl⟩)
      go_ret
      exact ⟨ret_bool (by rw [valOk_int, hB, str_isEmpty]; rfl), Below.alloc0 (Below.refl _ _) _⟩
    · have hB := inB_false hn
      clear hn
      go_enter Tryz.func41, Tryz.ntmps41
      go_wp2_with (go_at_call 59; refine (l1Right_any _ _).mono ?_; rintro e w' ⟨rfl, rfl⟩)
      go_ret
      exact ⟨ret_bool (by rw [valOk_int, hB]; rfl), Below.alloc0 (Below.refl _ _) _⟩
  · have H1 := Lib.hid h1
    have e1 : (ty == 1) = false := by simpa using h1
    clear h1
    go_enter Tryz.func41, Tryz.ntmps41
    go_wp2
    go_loopw [3] (fun i wr => ∃ k : Nat, k ≤ s.size ∧ k ≤ 7 ∧ i = .int .i64 k ∧ AllTo charOk s.data.toList k ∧ Below (w.heap.size + 1) (w.alloc (.cells #[.int .i64 ty, .int .i64 n, .string s] 49)) wr) (fun i _ => s.size - (intOf i).toNat)
    case atStart => exact ⟨0, Nat.zero_le _, by omega, rfl, AllTo.zero _ _, Below.refl _ _⟩
    case round =>
      obtain ⟨k, hk, hk7, rfl, hall, hbl⟩ := hrel
      have c0 : wr.cell? ⟨w.heap.size, 0, none⟩ = some (.int .i64 ty) := (hbl.cell (p := ⟨w.heap.size, 0, none⟩) (by simp)).trans (by simp [go_sem])
      have c1 : wr.cell? ⟨w.heap.size, 1, none⟩ = some (.int .i64 n) := (hbl.cell (p := ⟨w.heap.size, 1, none⟩) (by simp)).trans (by simp [go_sem])
      have c2 : wr.cell? ⟨w.heap.size, 2, none⟩ = some (.string s) := (hbl.cell (p := ⟨w.heap.size, 2, none⟩) (by simp)).trans (by simp [go_sem])
      have hb0 : Below w.heap.size w wr := (Below.alloc0 (Below.refl _ _) _).trans (hbl.mono (by omega))
      by_cases hlt : k < s.size
      · by_cases hk6 : k ≤ 6
        · have hx := Lib.hid (get_data s k hlt)
          have hcok := Lib.hid (show charOk s[k] = decide (97 ≤ s[k].toNat ∧ s[k].toNat ≤ 122 ∨ 48 ≤ s[k].toNat ∧ s[k].toNat ≤ 57) from rfl)
          have hw : wrap64 (s[k].toNat : Int) = (s[k].toNat : Int) := wrap_nat _ (by have := byte_lt s[k]; omega)
          by_cases q : 97 ≤ s[k].toNat ∧ s[k].toNat ≤ 122
          · have hB1 : inB (s[k].toNat : Int) 97 122 = true := inB_true (by omega)
            have hco := Lib.hid (show charOk s[k] = true by rw [hcok.out]; simp; omega)
            clear q
            go_wp2_with (go_at_call 43; refine (l1In_any _ _ _ _).mono ?_; rintro e w' ⟨rfl, rfl⟩)
            go_roundw
            case rel => exact ⟨k + 1, by omega, by omega, by go_num, hall.succ hx.out hco.out, hbl⟩
            case measure => simp [intOf]; omega
          · have hB1 : inB (s[k].toNat : Int) 97 122 = false := inB_false (by omega)
            by_cases q2 : 48 ≤ s[k].toNat ∧ s[k].toNat ≤ 57
            · have hB2 : inB (s[k].toNat : Int) 48 57 = true := inB_true (by omega)
              have hco := Lib.hid (show charOk s[k] = true by rw [hcok.out]; simp; omega)
              clear q q2
              go_wp2_with (go_at_call 43; refine (l1In_any _ _ _ _).mono ?_; rintro e w' ⟨rfl, rfl⟩)
              go_roundw
              case rel => exact ⟨k + 1, by omega, by omega, by go_num, hall.succ hx.out hco.out, hbl⟩
              case measure => simp [intOf]; omega
            · have hB2 : inB (s[k].toNat : Int) 48 57 = false := inB_false (by omega)
              have hco := Lib.hid (show charOk s[k] = false by rw [hcok.out]; simp; omega)
              clear q q2
              go_wp2_with (go_at_call 43; refine (l1In_any _ _ _ _).mono ?_; rintro e w' ⟨rfl, rfl⟩)
              go_ret
              exact ⟨ret_bool (valOk_bad' H1.out hx.out hco.out), hb0⟩
        · have hend := Lib.hid (valOk_end (n := n) H1.out hall (.inr (by omega)))
          have h6 : ¬ s.size ≤ 6 := by omega
          have hk7' : k = 7 := by omega
          subst hk7'
          by_cases h2 : ty = 2 <;> by_cases h0 : n = 0
          all_goals
            go_wp2
            go_ret
            exact ⟨ret_bool (by rw [← hend.out]; first | (simp [h2, h0, h6]; done) | (rw [Bool.eq_iff_iff]; simp [h2, h0]; omega) | (rw [Bool.eq_iff_iff]; simp; omega)), hb0⟩
      · have hkn : k = s.size := by omega
        have hend := Lib.hid (valOk_end (n := n) H1.out hall (.inl hkn))
        subst hkn
        by_cases h2 : ty = 2 <;> by_cases h0 : n = 0 <;> by_cases h6 : s.size ≤ 6
        all_goals
          go_wp2
          go_ret
          exact ⟨ret_bool (by rw [← hend.out]; first | (simp [h2, h0, h6]; done) | (rw [Bool.eq_iff_iff]; simp [h2, h0]; omega) | (rw [Bool.eq_iff_iff]; simp; omega)), hb0⟩

end Go.Proofs.YtgpimlmolcjeoaaGreatDoor
