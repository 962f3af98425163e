/-
  Contracts of ValText, in the program and in the reference.
-/
import Derived.Test.YtgpimlmolcjeoaaGreatDoorNtext
import Derived.Test.YtgpimlmolcjeoaaGreatDoorPnum
import Derived.Test.YtgpimlmolcjeoaaGreatDoorValOk
namespace Go.Proofs.YtgpimlmolcjeoaaGreatDoor
open Go.RowKit
set_option linter.unusedVariables false
set_option maxRecDepth 100000

def valText (v : V) : ByteArray := if valOk v then (if v.ty = 1 then numText v.n else ⟨#[39]⟩ ++ v.s) else ⟨#[]⟩
theorem vok_int {n : Int} {s : ByteArray} (h : valOk ⟨1, n, s⟩ = true) : IsN n ∧ s = ⟨#[]⟩ := by
  rw [valOk_int] at h
  simp only [Bool.and_eq_true, decide_eq_true_eq] at h
  refine ⟨inB_iff.1 h.1, ?_⟩
  obtain ⟨⟨l⟩⟩ := s
  cases l with
  | nil => rfl
  | cons a l => simp [ByteArray.size] at h
theorem vok_text {ty n : Int} {s : ByteArray} (h : valOk ⟨ty, n, s⟩ = true) (h1 : ty ≠ 1) : ty = 2 ∧ n = 0 ∧ s.size ≤ 6 := by
  unfold valOk at h
  dsimp only at h
  rw [if_neg h1] at h
  by_cases h2 : ty = 2
  · rw [if_pos h2] at h
    simp only [Bool.and_eq_true, decide_eq_true_eq] at h
    exact ⟨h2, h.2, h.1.2⟩
  · rw [if_neg h2] at h
    cases h
theorem valText_bad {v : V} (h : valOk v = false) : (⟨#[]⟩ : ByteArray) = valText v := by unfold valText; rw [h]; rfl
theorem valText_int {n : Int} {s : ByteArray} (h : valOk ⟨1, n, s⟩ = true) : numText n = valText ⟨1, n, s⟩ := by unfold valText; rw [h]; rfl
theorem valText_text {ty n : Int} {s : ByteArray} (h : valOk ⟨ty, n, s⟩ = true) (h1 : ty ≠ 1) : (⟨#[39]⟩ : ByteArray) ++ s = valText ⟨ty, n, s⟩ := by
  unfold valText
  rw [h]
  simp only [if_true]
  rw [if_neg h1]
theorem valText_size {v : V} (hv : v.ok) : (valText v).size ≤ 21 := by
  obtain ⟨ty, n, s⟩ := v
  unfold valText
  cases h : valOk ⟨ty, n, s⟩
  · simp [ByteArray.size]
  · simp only [if_true]
    by_cases h1 : ty = 1
    · rw [if_pos h1]
      have := Lib.itoa_length_le n hv.2.1.1 hv.2.1.2
      simpa [numText, ByteArray.size] using this
    · rw [if_neg h1]
      have := (vok_text h h1).2.2
      rw [ByteArray.size_append]
      have e : (⟨#[39]⟩ : ByteArray).size = 1 := rfl
      omega

set_option maxHeartbeats 800000 in
theorem impl_ValText (w : World) (v : V) (hv : v.ok) (hT : Tab w) :
    Calls Tryz.prog 46 #[.agg #[.int .i64 v.ty, .int .i64 v.n, .string v.s]] w fun e w' => e = .returned (.string (valText v)) ∧ Below w.heap.size w w' := by
  obtain ⟨ty, n, s⟩ := v
  dsimp only
  obtain ⟨W, hW⟩ : ∃ W, W = w.alloc (.cells #[.int .i64 ty, .int .i64 n, .string s] 49) := ⟨_, rfl⟩
  have f0 : W.cell? ⟨w.heap.size, 0, none⟩ = some (.int .i64 ty) := by rw [hW]; simp [go_sem]
  have f1 : W.cell? ⟨w.heap.size, 1, none⟩ = some (.int .i64 n) := by rw [hW]; simp [go_sem]
  have f2 : W.cell? ⟨w.heap.size, 2, none⟩ = some (.string s) := by rw [hW]; simp [go_sem]
  have hb1 : Below w.heap.size w W := by rw [hW]; exact Below.alloc0 (Below.refl _ _) _
  have hT1 : Tab W := hT.below hb1
  clear hT
  have HV := Lib.hid hv
  go_enter Tryz.func46, Tryz.ntmps46
  go_wp2_with fail
  rw [← hW]
  clear hW
  refine (impl_ValOk _ ⟨ty, n, s⟩ hv).mono ?_
  rintro e w2 ⟨rfl, hb2⟩
  replace f0 := cell_keep hb2 f0
  replace f1 := cell_keep hb2 f1
  replace f2 := cell_keep hb2 f2
  have hT2 := hT1.below hb2
  clear hT1
  replace hb1 := hb1.trans (hb2.mono hb1.size)
  clear hb2 hv
  cases hvo : valOk ⟨ty, n, s⟩
  · have ho := Lib.hid (valText_bad hvo)
    clear hvo
    go_wp2
    go_ret
    exact ⟨ret_val (congrArg Value.string ho.out), hb1⟩
  by_cases ht : ty = 1
  · subst ht
    have ho := Lib.hid (valText_int hvo)
    clear hvo
    go_wp2_with fail
    refine (impl_NumText _ n HV.out.2.1 hT2).mono ?_
    rintro e w3 ⟨rfl, hb3⟩
    have hb4 := hb1.trans (hb3.mono hb1.size)
    clear hb3 hT2
    go_wp2
    go_ret
    exact ⟨ret_val (congrArg Value.string ho.out), hb4⟩
  · have ho := Lib.hid (valText_text hvo ht)
    have h6 := (vok_text hvo ht).2.2
    have htb : (ty == 1) = false := by simp [ht]
    clear hvo ht
    go_wp2
    go_ret
    exact ⟨ret_val (congrArg Value.string ho.out), hb1⟩
set_option maxHeartbeats 800000 in
theorem spec_ValText (w : World) (v : V) (hv : v.ok) :
    Calls Tryz.prog 34 #[.agg #[.int .i64 v.ty, .int .i64 v.n, .string v.s]] w fun e w' => e = .returned (.string (valText v)) ∧ Below w.heap.size w w' := by
  obtain ⟨ty, n, s⟩ := v
  dsimp only
  obtain ⟨W, hW⟩ : ∃ W, W = w.alloc (.cells #[.int .i64 ty, .int .i64 n, .string s] 49) := ⟨_, rfl⟩
  have f0 : W.cell? ⟨w.heap.size, 0, none⟩ = some (.int .i64 ty) := by rw [hW]; simp [go_sem]
  have f1 : W.cell? ⟨w.heap.size, 1, none⟩ = some (.int .i64 n) := by rw [hW]; simp [go_sem]
  have f2 : W.cell? ⟨w.heap.size, 2, none⟩ = some (.string s) := by rw [hW]; simp [go_sem]
  have hb1 : Below w.heap.size w W := by rw [hW]; exact Below.alloc0 (Below.refl _ _) _
  have HV := Lib.hid hv
  go_enter Tryz.func34, Tryz.ntmps34
  go_wp2_with fail
  rw [← hW]
  clear hW
  refine (spec_ValOk _ ⟨ty, n, s⟩ hv).mono ?_
  rintro e w2 ⟨rfl, hb2⟩
  replace f0 := cell_keep hb2 f0
  replace f1 := cell_keep hb2 f1
  replace f2 := cell_keep hb2 f2
  replace hb1 := hb1.trans (hb2.mono hb1.size)
  clear hb2 hv
  cases hvo : valOk ⟨ty, n, s⟩
  · have ho := Lib.hid (valText_bad hvo)
    clear hvo
    go_wp2
    go_ret
    exact ⟨ret_val (congrArg Value.string ho.out), hb1⟩
  by_cases ht : ty = 1
  · subst ht
    have ho := Lib.hid (valText_int hvo)
    clear hvo
    go_wp2_with fail
    refine (spec_NumText _ n HV.out.2.1).mono ?_
    rintro e w3 ⟨rfl, hb3⟩
    have hb4 := hb1.trans (hb3.mono hb1.size)
    clear hb3
    go_wp2
    go_ret
    exact ⟨ret_val (congrArg Value.string ho.out), hb4⟩
  · have ho := Lib.hid (valText_text hvo ht)
    have h6 := (vok_text hvo ht).2.2
    have htb : (ty == 1) = false := by simp [ht]
    clear hvo ht
    go_wp2
    go_ret
    exact ⟨ret_val (congrArg Value.string ho.out), hb1⟩
end Go.Proofs.YtgpimlmolcjeoaaGreatDoor
