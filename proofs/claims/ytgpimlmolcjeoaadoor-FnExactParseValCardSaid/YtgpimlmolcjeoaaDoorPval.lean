/-
  Contracts of ParseVal, in the program and in the reference.
-/
import Derived.Test.YtgpimlmolcjeoaaDoorVtext
import Derived.Test.YtgpimlmolcjeoaaDoorVdraw
namespace Go.Proofs.YtgpimlmolcjeoaaDoor
open Go.RowKit
open Go.Lib (itoa)
set_option linter.unusedVariables false
set_option maxRecDepth 100000

def pvText (s : ByteArray) : V := ⟨2, 0, s.extract 1 s.size⟩
def pvInt (n : Int) : V := ⟨1, n, ⟨#[]⟩⟩
def pvOf (s : ByteArray) : Option V :=
  if s.data.toList.head? = some 39 then (if valOk (pvText s) then some (pvText s) else none)
  else (pnOf s.data.toList).map pvInt
def pvV (s : ByteArray) : V := (pvOf s).getD V0
def pvB (s : ByteArray) : Bool := (pvOf s).isSome
def pvT (s : ByteArray) : Value := .tuple #[.agg #[.int .i64 (pvV s).ty, .int .i64 (pvV s).n, .string (pvV s).s], .bool (pvB s)]
theorem pvT_none {s : ByteArray} (h : pvOf s = none) : Value.tuple #[.agg #[.int .i64 0, .int .i64 0, .string ⟨#[]⟩], .bool false] = pvT s := by simp [pvT, pvV, pvB, h, V0]
theorem pvT_some {s : ByteArray} {v : V} (h : pvOf s = some v) : Value.tuple #[.agg #[.int .i64 v.ty, .int .i64 v.n, .string v.s], .bool true] = pvT s := by simp [pvT, pvV, pvB, h]
theorem pv_text {s : ByteArray} (h : 0 < s.size) (h39 : s[0].toNat = 39) : s.data.toList.head? = some 39 := by
  rw [head_get s h]
  exact congrArg some (UInt8.toNat_inj.1 h39)
theorem pv_int {s : ByteArray} (h : ¬ (∃ h : 0 < s.size, s[0].toNat = 39)) : s.data.toList.head? ≠ some 39 := by
  intro e
  by_cases h0 : 0 < s.size
  · rw [head_get s h0] at e
    exact h ⟨h0, congrArg UInt8.toNat (Option.some.inj e)⟩
  · have : s.data.toList = [] := List.length_eq_zero_iff.1 (by rw [pn_len]; omega)
    rw [this] at e
    cases e
theorem box_two (w : World) (v : V) (W : World) (hW : W = (w.alloc (.cells #[.int .i64 0, .int .i64 0, .string ⟨#[]⟩] 28)).alloc (.cells #[.int .i64 v.ty, .int .i64 v.n, .string v.s] 28)) : Box W (w.heap.size + 1) v := by
  have h := Box.new (w.alloc (.cells #[.int .i64 0, .int .i64 0, .string ⟨#[]⟩] 28)) v
  have e : (w.alloc (.cells #[.int .i64 0, .int .i64 0, .string ⟨#[]⟩] 28)).heap.size = w.heap.size + 1 := by simp
  rw [e] at h
  rw [hW]
  exact h
theorem pvText_ok {s : ByteArray} (hs : s.size ≤ 281474976710656) : (pvText s).ok := by
  refine ⟨⟨by simp [pvText], by simp [pvText]⟩, ⟨by simp [pvText], by simp [pvText]⟩, ?_⟩
  simp only [pvText, ByteArray.size_extract]
  unfold maxLen
  omega
theorem pvInt_ok {n : Int} (h : IsN n) : (pvInt n).ok := by
  unfold IsN at h
  refine ⟨⟨by simp [pvInt], by simp [pvInt]⟩, ⟨by simp only [pvInt]; omega, by simp only [pvInt]; omega⟩, ?_⟩
  simp [pvInt, ByteArray.size]
theorem pvInt_vok {n : Int} (h : IsN n) : valOk (pvInt n) = true := by
  unfold pvInt
  rw [valOk_int, inB_true h]
  rfl
theorem pvV_ok {s : ByteArray} (hs : s.size ≤ 281474976710656) : (pvV s).ok := by
  unfold pvV pvOf
  by_cases h : s.data.toList.head? = some 39
  · rw [if_pos h]
    cases hv : valOk (pvText s)
    · exact ⟨⟨by simp [V0], by simp [V0]⟩, ⟨by simp [V0], by simp [V0]⟩, by simp [V0, ByteArray.size]⟩
    · exact pvText_ok hs
  · rw [if_neg h]
    cases hp : pnOf s.data.toList with
    | none => exact ⟨⟨by simp [V0], by simp [V0]⟩, ⟨by simp [V0], by simp [V0]⟩, by simp [V0, ByteArray.size]⟩
    | some n => exact pvInt_ok (pnOf_some.1 hp).1
theorem text_back {s : ByteArray} (h : s.data.toList.head? = some 39) : (⟨#[39]⟩ : ByteArray) ++ s.extract 1 s.size = s := by
  apply ByteArray.ext
  apply Array.toList_inj.1
  rw [ByteArray.data_append, Array.toList_append, ByteArray.data_extract, Array.toList_extract]
  cases hl : s.data.toList with
  | nil => rw [hl] at h; cases h
  | cons a l =>
    rw [hl] at h
    have ha : a = 39 := Option.some.inj h
    subst ha
    have : s.size = l.length + 1 := by rw [← pn_len, hl]; rfl
    simp [List.extract, this]
theorem pv_textT {s : ByteArray} (h : s.data.toList.head? = some 39) (hv : valOk (pvText s) = true) : pvOf s = some (pvText s) ∧ valText (pvText s) = s := by
  constructor
  · unfold pvOf; rw [if_pos h, hv]; rfl
  · unfold valText; rw [hv]; exact text_back h
theorem pv_textF {s : ByteArray} (h : s.data.toList.head? = some 39) (hv : valOk (pvText s) = false) : pvOf s = none ∧ valText (pvText s) ≠ s := by
  constructor
  · unfold pvOf; rw [if_pos h, hv]; rfl
  · unfold valText
    rw [hv]
    intro e
    rw [← e] at h
    cases h
theorem pv_intT {s : ByteArray} {n : Int} (h : s.data.toList.head? ≠ some 39) (hp : pnOf s.data.toList = some n) : pvOf s = some (pvInt n) ∧ valText (pvInt n) = s := by
  obtain ⟨h1, h2⟩ := pnOf_some.1 hp
  constructor
  · unfold pvOf; rw [if_neg h, hp]; rfl
  · unfold valText; rw [pvInt_vok h1]; exact numText_eq.2 h2
theorem pv_intF {s : ByteArray} (h : s.data.toList.head? ≠ some 39) (hp : pnOf s.data.toList = none) : pvOf s = none ∧ valText (pvInt 0) ≠ s := by
  constructor
  · unfold pvOf; rw [if_neg h, hp]; rfl
  · have h0 : IsN 0 := by unfold IsN; omega
    unfold valText
    rw [pvInt_vok h0]
    intro e
    have := pnOf_some.2 ⟨h0, numText_eq.1 e⟩
    rw [hp] at this
    cases this
theorem itoa_head (n : Int) : (itoa n).head? ≠ some 39 := by
  unfold Go.Lib.itoa
  by_cases h : n < 0
  · rw [if_pos h]; intro e; cases e
  · rw [if_neg h]
    obtain ⟨d, r, e, hd⟩ := decDigits_head n.toNat
    rw [e]
    intro e2
    exact ofNat_ne (k := 39) hd (by omega) (Option.some.inj e2)
theorem text_front (s : ByteArray) : ((⟨#[39]⟩ : ByteArray) ++ s).data.toList.head? = some 39 ∧ ((⟨#[39]⟩ : ByteArray) ++ s).extract 1 ((⟨#[39]⟩ : ByteArray) ++ s).size = s := by
  have hd : ((⟨#[39]⟩ : ByteArray) ++ s).data.toList = 39 :: s.data.toList := by simp
  have hsz : ((⟨#[39]⟩ : ByteArray) ++ s).size = s.size + 1 := by rw [← pn_len, hd, List.length_cons, pn_len]
  refine ⟨by rw [hd]; rfl, ?_⟩
  apply ByteArray.ext
  apply Array.toList_inj.1
  rw [ByteArray.data_extract, Array.toList_extract, hd, hsz]
  simp only [List.extract, List.drop_succ_cons, List.drop_zero, Nat.add_sub_cancel]
  exact List.take_of_length_le (by rw [pn_len]; exact Nat.le_refl _)
theorem pv_back {v : V} (h : valOk v = true) : pvOf (valText v) = some v := by
  obtain ⟨ty, n, s⟩ := v
  by_cases h1 : ty = 1
  · subst h1
    obtain ⟨hN, rfl⟩ := vok_int h
    rw [← valText_int h]
    unfold pvOf
    rw [numText_list, if_neg (itoa_head n), pnOf_itoa hN]
    rfl
  · obtain ⟨rfl, rfl, _⟩ := vok_text h h1
    rw [← valText_text h h1]
    obtain ⟨e1, e2⟩ := text_front s
    unfold pvOf pvText
    rw [if_pos e1, e2, h]
    rfl
theorem pv_back_bad {v : V} (h : valOk v = false) : pvOf (valText v) = none := by
  rw [← valText_bad h]
  unfold pvOf
  rw [if_neg (by intro e; cases e), pnOf_long (by decide)]
  rfl
theorem pv_text_of {s : ByteArray} {y : V} (h : pvOf s = some y) : valText y = s := by
  by_cases hh : s.data.toList.head? = some 39
  · cases hv : valOk (pvText s)
    · rw [(pv_textF hh hv).1] at h; cases h
    · obtain ⟨e1, e2⟩ := pv_textT hh hv
      rw [e1] at h
      rw [← Option.some.inj h]
      exact e2
  · cases hp : pnOf s.data.toList with
    | none => rw [(pv_intF hh hp).1] at h; cases h
    | some n =>
      obtain ⟨e1, e2⟩ := pv_intT hh hp
      rw [e1] at h
      rw [← Option.some.inj h]
      exact e2

set_option maxHeartbeats 1600000 in
theorem impl_ParseVal_text (w : World) (s : ByteArray) (hs : s.size ≤ 281474976710656) (h1 : 0 < s.size) (h39 : s[0].toNat = 39) :
    Calls Tryd.prog 27 #[.string s] w fun e w' => e = .returned (pvT s) ∧ Below w.heap.size w w' := by
  have hh := Lib.hid (pv_text h1 h39)
  have h39b : ((s[0].toNat : Int) == 39) = true := by rw [h39]; rfl
  have hne : s.toList.isEmpty = false := by rw [str_isEmpty]; exact decide_eq_false (by omega)
  have hvk := pvText_ok hs
  obtain ⟨W, hW⟩ : ∃ W, W = (w.alloc (.cells #[.int .i64 0, .int .i64 0, .string ⟨#[]⟩] 28)).alloc (.cells #[.int .i64 2, .int .i64 0, .string (s.extract 1 s.size)] 28) := ⟨_, rfl⟩
  have hb0 : Below w.heap.size w W := by rw [hW]; exact Below.alloc0 (Below.alloc0 (Below.refl _ _) _) _
  have hR : Box W w.heap.size V0 := by rw [hW]; exact (Box.zero w).below ((Below.refl _ _).alloc (Nat.le_refl _) _)
  have hV : Box W (w.heap.size + 1) (pvText s) := box_two w (pvText s) W hW
  clear h39
  go_enter Tryd.func27, Tryd.ntmps27
  go_wp2_with fail
  rw [← hW]
  clear hW
  refine (impl_ValOk _ (pvText s) hvk).mono ?_
  rintro e w2 ⟨rfl, hb2⟩
  have hb := hb0.trans (hb2.mono hb0.size)
  obtain ⟨q0, q1, q2, f0, f1, f2⟩ := (hR.below hb2).cells
  obtain ⟨p0, p1, p2, -, -, -⟩ := (hV.below hb2).cells
  clear hb0 hb2 hR hV
  cases hvo : valOk (pvText s)
  · have hp := Lib.hid (pvT_none (pv_textF hh.out hvo).1)
    obtain ⟨r0, r1, r2⟩ := three_set q0 q1 q2 (.int .i64 0) (.int .i64 0) (.string ⟨#[]⟩)
    have hb3 := below_three hb (Nat.le_refl w.heap.size) (.int .i64 0) (.int .i64 0) (.string ⟨#[]⟩)
    clear hvo hh
    go_wp2_with fail
    exact bodyPost_ret (v := .tuple #[.agg #[.int .i64 0, .int .i64 0, .string ⟨#[]⟩], .bool false]) (by simp [results, Tryd.results27, go_sem, r0, r1, r2]) rfl ⟨congrArg Ending.returned hp.out, hb3⟩
  · have hp := Lib.hid (pvT_some (pv_textT hh.out hvo).1)
    simp only [pvText] at p0 p1 p2
    obtain ⟨r0, r1, r2⟩ := three_set q0 q1 q2 (.int .i64 2) (.int .i64 0) (.string (s.extract 1 s.size))
    have hb3 := below_three hb (Nat.le_refl w.heap.size) (.int .i64 2) (.int .i64 0) (.string (s.extract 1 s.size))
    clear hvo hh
    go_wp2_with fail
    exact bodyPost_ret (v := .tuple #[.agg #[.int .i64 2, .int .i64 0, .string (s.extract 1 s.size)], .bool true]) (by simp [results, Tryd.results27, go_sem, r0, r1, r2]) rfl ⟨congrArg Ending.returned hp.out, hb3⟩
set_option maxHeartbeats 1600000 in
theorem impl_ParseVal_int (w : World) (s : ByteArray) (hs : s.size ≤ 281474976710656) (h1 : 0 < s.size) (h39 : s[0].toNat ≠ 39) (hT : Tab w) (hE : Errs w) :
    Calls Tryd.prog 27 #[.string s] w fun e w' => e = .returned (pvT s) ∧ Below w.heap.size w w' := by
  have hh := Lib.hid (pv_int (s := s) (fun ⟨_, h⟩ => h39 h))
  have h39b : ((s[0].toNat : Int) == 39) = false := by simp only [beq_eq_false_iff_ne]; omega
  have hne : s.toList.isEmpty = false := by rw [str_isEmpty]; exact decide_eq_false (by omega)
  clear h39
  obtain ⟨W, hW⟩ : ∃ W, W = (w.alloc (.cells #[.int .i64 0, .int .i64 0, .string ⟨#[]⟩] 28)).alloc (.cells #[.int .i64 1, .int .i64 0, .string ⟨#[]⟩] 28) := ⟨_, rfl⟩
  have hb0 : Below w.heap.size w W := by rw [hW]; exact Below.alloc0 (Below.alloc0 (Below.refl _ _) _) _
  have hR : Box W w.heap.size V0 := by rw [hW]; exact (Box.zero w).below ((Below.refl _ _).alloc (Nat.le_refl _) _)
  have hV : Box W (w.heap.size + 1) (pvInt 0) := box_two w (pvInt 0) W hW
  have hT0 := hT.below hb0
  have hE0 := hE.below hb0
  clear hT hE
  go_enter Tryd.func27, Tryd.ntmps27
  go_wp2_with fail
  rw [← hW]
  clear hW
  refine (impl_ParseNum W s hs hT0 hE0).mono ?_
  rintro e w2 ⟨rfl, hb2⟩
  have hb := hb0.trans (hb2.mono hb0.size)
  replace hR := hR.below hb2
  replace hV := hV.below hb2
  obtain ⟨q0, q1, q2, f0, f1, f2⟩ := hR.cells
  obtain ⟨p0, p1, p2, g0, g1, g2⟩ := hV.cells
  simp only [pvInt] at p0 p1 p2
  clear hb2 hb0
  cases hp : pnOf s.data.toList with
  | none =>
    have ho := Lib.hid (pvT_none (pv_intF hh.out hp).1)
    rw [show pnT s = .tuple #[.int .i64 0, .bool false] from (pnT_none hp).symm]
    obtain ⟨r0, r1, r2⟩ := three_set q0 q1 q2 (.int .i64 0) (.int .i64 0) (.string ⟨#[]⟩)
    have hb3 := below_three hb (Nat.le_refl w.heap.size) (.int .i64 0) (.int .i64 0) (.string ⟨#[]⟩)
    clear hp hh hR hV
    go_wp2_with fail
    exact bodyPost_ret (v := .tuple #[.agg #[.int .i64 0, .int .i64 0, .string ⟨#[]⟩], .bool false]) (by simp [results, Tryd.results27, go_sem, r0, r1, r2]) rfl ⟨congrArg Ending.returned ho.out, hb3⟩
  | some n =>
    have ho := Lib.hid (pvT_some (pv_intT hh.out hp).1)
    have hN := Lib.hid (pnOf_some.1 hp).1
    have hvo := pvInt_vok hN.out
    rw [show pnT s = .tuple #[.int .i64 n, .bool true] from (pnT_some hp).symm]
    have hV2 := hV.set1 n
    have hR2 := hR.grown (grown_set w2 (w.heap.size + 1) 1 (.int .i64 n)) (by omega)
    have hb2 := hb.setCell (p := ⟨w.heap.size + 1, 1, none⟩) (by simp) (.int .i64 n)
    clear hp hh hR hV hb
    go_wp2_with fail
    refine (impl_ValOk _ (pvInt n) (pvInt_ok hN.out)).mono ?_
    rintro e w3 ⟨rfl, hb3⟩
    have hb4 := hb2.trans (hb3.mono hb2.size)
    clear q0 q1 q2 f0 f1 f2 p0 p1 p2 g0 g1 g2
    obtain ⟨q0, q1, q2, f0, f1, f2⟩ := (hR2.below hb3).cells
    obtain ⟨p0, p1, p2, -, -, -⟩ := (hV2.below hb3).cells
    simp only [pvInt] at p0 p1 p2
    clear hR2 hV2 hb2 hb3
    rw [hvo]
    obtain ⟨r0, r1, r2⟩ := three_set q0 q1 q2 (.int .i64 1) (.int .i64 n) (.string ⟨#[]⟩)
    have hb5 := below_three hb4 (Nat.le_refl w.heap.size) (.int .i64 1) (.int .i64 n) (.string ⟨#[]⟩)
    go_wp2_with fail
    exact bodyPost_ret (v := .tuple #[.agg #[.int .i64 1, .int .i64 n, .string ⟨#[]⟩], .bool true]) (by simp [results, Tryd.results27, go_sem, r0, r1, r2]) rfl ⟨congrArg Ending.returned ho.out, hb5⟩
set_option maxHeartbeats 1600000 in
theorem impl_ParseVal_empty (w : World) (s : ByteArray) (hs : s.size ≤ 281474976710656) (h0 : s.size = 0) (hT : Tab w) (hE : Errs w) :
    Calls Tryd.prog 27 #[.string s] w fun e w' => e = .returned (pvT s) ∧ Below w.heap.size w w' := by
  have hh := Lib.hid (pv_int (s := s) (fun ⟨h, _⟩ => absurd h (by omega)))
  have hne : s.toList.isEmpty = true := by rw [str_isEmpty]; exact decide_eq_true h0
  have hp := pnOf_long (s := s.data.toList) (by rw [pn_len]; omega)
  obtain ⟨W, hW⟩ : ∃ W, W = (w.alloc (.cells #[.int .i64 0, .int .i64 0, .string ⟨#[]⟩] 28)).alloc (.cells #[.int .i64 1, .int .i64 0, .string ⟨#[]⟩] 28) := ⟨_, rfl⟩
  have hb0 : Below w.heap.size w W := by rw [hW]; exact Below.alloc0 (Below.alloc0 (Below.refl _ _) _) _
  have hR : Box W w.heap.size V0 := by rw [hW]; exact (Box.zero w).below ((Below.refl _ _).alloc (Nat.le_refl _) _)
  have hV : Box W (w.heap.size + 1) (pvInt 0) := box_two w (pvInt 0) W hW
  have hT0 := hT.below hb0
  have hE0 := hE.below hb0
  clear hT hE
  go_enter Tryd.func27, Tryd.ntmps27
  go_wp2_with fail
  rw [← hW]
  clear hW
  refine (impl_ParseNum W s hs hT0 hE0).mono ?_
  rintro e w2 ⟨rfl, hb2⟩
  have hb := hb0.trans (hb2.mono hb0.size)
  replace hR := hR.below hb2
  replace hV := hV.below hb2
  obtain ⟨q0, q1, q2, f0, f1, f2⟩ := hR.cells
  obtain ⟨p0, p1, p2, g0, g1, g2⟩ := hV.cells
  simp only [pvInt] at p0 p1 p2
  clear hb2 hb0
  have ho := Lib.hid (pvT_none (pv_intF hh.out hp).1)
  rw [show pnT s = .tuple #[.int .i64 0, .bool false] from (pnT_none hp).symm]
  obtain ⟨r0, r1, r2⟩ := three_set q0 q1 q2 (.int .i64 0) (.int .i64 0) (.string ⟨#[]⟩)
  have hb3 := below_three hb (Nat.le_refl w.heap.size) (.int .i64 0) (.int .i64 0) (.string ⟨#[]⟩)
  clear hp hh hR hV
  go_wp2_with fail
  exact bodyPost_ret (v := .tuple #[.agg #[.int .i64 0, .int .i64 0, .string ⟨#[]⟩], .bool false]) (by simp [results, Tryd.results27, go_sem, r0, r1, r2]) rfl ⟨congrArg Ending.returned ho.out, hb3⟩
theorem impl_ParseVal (w : World) (s : ByteArray) (hs : s.size ≤ 281474976710656) (hT : Tab w) (hE : Errs w) :
    Calls Tryd.prog 27 #[.string s] w fun e w' => e = .returned (pvT s) ∧ Below w.heap.size w w' := by
  by_cases h : ∃ h : 0 < s.size, s[0].toNat = 39
  · obtain ⟨h1, h39⟩ := h
    exact impl_ParseVal_text w s hs h1 h39
  · by_cases h0 : s.size = 0
    · exact impl_ParseVal_empty w s hs h0 hT hE
    · exact impl_ParseVal_int w s hs (by omega) (fun e => h ⟨by omega, e⟩) hT hE
set_option maxHeartbeats 1600000 in
theorem spec_ParseVal_text (w : World) (s : ByteArray) (hs : s.size ≤ 281474976710656) (h1 : 0 < s.size) (h39 : s[0].toNat = 39) :
    Calls Tryd.prog 26 #[.string s] w fun e w' => e = .returned (pvT s) ∧ Below w.heap.size w w' := by
  have hh := Lib.hid (pv_text h1 h39)
  have h39b : ((s[0].toNat : Int) == 39) = true := by rw [h39]; rfl
  have hne : s.toList.isEmpty = false := by rw [str_isEmpty]; exact decide_eq_false (by omega)
  have hvk := pvText_ok hs
  obtain ⟨W, hW⟩ : ∃ W, W = (w.alloc (.cells #[.int .i64 0, .int .i64 0, .string ⟨#[]⟩] 28)).alloc (.cells #[.int .i64 2, .int .i64 0, .string (s.extract 1 s.size)] 28) := ⟨_, rfl⟩
  have hb0 : Below w.heap.size w W := by rw [hW]; exact Below.alloc0 (Below.alloc0 (Below.refl _ _) _) _
  have hR : Box W w.heap.size V0 := by rw [hW]; exact (Box.zero w).below ((Below.refl _ _).alloc (Nat.le_refl _) _)
  have hV : Box W (w.heap.size + 1) (pvText s) := box_two w (pvText s) W hW
  clear h39
  go_enter Tryd.func26, Tryd.ntmps26
  go_wp2_with fail
  rw [← hW]
  clear hW
  refine (spec_ValText _ (pvText s) hvk).mono ?_
  rintro e w2 ⟨rfl, hb2⟩
  have hb := hb0.trans (hb2.mono hb0.size)
  obtain ⟨q0, q1, q2, f0, f1, f2⟩ := (hR.below hb2).cells
  obtain ⟨p0, p1, p2, -, -, -⟩ := (hV.below hb2).cells
  clear hb0 hb2 hR hV
  cases hvo : valOk (pvText s)
  · have hp := Lib.hid (pvT_none (pv_textF hh.out hvo).1)
    have et : ((valText (pvText s)).toList == s.toList) = false := beq_eq_false_iff_ne.2 (fun h => (pv_textF hh.out hvo).2 (str_ext h))
    obtain ⟨r0, r1, r2⟩ := three_set q0 q1 q2 (.int .i64 0) (.int .i64 0) (.string ⟨#[]⟩)
    have hb3 := below_three hb (Nat.le_refl w.heap.size) (.int .i64 0) (.int .i64 0) (.string ⟨#[]⟩)
    clear hvo hh
    go_wp2_with fail
    exact bodyPost_ret (v := .tuple #[.agg #[.int .i64 0, .int .i64 0, .string ⟨#[]⟩], .bool false]) (by simp [results, Tryd.results26, go_sem, r0, r1, r2]) rfl ⟨congrArg Ending.returned hp.out, hb3⟩
  · have hp := Lib.hid (pvT_some (pv_textT hh.out hvo).1)
    have et : ((valText (pvText s)).toList == s.toList) = true := by rw [(pv_textT hh.out hvo).2]; exact beq_self_eq_true _
    simp only [pvText] at p0 p1 p2
    obtain ⟨r0, r1, r2⟩ := three_set q0 q1 q2 (.int .i64 2) (.int .i64 0) (.string (s.extract 1 s.size))
    have hb3 := below_three hb (Nat.le_refl w.heap.size) (.int .i64 2) (.int .i64 0) (.string (s.extract 1 s.size))
    clear hvo hh
    go_wp2_with fail
    exact bodyPost_ret (v := .tuple #[.agg #[.int .i64 2, .int .i64 0, .string (s.extract 1 s.size)], .bool true]) (by simp [results, Tryd.results26, go_sem, r0, r1, r2]) rfl ⟨congrArg Ending.returned hp.out, hb3⟩
set_option maxHeartbeats 1600000 in
theorem spec_ParseVal_int (w : World) (s : ByteArray) (hs : s.size ≤ 281474976710656) (h1 : 0 < s.size) (h39 : s[0].toNat ≠ 39) :
    Calls Tryd.prog 26 #[.string s] w fun e w' => e = .returned (pvT s) ∧ Below w.heap.size w w' := by
  have hh := Lib.hid (pv_int (s := s) (fun ⟨_, h⟩ => h39 h))
  have h39b : ((s[0].toNat : Int) == 39) = false := by simp only [beq_eq_false_iff_ne]; omega
  have hne : s.toList.isEmpty = false := by rw [str_isEmpty]; exact decide_eq_false (by omega)
  clear h39
  obtain ⟨W, hW⟩ : ∃ W, W = (w.alloc (.cells #[.int .i64 0, .int .i64 0, .string ⟨#[]⟩] 28)).alloc (.cells #[.int .i64 1, .int .i64 0, .string ⟨#[]⟩] 28) := ⟨_, rfl⟩
  have hb0 : Below w.heap.size w W := by rw [hW]; exact Below.alloc0 (Below.alloc0 (Below.refl _ _) _) _
  have hR : Box W w.heap.size V0 := by rw [hW]; exact (Box.zero w).below ((Below.refl _ _).alloc (Nat.le_refl _) _)
  have hV : Box W (w.heap.size + 1) (pvInt 0) := box_two w (pvInt 0) W hW
  go_enter Tryd.func26, Tryd.ntmps26
  go_wp2_with fail
  rw [← hW]
  clear hW
  refine (spec_ParseNum W s hs).mono ?_
  rintro e w2 ⟨rfl, hb2⟩
  have hb := hb0.trans (hb2.mono hb0.size)
  replace hR := hR.below hb2
  replace hV := hV.below hb2
  obtain ⟨q0, q1, q2, f0, f1, f2⟩ := hR.cells
  obtain ⟨p0, p1, p2, g0, g1, g2⟩ := hV.cells
  simp only [pvInt] at p0 p1 p2
  clear hb2 hb0
  cases hp : pnOf s.data.toList with
  | none =>
    have ho := Lib.hid (pvT_none (pv_intF hh.out hp).1)
    have et : ((valText (pvInt 0)).toList == s.toList) = false := beq_eq_false_iff_ne.2 (fun h => (pv_intF hh.out hp).2 (str_ext h))
    rw [show pnT s = .tuple #[.int .i64 0, .bool false] from (pnT_none hp).symm]
    have hV2 := hV.set1 0
    have hR2 := hR.grown (grown_set w2 (w.heap.size + 1) 1 (.int .i64 0)) (by omega)
    have hb2 := hb.setCell (p := ⟨w.heap.size + 1, 1, none⟩) (by simp) (.int .i64 0)
    clear hp hh hR hV hb
    go_wp2_with fail
    refine (spec_ValText _ (pvInt 0) (pvInt_ok (by unfold IsN; omega))).mono ?_
    rintro e w3 ⟨rfl, hb3⟩
    have hb4 := hb2.trans (hb3.mono hb2.size)
    clear q0 q1 q2 f0 f1 f2 p0 p1 p2 g0 g1 g2
    obtain ⟨q0, q1, q2, f0, f1, f2⟩ := (hR2.below hb3).cells
    clear hR2 hV2 hb2 hb3
    obtain ⟨r0, r1, r2⟩ := three_set q0 q1 q2 (.int .i64 0) (.int .i64 0) (.string ⟨#[]⟩)
    have hb5 := below_three hb4 (Nat.le_refl w.heap.size) (.int .i64 0) (.int .i64 0) (.string ⟨#[]⟩)
    go_wp2_with fail
    exact bodyPost_ret (v := .tuple #[.agg #[.int .i64 0, .int .i64 0, .string ⟨#[]⟩], .bool false]) (by simp [results, Tryd.results26, go_sem, r0, r1, r2]) rfl ⟨congrArg Ending.returned ho.out, hb5⟩
  | some n =>
    have ho := Lib.hid (pvT_some (pv_intT hh.out hp).1)
    have hN := Lib.hid (pnOf_some.1 hp).1
    have et : ((valText (pvInt n)).toList == s.toList) = true := by rw [(pv_intT hh.out hp).2]; exact beq_self_eq_true _
    rw [show pnT s = .tuple #[.int .i64 n, .bool true] from (pnT_some hp).symm]
    have hV2 := hV.set1 n
    have hR2 := hR.grown (grown_set w2 (w.heap.size + 1) 1 (.int .i64 n)) (by omega)
    have hb2 := hb.setCell (p := ⟨w.heap.size + 1, 1, none⟩) (by simp) (.int .i64 n)
    clear hp hh hR hV hb
    go_wp2_with fail
    refine (spec_ValText _ (pvInt n) (pvInt_ok hN.out)).mono ?_
    rintro e w3 ⟨rfl, hb3⟩
    have hb4 := hb2.trans (hb3.mono hb2.size)
    clear q0 q1 q2 f0 f1 f2 p0 p1 p2 g0 g1 g2
    obtain ⟨q0, q1, q2, f0, f1, f2⟩ := (hR2.below hb3).cells
    obtain ⟨p0, p1, p2, -, -, -⟩ := (hV2.below hb3).cells
    simp only [pvInt] at p0 p1 p2
    clear hR2 hV2 hb2 hb3
    skip
    obtain ⟨r0, r1, r2⟩ := three_set q0 q1 q2 (.int .i64 1) (.int .i64 n) (.string ⟨#[]⟩)
    have hb5 := below_three hb4 (Nat.le_refl w.heap.size) (.int .i64 1) (.int .i64 n) (.string ⟨#[]⟩)
    go_wp2_with fail
    exact bodyPost_ret (v := .tuple #[.agg #[.int .i64 1, .int .i64 n, .string ⟨#[]⟩], .bool true]) (by simp [results, Tryd.results26, go_sem, r0, r1, r2]) rfl ⟨congrArg Ending.returned ho.out, hb5⟩
set_option maxHeartbeats 1600000 in
theorem spec_ParseVal_empty (w : World) (s : ByteArray) (hs : s.size ≤ 281474976710656) (h0 : s.size = 0) :
    Calls Tryd.prog 26 #[.string s] w fun e w' => e = .returned (pvT s) ∧ Below w.heap.size w w' := by
  have hh := Lib.hid (pv_int (s := s) (fun ⟨h, _⟩ => absurd h (by omega)))
  have hne : s.toList.isEmpty = true := by rw [str_isEmpty]; exact decide_eq_true h0
  have hp := pnOf_long (s := s.data.toList) (by rw [pn_len]; omega)
  obtain ⟨W, hW⟩ : ∃ W, W = (w.alloc (.cells #[.int .i64 0, .int .i64 0, .string ⟨#[]⟩] 28)).alloc (.cells #[.int .i64 1, .int .i64 0, .string ⟨#[]⟩] 28) := ⟨_, rfl⟩
  have hb0 : Below w.heap.size w W := by rw [hW]; exact Below.alloc0 (Below.alloc0 (Below.refl _ _) _) _
  have hR : Box W w.heap.size V0 := by rw [hW]; exact (Box.zero w).below ((Below.refl _ _).alloc (Nat.le_refl _) _)
  have hV : Box W (w.heap.size + 1) (pvInt 0) := box_two w (pvInt 0) W hW
  go_enter Tryd.func26, Tryd.ntmps26
  go_wp2_with fail
  rw [← hW]
  clear hW
  refine (spec_ParseNum W s hs).mono ?_
  rintro e w2 ⟨rfl, hb2⟩
  have hb := hb0.trans (hb2.mono hb0.size)
  replace hR := hR.below hb2
  replace hV := hV.below hb2
  obtain ⟨q0, q1, q2, f0, f1, f2⟩ := hR.cells
  obtain ⟨p0, p1, p2, g0, g1, g2⟩ := hV.cells
  simp only [pvInt] at p0 p1 p2
  clear hb2 hb0
  have ho := Lib.hid (pvT_none (pv_intF hh.out hp).1)
  have et : ((valText (pvInt 0)).toList == s.toList) = false := beq_eq_false_iff_ne.2 (fun h => (pv_intF hh.out hp).2 (str_ext h))
  rw [show pnT s = .tuple #[.int .i64 0, .bool false] from (pnT_none hp).symm]
  have hV2 := hV.set1 0
  have hR2 := hR.grown (grown_set w2 (w.heap.size + 1) 1 (.int .i64 0)) (by omega)
  have hb2 := hb.setCell (p := ⟨w.heap.size + 1, 1, none⟩) (by simp) (.int .i64 0)
  clear hp hh hR hV hb
  obtain ⟨x0, x1, x2, -, -, -⟩ := hR2.cells
  obtain ⟨r0, r1, r2⟩ := three_set x0 x1 x2 (.int .i64 0) (.int .i64 0) (.string ⟨#[]⟩)
  have hb5 := below_three hb2 (Nat.le_refl w.heap.size) (.int .i64 0) (.int .i64 0) (.string ⟨#[]⟩)
  go_wp2_with fail
  exact bodyPost_ret (v := .tuple #[.agg #[.int .i64 0, .int .i64 0, .string ⟨#[]⟩], .bool false]) (by simp [results, Tryd.results26, go_sem, r0, r1, r2]) rfl ⟨congrArg Ending.returned ho.out, hb5⟩
theorem spec_ParseVal (w : World) (s : ByteArray) (hs : s.size ≤ 281474976710656) :
    Calls Tryd.prog 26 #[.string s] w fun e w' => e = .returned (pvT s) ∧ Below w.heap.size w w' := by
  by_cases h : ∃ h : 0 < s.size, s[0].toNat = 39
  · obtain ⟨h1, h39⟩ := h
    exact spec_ParseVal_text w s hs h1 h39
  · by_cases h0 : s.size = 0
    · exact spec_ParseVal_empty w s hs h0
    · exact spec_ParseVal_int w s hs (by omega) (fun e => h ⟨by omega, e⟩)
end Go.Proofs.YtgpimlmolcjeoaaDoor
