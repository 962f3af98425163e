/-
  Contracts of ParseVals, in the program and in the reference.
-/
import Derived.Test.YtgpimlmolcjeoaaGreatDoorSplit
import Derived.Test.YtgpimlmolcjeoaaGreatDoorPval
import Derived.Test.YtgpimlmolcjeoaaGreatDoorKept
namespace Go.Proofs.YtgpimlmolcjeoaaGreatDoor
open Go.RowKit
set_option linter.unusedVariables false
set_option maxRecDepth 100000

theorem own_empty_n {w : World} {base size n : Nat} {e : TypeId} (hn : n = w.heap.size) (hb : base ≤ w.heap.size) : (w.alloc (.cells #[] e)).ownsRow base e size (.slice (some ⟨n, 0, none⟩) 0 0) 0 [] := by
  subst hn
  exact own_empty hb
def pvsOk (s : ByteArray) : Bool := (wordsOf s).all pvB
def pvsL (s : ByteArray) : List V := if pvsOk s then (wordsOf s).map pvV else []
theorem pvs_bad {s : ByteArray} {x : ByteArray} {k : Nat} (h : (wordsOf s)[k]? = some x) (hx : pvB x = false) : pvsOk s = false ∧ pvsL s = [] := by
  have h1 : pvsOk s = false := by
    unfold pvsOk
    rw [Bool.eq_false_iff]
    intro ha
    have := List.all_eq_true.1 ha x (List.mem_of_getElem? h)
    rw [hx] at this
    cases this
  exact ⟨h1, by unfold pvsL; rw [h1]; rfl⟩
theorem pvs_good {s : ByteArray} (h : ∀ x ∈ wordsOf s, pvB x = true) : pvsOk s = true ∧ pvsL s = (wordsOf s).map pvV := by
  have h1 : pvsOk s = true := List.all_eq_true.2 h
  exact ⟨h1, by unfold pvsL; rw [h1]; rfl⟩
theorem pvsL_len (s : ByteArray) : (pvsL s).length ≤ s.size + 1 := by
  have := words_length s
  unfold pvsL
  split
  · simpa using this
  · simp
theorem pvsL_ok {s : ByteArray} (hs : s.size ≤ 1048576) : ∀ v ∈ pvsL s, v.ok := by
  intro v hv
  unfold pvsL at hv
  split at hv
  · obtain ⟨x, hx, rfl⟩ := List.mem_map.1 hv
    exact pvV_ok (by have := words_size hx; omega)
  · cases hv
theorem take_snoc {ws : List ByteArray} {k : Nat} {x : ByteArray} (h : ws[k]? = some x) : valCells ((ws.take k).map pvV) ++ [.int .i64 (pvV x).ty, .int .i64 (pvV x).n, .string (pvV x).s] = valCells ((ws.take (k + 1)).map pvV) := by
  rw [List.take_add_one, h]
  simp [valCells, V.enc]
theorem all_snoc {ws : List ByteArray} {k : Nat} {x : ByteArray} (h : ws[k]? = some x) (ha : ∀ y ∈ ws.take k, pvB y = true) (hx : pvB x = true) : ∀ y ∈ ws.take (k + 1), pvB y = true := by
  intro y hy
  rw [List.take_add_one, h] at hy
  rcases List.mem_append.1 hy with h1 | h1
  · exact ha y h1
  · simp at h1; subst h1; exact hx

set_option maxHeartbeats 1600000 in
theorem spec_ParseVals (w : World) (s : ByteArray) (hs : s.size ≤ 1048576) :
    Calls Tryz.prog 11 #[.string s] w fun e w' => ∃ A' c', e = .returned (.tuple #[.slice A' (pvsL s).length c', .bool (pvsOk s)]) ∧
      w'.ownsRow w.heap.size 49 3 (.slice A' (pvsL s).length c') (pvsL s).length (valCells (pvsL s)) ∧ Below w.heap.size w w' := by
  obtain ⟨i0, hi0, hz0, hz1, hz2⟩ := info_parts info_Val
  have hwl := words_length s
  have HWS := Lib.hid (fun x (hx : x ∈ wordsOf s) => words_size hx)
  obtain ⟨W, hW⟩ : ∃ W, W = w.alloc (.cells #[] 49) := ⟨_, rfl⟩
  have hbW : Below w.heap.size w W := by rw [hW]; exact Below.alloc0 (Below.refl _ _) _
  have hownW : W.ownsRow w.heap.size 49 3 (.slice (some ⟨w.heap.size, 0, none⟩) 0 0) 0 [] := by rw [hW]; exact own_empty (Nat.le_refl _)
  go_enter Tryz.func11, Tryz.ntmps11
  go_wp2_with fail
  rw [← hW]
  clear hW
  refine (l4Split_any W s hs).mono ?_
  rintro e w1 ⟨A1, c1, rfl, hown1, hb1⟩
  have hownO := own_step hownW hb1
  have hbl1 := hbW.trans (hb1.mono hbW.size)
  have hB1 : w.heap.size ≤ w1.heap.size := hbl1.size
  obtain ⟨ws, hws⟩ : ∃ ws, ws = wordsOf s := ⟨_, rfl⟩
  obtain ⟨Aw, hAw⟩ : ∃ Aw, Aw = A1 := ⟨_, rfl⟩
  rw [← hws] at hown1 hwl HWS ⊢
  rw [← hAw] at hown1 ⊢
  have HW := Lib.hid hws
  clear hws hownW hbW hb1 hAw
  go_wp2_with fail
  go_loopw [4, 6] (fun o i wr => ∃ (k : Nat) (A' : Option Addr) (c' : Nat), k ≤ ws.length ∧ i = .int .i64 (k : Int) ∧ o = .slice A' k c' ∧ wr.ownsRow w.heap.size 49 3 (.slice A' k c') k (valCells ((ws.take k).map pvV)) ∧ wr.ownsRow W.heap.size 9 1 (.slice Aw ws.length c1) ws.length (strCells ws) ∧ Hid (∀ y ∈ ws.take k, pvB y = true) ∧ Below w.heap.size w wr) (fun _ i _ => ws.length - (intOf i).toNat)
  case atStart => exact ⟨0, _, _, Nat.zero_le _, rfl, rfl, hownO, hown1, Lib.hid (by simp), hbl1⟩
  case round =>
    clear hownO hbl1 hown1
    obtain ⟨k, A', c', hk, rfl, rfl, hown, hword, HA, hbl⟩ := hrel
    have hsz := hbl.size
    by_cases hlt : k < ws.length
    · obtain ⟨b, off, x, hxA, hb, hx, hc0⟩ := (own_reads hword).str hlt
      have hxs : x.size ≤ s.size := HWS.out x (List.mem_of_getElem? hx.out)
      subst hxA
      have hsn := Lib.hid (take_snoc hx.out)
      obtain ⟨v, hv⟩ : ∃ v, v = pvV x := ⟨_, rfl⟩
      rw [← hv] at hsn
      cases hpb : pvB x
      · have hP : Hid (pvT x = .tuple #[.agg #[.int .i64 v.ty, .int .i64 v.n, .string v.s], .bool false]) := Lib.hid (by rw [hv, ← hpb]; rfl)
        have hbad := Lib.hid (pvs_bad (s := s) (by rw [← HW.out]; exact hx.out) hpb)
        clear hx hv hpb
        go_wp2_with fail
        refine (spec_ParseVal _ x (by omega)).mono ?_
        rintro e w3 ⟨rfl, hb3⟩
        rw [hP.out]
        have hb4 := hbl.trans (hb3.mono hsz)
        clear hP hb3 hown hword hc0 HA hbl
        go_wp2
        go_ret2
        obtain ⟨e1, e2⟩ := hbad.out
        rw [e1, e2]
        exact ⟨_, _, rfl, own_empty_n (by simp) (by have := hb4.size; simp; omega), (hb4.alloc hb4.size _).alloc (by have := hb4.size; simp; omega) _⟩
      · have hP : Hid (pvT x = .tuple #[.agg #[.int .i64 v.ty, .int .i64 v.n, .string v.s], .bool true]) := Lib.hid (by rw [hv, ← hpb]; rfl)
        have HA2 := Lib.hid (all_snoc hx.out HA.out hpb)
        clear hx hv hpb
        go_wp2_with fail
        refine (spec_ParseVal _ x (by omega)).mono ?_
        rintro e w3 ⟨rfl, hb3⟩
        rw [hP.out]
        have hb4 := hbl.trans (hb3.mono hsz)
        have hown3 := (own_step hown hb3).alloc (.cells #[.int .i64 v.ty, .int .i64 v.n, .string v.s] 49)
        have hword3 := ((own_step hword hb3).alloc (.cells #[.int .i64 v.ty, .int .i64 v.n, .string v.s] 49))
        have hb5 := hb4.alloc hb4.size (.cells #[.int .i64 v.ty, .int .i64 v.n, .string v.s] 49)
        have hsz5 := hb5.size
        clear hP hb3 hown hword hc0 HA hbl hb4
        go_wp2_with (at_builtin; refine append_one_k rfl (.tmp 29) (.tmp 31) 25 rfl w.heap.size 49 i0 _ 3 32 Tryz.underlying25 hi0 hz0 hz1 hz2 rfl (by omega) (by omega) A' k c' _ rfl hown3 [.int .i64 v.ty, .int .i64 v.n, .string v.s] _ rfl (by first | rfl | simp) rfl (by simp [Value.oneCell']) hsz5 (by omega) ?_; intro A3 c3 w4 hown4 hb6 hk6)
        rw [hsn.out] at hown4
        have hword4 := own_typed hword3 hk6 (by decide)
        have hb7 := hb5.trans hb6
        clear hown3 hword3 hb5 hb6 hk6
        go_wp2
        go_roundw
        case rel => exact ⟨k + 1, _, _, by omega, by go_num, rfl, hown4, hword4, HA2, hb7⟩
        case measure => simp [intOf]; omega
    · have hkn : k = ws.length := by omega
      subst hkn
      rw [List.take_of_length_le (Nat.le_refl _)] at hown
      have hg := Lib.hid (pvs_good (s := s) (by rw [← HW.out]; have := HA.out; rwa [List.take_of_length_le (Nat.le_refl _)] at this))
      clear HA hword
      go_wp2
      go_ret2
      obtain ⟨e1, e2⟩ := hg.out
      rw [← HW.out] at e2
      have e3 : (pvsL s).length = ws.length := by rw [e2, List.length_map]
      rw [e1, e3, e2]
      exact ⟨_, _, rfl, hown, hbl⟩
set_option maxHeartbeats 1600000 in
theorem impl_ParseVals (w : World) (s : ByteArray) (hs : s.size ≤ 1048576) (hT : Tab w) (hE : Errs w) (hM : MaxL w) :
    Calls Tryz.prog 10 #[.string s] w fun e w' => ∃ A' c', e = .returned (.tuple #[.slice A' (pvsL s).length c', .bool (pvsOk s)]) ∧
      w'.ownsRow w.heap.size 49 3 (.slice A' (pvsL s).length c') (pvsL s).length (valCells (pvsL s)) ∧ Below w.heap.size w w' := by
  obtain ⟨i0, hi0, hz0, hz1, hz2⟩ := info_parts info_Val
  have hwl := words_length s
  have HWS := Lib.hid (fun x (hx : x ∈ wordsOf s) => words_size hx)
  obtain ⟨W, hW⟩ : ∃ W, W = w.alloc (.cells #[] 49) := ⟨_, rfl⟩
  have hbW : Below w.heap.size w W := by rw [hW]; exact Below.alloc0 (Below.refl _ _) _
  have hownW : W.ownsRow w.heap.size 49 3 (.slice (some ⟨w.heap.size, 0, none⟩) 0 0) 0 [] := by rw [hW]; exact own_empty (Nat.le_refl _)
  have hMW := hM.below hbW
  clear hM
  go_enter Tryz.func10, Tryz.ntmps10
  go_wp2_with fail
  rw [← hW]
  clear hW
  refine (split_any W s hs hMW).mono ?_
  rintro e w1 ⟨rfl, hown1, hb1⟩
  clear hMW
  have hownO := own_step hownW hb1
  have hbl1 := hbW.trans (hb1.mono hbW.size)
  have hB1 : w.heap.size ≤ w1.heap.size := hbl1.size
  obtain ⟨ws, hws⟩ : ∃ ws, ws = wordsOf s := ⟨_, rfl⟩
  obtain ⟨Aw, hAw⟩ : ∃ Aw, Aw = (some ⟨W.heap.size, 0, none⟩ : Option Addr) := ⟨_, rfl⟩
  rw [← hws] at hown1 hwl HWS ⊢
  rw [← hAw] at hown1 ⊢
  have HW := Lib.hid hws
  clear hws hownW hbW hb1 hAw
  go_wp2_with fail
  go_loopw [4, 13] (fun o i wr => ∃ (k : Nat) (A' : Option Addr) (c' : Nat), k ≤ ws.length ∧ i = .int .i64 (k : Int) ∧ o = .slice A' k c' ∧ wr.ownsRow w.heap.size 49 3 (.slice A' k c') k (valCells ((ws.take k).map pvV)) ∧ wr.ownsRow W.heap.size 9 1 (.slice Aw ws.length ws.length) ws.length (strCells ws) ∧ Hid (∀ y ∈ ws.take k, pvB y = true) ∧ Below w.heap.size w wr) (fun _ i _ => ws.length - (intOf i).toNat)
  case atStart => exact ⟨0, _, _, Nat.zero_le _, rfl, rfl, hownO, hown1, Lib.hid (by simp), hbl1⟩
  case round =>
    clear hownO hbl1 hown1
    obtain ⟨k, A', c', hk, rfl, rfl, hown, hword, HA, hbl⟩ := hrel
    have hsz := hbl.size
    by_cases hlt : k < ws.length
    · obtain ⟨b, off, x, hxA, hb, hx, hc0⟩ := (own_reads hword).str hlt
      have hxs : x.size ≤ s.size := HWS.out x (List.mem_of_getElem? hx.out)
      subst hxA
      have hTr := hT.below hbl
      have hEr := hE.below hbl
      have hsn := Lib.hid (take_snoc hx.out)
      obtain ⟨v, hv⟩ : ∃ v, v = pvV x := ⟨_, rfl⟩
      rw [← hv] at hsn
      cases hpb : pvB x
      · have hP : Hid (pvT x = .tuple #[.agg #[.int .i64 v.ty, .int .i64 v.n, .string v.s], .bool false]) := Lib.hid (by rw [hv, ← hpb]; rfl)
        have hbad := Lib.hid (pvs_bad (s := s) (by rw [← HW.out]; exact hx.out) hpb)
        clear hx hv hpb
        go_wp2_with fail
        refine (impl_ParseVal _ x (by omega) hTr hEr).mono ?_
        rintro e w3 ⟨rfl, hb3⟩
        rw [hP.out]
        have hb4 := hbl.trans (hb3.mono hsz)
        clear hP hb3 hown hword hc0 HA hbl hTr hEr
        go_wp2
        go_ret2
        obtain ⟨e1, e2⟩ := hbad.out
        rw [e1, e2]
        exact ⟨none, 0, rfl, World.ownsRow_nil _ _ _ _, hb4.alloc hb4.size _⟩
      · have hP : Hid (pvT x = .tuple #[.agg #[.int .i64 v.ty, .int .i64 v.n, .string v.s], .bool true]) := Lib.hid (by rw [hv, ← hpb]; rfl)
        have HA2 := Lib.hid (all_snoc hx.out HA.out hpb)
        clear hx hv hpb
        go_wp2_with fail
        refine (impl_ParseVal _ x (by omega) hTr hEr).mono ?_
        rintro e w3 ⟨rfl, hb3⟩
        rw [hP.out]
        have hb4 := hbl.trans (hb3.mono hsz)
        have hown3 := (own_step hown hb3).alloc (.cells #[.int .i64 v.ty, .int .i64 v.n, .string v.s] 49)
        have hword3 := ((own_step hword hb3).alloc (.cells #[.int .i64 v.ty, .int .i64 v.n, .string v.s] 49))
        have hb5 := hb4.alloc hb4.size (.cells #[.int .i64 v.ty, .int .i64 v.n, .string v.s] 49)
        have hsz5 := hb5.size
        clear hP hb3 hown hword hc0 HA hbl hb4 hTr hEr
        go_wp2_with (at_builtin; refine append_one_k rfl (.tmp 24) (.tmp 26) 25 rfl w.heap.size 49 i0 _ 3 32 Tryz.underlying25 hi0 hz0 hz1 hz2 rfl (by omega) (by omega) A' k c' _ rfl hown3 [.int .i64 v.ty, .int .i64 v.n, .string v.s] _ rfl (by first | rfl | simp) rfl (by simp [Value.oneCell']) hsz5 (by omega) ?_; intro A3 c3 w4 hown4 hb6 hk6)
        rw [hsn.out] at hown4
        have hword4 := own_typed hword3 hk6 (by decide)
        have hb7 := hb5.trans hb6
        clear hown3 hword3 hb5 hb6 hk6
        go_wp2
        go_roundw
        case rel => exact ⟨k + 1, _, _, by omega, by go_num, rfl, hown4, hword4, HA2, hb7⟩
        case measure => simp [intOf]; omega
    · have hkn : k = ws.length := by omega
      subst hkn
      rw [List.take_of_length_le (Nat.le_refl _)] at hown
      have hg := Lib.hid (pvs_good (s := s) (by rw [← HW.out]; have := HA.out; rwa [List.take_of_length_le (Nat.le_refl _)] at this))
      clear HA hword
      go_wp2
      go_ret2
      obtain ⟨e1, e2⟩ := hg.out
      rw [← HW.out] at e2
      have e3 : (pvsL s).length = ws.length := by rw [e2, List.length_map]
      rw [e1, e3, e2]
      exact ⟨_, _, rfl, hown, hbl⟩
end Go.Proofs.YtgpimlmolcjeoaaGreatDoor
