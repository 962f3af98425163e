/-
  Contracts of Column, in the program and in the reference.
-/
import Derived.Test.YtgpimlmolcjeoaaGreatDoorRows2
import Derived.Test.YtgpimlmolcjeoaaGreatDoorThree
namespace Go.Proofs.YtgpimlmolcjeoaaGreatDoor
open Go.RowKit
set_option linter.unusedVariables false
set_option maxRecDepth 100000

def colOne (k : Int) (l : List V) : List V := if 0 ≤ k then (l[k.toNat]?).toList else []
def colOf (rs : List RowV) (k : Int) : List V := rs.flatMap fun r => colOne k r.l
theorem colOf_snoc {rs : List RowV} {j : Nat} {x : RowV} (k : Int) (h : rs[j]? = some x) : colOf (rs.take (j + 1)) k = colOf (rs.take j) k ++ colOne k x.l := by
  rw [List.take_add_one, h]
  simp [colOf]
theorem colOne_len (k : Int) (l : List V) : (colOne k l).length ≤ 1 := by
  unfold colOne
  split
  · cases l[k.toNat]? <;> simp
  · simp
theorem colOf_len (rs : List RowV) (k : Int) : (colOf rs k).length ≤ rs.length := by
  induction rs with
  | nil => simp [colOf]
  | cons r rs ih =>
    have := colOne_len k r.l
    simp only [colOf, List.flatMap_cons, List.length_append, List.length_cons] at ih ⊢
    omega
theorem colOf_key {a b : List RowV} (k : Int) (h : a.map RowV.key = b.map RowV.key) : colOf a k = colOf b k := by
  have e : ∀ rs : List RowV, colOf rs k = (rs.map RowV.key).flatMap fun p => colOne k p.2 := fun rs => by
    induction rs with
    | nil => rfl
    | cons r rs ih =>
      simp only [colOf, List.flatMap_cons, List.map_cons] at ih ⊢
      rw [ih]
      rfl
  rw [e, e, h]
theorem colOne_none {k : Int} {l : List V} (h : k < 0) : colOne k l = [] := by unfold colOne; rw [if_neg (by omega)]
theorem colOne_out {q : Nat} {l : List V} (h : l.length ≤ q) : colOne (q : Int) l = [] := by
  unfold colOne
  rw [if_pos (by omega), List.getElem?_eq_none (by simpa using h)]
  rfl
theorem colOne_in {q : Nat} {l : List V} {v : V} (h : l[q]? = some v) : colOne (q : Int) l = [v] := by
  unfold colOne
  rw [if_pos (by omega)]
  simp [h]
theorem colOf_ok {rs : List RowV} (k : Int) (hs : Small rs) : ∀ v ∈ colOf rs k, v.ok := by
  intro v hv
  obtain ⟨r, hr, hv⟩ := List.mem_flatMap.1 hv
  unfold colOne at hv
  split at hv
  · cases hq : r.l[k.toNat]? with
    | none => rw [hq] at hv; cases hv
    | some y =>
      rw [hq] at hv
      simp at hv
      subst hv
      exact (hs r hr).2 _ (List.mem_of_getElem? hq)
  · cases hv

set_option maxHeartbeats 1600000 in
theorem spec_Column (w : World) (A : Option Addr) (c : Nat) (rs : List RowV) (hr : Reads w w.heap.size 2 A rs.length (rs.flatMap RowV.enc)) (hin : RowsIn w w.heap.size rs) (hsm : Small rs) (hl : rs.length ≤ 1048576) (k : Int) (hk : I64 k) :
    Calls Tryz.prog 21 #[.slice A rs.length c, .int .i64 k] w fun e w' => ∃ A' c', e = .returned (.slice A' (colOf rs k).length c') ∧
      w'.ownsRow w.heap.size 49 3 (.slice A' (colOf rs k).length c') (colOf rs k).length (valCells (colOf rs k)) ∧ Below w.heap.size w w' := by
  obtain ⟨i0, hi0, hz0, hz1, hz2⟩ := info_parts info_Val
  obtain ⟨hk1, hk2⟩ := hk
  have HS := Lib.hid hsm
  have HIN := Lib.hid hin
  clear hsm hin
  go_enter Tryz.func21, Tryz.ntmps21
  go_wp2
  go_loopw [5, 6] (fun o i wr => ∃ (j n : Nat) (A' : Option Addr) (c' : Nat) (xs : List V), j ≤ rs.length ∧ i = .int .i64 j ∧ o = .slice A' n c' ∧ n ≤ 1048576 ∧ wr.ownsRow w.heap.size 49 3 (.slice A' n c') n (valCells xs) ∧ Hid (xs = colOf (rs.take j) k ∧ n = xs.length) ∧ Below w.heap.size w wr) (fun _ i _ => rs.length - (intOf i).toNat)
  case atStart => exact ⟨0, 0, _, _, [], Nat.zero_le _, rfl, rfl, Nat.zero_le _, own_empty (Nat.le_refl _), Lib.hid ⟨by simp [colOf], rfl⟩, Below.alloc0 (Below.refl _ _) _⟩
  case round =>
    obtain ⟨j, n, A', c', xs, hj, rfl, rfl, hn, hown, HX, hbl⟩ := hrel
    have hsz := hbl.size
    by_cases hlt : j < rs.length
    · obtain ⟨b, off, x, rfl, hb, hx, hc0, hc1⟩ := hr.row hlt
      have hxm := List.mem_of_getElem? hx.out
      have hxs := HS.out x hxm
      have hxl : x.l.length ≤ 1048576 := hxs.1
      have hxr := (HIN.out x hxm).below hbl (Nat.le_refl _)
      have hd0 : wr.cell? ⟨b, off + j * 2, none⟩ = some (.int .i64 x.id) := (hbl.cell (p := ⟨b, off + j * 2, none⟩) hb).trans hc0
      have hd1 : wr.cell? ⟨b, off + j * 2 + 1, none⟩ = some (.slice x.A x.l.length x.c) := (hbl.cell (p := ⟨b, off + j * 2 + 1, none⟩) hb).trans hc1
      have hsn := Lib.hid (colOf_snoc k hx.out)
      clear hr hc0 hc1 hx hxm hxs
      by_cases hkn : k < 0
      · have HX2 : Hid (xs = colOf (rs.take (j + 1)) k ∧ n = xs.length) := Lib.hid ⟨by rw [hsn.out, colOne_none hkn, List.append_nil]; exact HX.out.1, HX.out.2⟩
        have hB : inB k 0 ((x.l.length : Int) - 1) = false := inB_false (by omega)
        clear HX hsn hxr
        go_wp2_with (go_at_call 43; refine (l1In_any _ _ _ _).mono ?_; rintro e w2 ⟨rfl, rfl⟩)
        go_roundw
        case rel => exact ⟨j + 1, n, A', c', xs, by omega, by go_num, rfl, hn, hown, HX2, hbl⟩
        case measure => simp [intOf]; omega
      obtain ⟨q, rfl⟩ : ∃ q : Nat, k = (q : Int) := ⟨k.toNat, by omega⟩
      by_cases hq : q < x.l.length
      · obtain ⟨b2, off2, v, hA2, hb2, hv, hv0, hv1, hv2⟩ := hxr.v hq
        have hkd : inB (q : Int) 0 ((x.l.length : Int) - 1) = true := inB_true (by omega)
        have HX2 : Hid (xs ++ [v] = colOf (rs.take (j + 1)) (q : Int) ∧ n + 1 = (xs ++ [v]).length) := Lib.hid ⟨by rw [hsn.out, colOne_in hv.out, HX.out.1], by have := HX.out.2; simp; omega⟩
        have hn2 : n ≤ j := by have h1 := HX.out.2; rw [HX.out.1] at h1; have h2 := colOf_len (rs.take j) (q : Int); rw [List.length_take] at h2; omega
        rw [hA2] at hd1
        skip
        clear HX hsn hxr hv hkn
        go_wp2_with fail
        refine (l1In_any _ _ _ _).mono ?_
        rintro e w2 ⟨rfl, rfl⟩
        go_wp2_with (at_builtin; refine append_one rfl (.tmp 23) (.tmp 32) 25 rfl w.heap.size 49 i0 _ 3 32 Tryz.underlying25 hi0 hz0 hz1 hz2 rfl (by omega) (by omega) A' n c' _ rfl hown [.int .i64 v.ty, .int .i64 v.n, .string v.s] _ rfl (by first | rfl | simp) rfl (by simp [Value.oneCell']) hsz (by omega) ?_; intro A3 c3 w3 hown2 hb3)
        have hbl2 := hbl.trans hb3
        rw [valCells_app] at hown2
        clear hd0 hd1 hv0 hv1 hv2 hown hbl hb2
        go_wp2
        go_roundw
        case rel => exact ⟨j + 1, n + 1, _, _, xs ++ [v], by omega, by go_num, rfl, by omega, hown2, HX2, hbl2⟩
        case measure => simp [intOf]; omega
      · have HX2 : Hid (xs = colOf (rs.take (j + 1)) (q : Int) ∧ n = xs.length) := Lib.hid ⟨by rw [hsn.out, colOne_out (by omega), List.append_nil]; exact HX.out.1, HX.out.2⟩
        have hB : inB (q : Int) 0 ((x.l.length : Int) - 1) = false := inB_false (by omega)
        clear HX hsn hxr
        go_wp2_with (go_at_call 43; refine (l1In_any _ _ _ _).mono ?_; rintro e w2 ⟨rfl, rfl⟩)
        go_roundw
        case rel => exact ⟨j + 1, n, A', c', xs, by omega, by go_num, rfl, hn, hown, HX2, hbl⟩
        case measure => simp [intOf]; omega
    · have hjn : j = rs.length := by omega
      subst hjn
      obtain ⟨hx1, hx2⟩ := HX.out
      rw [List.take_of_length_le (Nat.le_refl _)] at hx1
      subst hx1
      subst hx2
      clear HX
      go_wp2
      go_ret
      exact ⟨_, _, rfl, hown, hbl⟩
set_option maxHeartbeats 1600000 in
theorem impl_Column (w : World) (A : Option Addr) (c : Nat) (rs : List RowV) (hr : Reads w w.heap.size 2 A rs.length (rs.flatMap RowV.enc)) (hin : RowsIn w w.heap.size rs) (hsm : Small rs) (hl : rs.length ≤ 1048576) (k : Int) (hk : I64 k) :
    Calls Tryz.prog 12 #[.slice A rs.length c, .int .i64 k] w fun e w' => ∃ A' c', e = .returned (.slice A' (colOf rs k).length c') ∧
      w'.ownsRow w.heap.size 49 3 (.slice A' (colOf rs k).length c') (colOf rs k).length (valCells (colOf rs k)) ∧ Below w.heap.size w w' := by
  obtain ⟨i0, hi0, hz0, hz1, hz2⟩ := info_parts info_Val
  obtain ⟨hk1, hk2⟩ := hk
  have HS := Lib.hid hsm
  have HIN := Lib.hid hin
  clear hsm hin
  go_enter Tryz.func12, Tryz.ntmps12
  go_wp2
  go_loopw [5, 11] (fun o i wr => ∃ (j n : Nat) (A' : Option Addr) (c' : Nat) (xs : List V), j ≤ rs.length ∧ i = .int .i64 j ∧ o = .slice A' n c' ∧ n ≤ 1048576 ∧ wr.ownsRow w.heap.size 49 3 (.slice A' n c') n (valCells xs) ∧ Hid (xs = colOf (rs.take j) k ∧ n = xs.length) ∧ Below w.heap.size w wr) (fun _ i _ => rs.length - (intOf i).toNat)
  case atStart => exact ⟨0, 0, _, _, [], Nat.zero_le _, rfl, rfl, Nat.zero_le _, own_empty (Nat.le_refl _), Lib.hid ⟨by simp [colOf], rfl⟩, Below.alloc0 (Below.refl _ _) _⟩
  case round =>
    obtain ⟨j, n, A', c', xs, hj, rfl, rfl, hn, hown, HX, hbl⟩ := hrel
    have hsz := hbl.size
    by_cases hlt : j < rs.length
    · obtain ⟨b, off, x, rfl, hb, hx, hc0, hc1⟩ := hr.row hlt
      have hxm := List.mem_of_getElem? hx.out
      have hxs := HS.out x hxm
      have hxl : x.l.length ≤ 1048576 := hxs.1
      have hxr := (HIN.out x hxm).below hbl (Nat.le_refl _)
      have hd0 : wr.cell? ⟨b, off + j * 2, none⟩ = some (.int .i64 x.id) := (hbl.cell (p := ⟨b, off + j * 2, none⟩) hb).trans hc0
      have hd1 : wr.cell? ⟨b, off + j * 2 + 1, none⟩ = some (.slice x.A x.l.length x.c) := (hbl.cell (p := ⟨b, off + j * 2 + 1, none⟩) hb).trans hc1
      have hsn := Lib.hid (colOf_snoc k hx.out)
      clear hr hc0 hc1 hx hxm hxs
      by_cases hkn : k < 0
      · have HX2 : Hid (xs = colOf (rs.take (j + 1)) k ∧ n = xs.length) := Lib.hid ⟨by rw [hsn.out, colOne_none hkn, List.append_nil]; exact HX.out.1, HX.out.2⟩
        have hkd : decide (0 ≤ k) = false := by simp; omega
        clear HX hsn hxr
        go_wp2
        go_roundw
        case rel => exact ⟨j + 1, n, A', c', xs, by omega, by go_num, rfl, hn, hown.alloc _, HX2, hbl.alloc hsz _⟩
        case measure => simp [intOf]; omega
      obtain ⟨q, rfl⟩ : ∃ q : Nat, k = (q : Int) := ⟨k.toNat, by omega⟩
      by_cases hq : q < x.l.length
      · obtain ⟨b2, off2, v, hA2, hb2, hv, hv0, hv1, hv2⟩ := hxr.v hq
        have hkd : decide ((q : Int) < (x.l.length : Int)) = true := by simp; omega
        have HX2 : Hid (xs ++ [v] = colOf (rs.take (j + 1)) (q : Int) ∧ n + 1 = (xs ++ [v]).length) := Lib.hid ⟨by rw [hsn.out, colOne_in hv.out, HX.out.1], by have := HX.out.2; simp; omega⟩
        have hn2 : n ≤ j := by have h1 := HX.out.2; rw [HX.out.1] at h1; have h2 := colOf_len (rs.take j) (q : Int); rw [List.length_take] at h2; omega
        rw [hA2] at hd1
        have e0 := (World.cell?_alloc_lt wr (.cells #[.int .i64 x.id, .slice (some ⟨b2, off2, none⟩) x.l.length x.c] 27) ⟨b2, off2 + q * 3, none⟩ (by simp; omega)).trans hv0
        have e1 := (World.cell?_alloc_lt wr (.cells #[.int .i64 x.id, .slice (some ⟨b2, off2, none⟩) x.l.length x.c] 27) ⟨b2, off2 + q * 3 + 1, none⟩ (by simp; omega)).trans hv1
        have e2 := (World.cell?_alloc_lt wr (.cells #[.int .i64 x.id, .slice (some ⟨b2, off2, none⟩) x.l.length x.c] 27) ⟨b2, off2 + q * 3 + 2, none⟩ (by simp; omega)).trans hv2
        clear HX hsn hxr hv hkn
        go_wp2_with (at_builtin; refine append_one rfl (.tmp 24) (.tmp 30) 25 rfl w.heap.size 49 i0 _ 3 32 Tryz.underlying25 hi0 hz0 hz1 hz2 rfl (by omega) (by omega) A' n c' _ rfl (hown.alloc _) [.int .i64 v.ty, .int .i64 v.n, .string v.s] _ rfl (by first | rfl | simp) rfl (by simp [Value.oneCell']) (by simp; omega) (by omega) ?_; intro A3 c3 w3 hown2 hb3)
        have hbl2 := (hbl.alloc hsz _).trans hb3
        rw [valCells_app] at hown2
        clear hd0 hd1 hv0 hv1 hv2 hown hbl hb2
        go_wp2
        go_roundw
        case rel => exact ⟨j + 1, n + 1, _, _, xs ++ [v], by omega, by go_num, rfl, by omega, hown2, HX2, hbl2⟩
        case measure => simp [intOf]; omega
      · have HX2 : Hid (xs = colOf (rs.take (j + 1)) (q : Int) ∧ n = xs.length) := Lib.hid ⟨by rw [hsn.out, colOne_out (by omega), List.append_nil]; exact HX.out.1, HX.out.2⟩
        have hkd : decide ((q : Int) < (x.l.length : Int)) = false := by simp; omega
        clear HX hsn hxr
        go_wp2
        go_roundw
        case rel => exact ⟨j + 1, n, A', c', xs, by omega, by go_num, rfl, hn, hown.alloc _, HX2, hbl.alloc hsz _⟩
        case measure => simp [intOf]; omega
    · have hjn : j = rs.length := by omega
      subst hjn
      obtain ⟨hx1, hx2⟩ := HX.out
      rw [List.take_of_length_le (Nat.le_refl _)] at hx1
      subst hx1
      subst hx2
      clear HX
      go_wp2
      go_ret
      exact ⟨_, _, rfl, hown, hbl⟩
theorem spec_Column_at (w : World) (A : Option Addr) (c n : Nat) (rs : List RowV) (hn : rs.length = n) (hr : Reads w w.heap.size 2 A n (rs.flatMap RowV.enc)) (hin : RowsIn w w.heap.size rs) (hsm : Small rs) (hl : n ≤ 1048576) (k : Int) (hk : I64 k) :
    Calls Tryz.prog 21 #[.slice A n c, .int .i64 k] w fun e w' => ∃ A' c', e = .returned (.slice A' (colOf rs k).length c') ∧
      w'.ownsRow w.heap.size 49 3 (.slice A' (colOf rs k).length c') (colOf rs k).length (valCells (colOf rs k)) ∧ Below w.heap.size w w' := by
  subst hn
  exact spec_Column w A c rs hr hin hsm hl k hk
theorem impl_Column_at (w : World) (A : Option Addr) (c n : Nat) (rs : List RowV) (hn : rs.length = n) (hr : Reads w w.heap.size 2 A n (rs.flatMap RowV.enc)) (hin : RowsIn w w.heap.size rs) (hsm : Small rs) (hl : n ≤ 1048576) (k : Int) (hk : I64 k) :
    Calls Tryz.prog 12 #[.slice A n c, .int .i64 k] w fun e w' => ∃ A' c', e = .returned (.slice A' (colOf rs k).length c') ∧
      w'.ownsRow w.heap.size 49 3 (.slice A' (colOf rs k).length c') (colOf rs k).length (valCells (colOf rs k)) ∧ Below w.heap.size w w' := by
  subst hn
  exact impl_Column w A c rs hr hin hsm hl k hk
end Go.Proofs.YtgpimlmolcjeoaaGreatDoor
