/-
  Contracts of Places, in the program and in the reference.
-/
import Derived.Test.YtgpimlmolcjeoaaDict1
namespace Go.Proofs.Ytgpimlmolcjeoaa
open Go.RowKit
set_option linter.unusedVariables false
set_option maxRecDepth 100000

def placeGood (d : List V) (v : V) : Bool := decide (0 ≤ inDict d v)
def placeOk (d : List V) (l : List V) : Bool := l.all (placeGood d)
def placeTo (d : List V) (l : List V) : List Int := l.map (inDict d)
def placeL (d : List V) (l : List V) : List Int := if placeOk d l then placeTo d l else []
theorem placeTo_snoc {d l : List V} {k : Nat} {x : V} (h : l[k]? = some x) : placeTo d (l.take (k + 1)) = placeTo d (l.take k) ++ [inDict d x] := by
  unfold placeTo
  rw [List.take_add_one, h]
  simp
theorem place_bad {d l : List V} {k : Nat} {q : V} (h : l[k]? = some q) (hq : inDict d q < 0) : placeL d l = [] ∧ placeOk d l = false := by
  have h1 : placeOk d l = false := all_false h (by simp [placeGood]; omega)
  exact ⟨by unfold placeL; rw [h1]; rfl, h1⟩
theorem place_end {d l : List V} (h : AllTo (placeGood d) l l.length) : placeL d l = placeTo d (l.take l.length) ∧ placeOk d l = true := by
  have h1 : placeOk d l = true := h.all
  exact ⟨by unfold placeL; rw [h1, List.take_of_length_le (Nat.le_refl _)]; rfl, h1⟩
theorem placeL_len (d l : List V) : (placeL d l).length ≤ l.length := by
  unfold placeL
  split
  · simp [placeTo]
  · simp
theorem placeTo_len {d l : List V} {k : Nat} (hk : k ≤ l.length) : (placeTo d (l.take k)).length = k := by simp [placeTo]; omega
theorem ints_one (xs : List Int) (x : Int) : intCells xs ++ [.int .i64 x] = intCells (xs ++ [x]) := by simp [intCells]
set_option maxHeartbeats 1600000 in
theorem impl_Places (w : World) (Ad : Option Addr) (cd : Nat) (d : List V) (hrd : Reads w w.heap.size 3 Ad d.length (valCells d)) (hld : d.length ≤ 1099511627776) (hid : ∀ x ∈ d, x.ok)
    (A : Option Addr) (c : Nat) (l : List V) (hr : Reads w w.heap.size 3 A l.length (valCells l)) (hl : l.length ≤ 1099511627776) (hi : ∀ x ∈ l, x.ok) :
    Calls Try.prog 11 #[.slice Ad d.length cd, .slice A l.length c] w fun e w' => ∃ A' c', e = .returned (.tuple #[.slice A' (placeL d l).length c', .bool (placeOk d l)]) ∧ w'.ownsRow w.heap.size 3 1 (.slice A' (placeL d l).length c') (placeL d l).length (intCells (placeL d l)) ∧ Below w.heap.size w w' := by
  obtain ⟨i0, hi0, hz0, hz1, hz2⟩ := info_parts info_Int
  go_enter Try.func11, Try.ntmps11
  go_wp2
  go_loopw [6, 13] (fun o i wr => ∃ (k : Nat) (A' : Option Addr) (c' : Nat), k ≤ l.length ∧ i = .int .i64 k ∧ o = .slice A' k c' ∧ wr.ownsRow w.heap.size 3 1 (.slice A' k c') k (intCells (placeTo d (l.take k))) ∧ AllTo (placeGood d) l k ∧ Below w.heap.size w wr) (fun _ i _ => l.length - (intOf i).toNat)
  case atStart => exact ⟨0, _, _, Nat.zero_le _, rfl, rfl, own_empty (Nat.le_refl _), AllTo.zero _ _, Below.alloc0 (Below.refl _ _) _⟩
  case round =>
    obtain ⟨k, A', c', hk, rfl, rfl, hown, hall, hbl⟩ := hrel
    have hsz := hbl.size
    by_cases hlt : k < l.length
    · obtain ⟨p, off, x, rfl, hb, hx, hc0, hc1, hc2⟩ := hr.v hlt
      have hd0 : wr.cell? ⟨p, off + k * 3, none⟩ = some (.int .i64 x.ty) := (hbl.cell (p := ⟨p, off + k * 3, none⟩) hb).trans hc0
      have hd1 : wr.cell? ⟨p, off + k * 3 + 1, none⟩ = some (.int .i64 x.n) := (hbl.cell (p := ⟨p, off + k * 3 + 1, none⟩) hb).trans hc1
      have hd2 : wr.cell? ⟨p, off + k * 3 + 2, none⟩ = some (.string x.s) := (hbl.cell (p := ⟨p, off + k * 3 + 2, none⟩) hb).trans hc2
      have hxok := hi x (List.mem_of_getElem? hx.out)
      obtain ⟨w0, hw0⟩ : ∃ w0, w0 = (wr.alloc (.cells #[.int .i64 x.ty, .int .i64 x.n, .string x.s] 37)) := ⟨_, rfl⟩
      have hbl0 : Below w.heap.size w w0 := by rw [hw0]; exact hbl.alloc hsz _
      have hown0 : w0.ownsRow w.heap.size 3 1 (.slice A' k c') k (intCells (placeTo d (l.take k))) := by rw [hw0]; exact hown.alloc _
      have hsz0 := hbl0.size
      have hr2 := (hrd.below hbl0 (Nat.le_refl _)).more hsz0
      replace hw0 := Lib.hid hw0
      clear hr hrd hc0 hc1 hc2 hi hown
      go_wp2_with fail
      try rw [← hw0.out]
      refine (impl_InDict _ _ _ _ hr2 hld hid x hxok).mono ?_
      rintro e w5 ⟨rfl, hb5⟩
      replace hbl0 := hbl0.trans (hb5.mono hsz0)
      replace hown0 := own_step hown0 hb5
      replace hsz0 := hbl0.size
      clear hd0 hd1 hd2 hw0 hbl hsz hr2 hb5
      by_cases hin : inDict d x < 0
      · have hbad := Lib.hid (place_bad hx.out hin)
        clear hall hown0
        go_wp2
        go_ret2
        rw [hbad.out.1, hbad.out.2]
        exact ⟨none, 0, rfl, World.ownsRow_nil _ _ _ _, hbl0⟩
      · have hall2 := hall.succ hx.out (show placeGood d x = true by simp [placeGood]; omega)
        have hs := Lib.hid (placeTo_snoc (d := d) hx.out)
        clear hall
        go_wp2_with (at_builtin; refine append_one rfl (.tmp 22) (.tmp 24) 28 rfl w.heap.size 3 i0 _ 1 8 Try.underlying28 hi0 hz0 hz1 hz2 rfl (by omega) (by omega) A' k c' _ rfl hown0 [.int .i64 (inDict d x)] _ rfl (by first | rfl | simp) rfl (by simp [Value.oneCell']) hsz0 (by omega) ?_; intro A2 c2 w2 hown2 hb2)
        rw [ints_one, ← hs.out] at hown2
        have hbl2 := hbl0.trans hb2
        clear hown0 hb2 hbl0 hin
        go_wp2
        go_roundw
        case rel => exact ⟨k + 1, A2, c2, by omega, by go_num, rfl, hown2, hall2, hbl2⟩
        case measure => simp [intOf]; omega
    · have hkn : k = l.length := by omega
      subst hkn
      have hend := Lib.hid (place_end hall)
      have hn := Lib.hid (placeTo_len (d := d) (l := l) (Nat.le_refl _))
      go_wp2
      go_ret2
      rw [hend.out.1, hend.out.2, hn.out]
      exact ⟨_, _, rfl, hown, hbl⟩
set_option maxHeartbeats 1600000 in
theorem spec_Places (w : World) (Ad : Option Addr) (cd : Nat) (d : List V) (hrd : Reads w w.heap.size 3 Ad d.length (valCells d)) (hld : d.length ≤ 1099511627776) (hid : ∀ x ∈ d, x.ok)
    (A : Option Addr) (c : Nat) (l : List V) (hr : Reads w w.heap.size 3 A l.length (valCells l)) (hl : l.length ≤ 1099511627776) (hi : ∀ x ∈ l, x.ok) :
    Calls Try.prog 53 #[.slice Ad d.length cd, .slice A l.length c] w fun e w' => ∃ A' c', e = .returned (.tuple #[.slice A' (placeL d l).length c', .bool (placeOk d l)]) ∧ w'.ownsRow w.heap.size 3 1 (.slice A' (placeL d l).length c') (placeL d l).length (intCells (placeL d l)) ∧ Below w.heap.size w w' := by
  obtain ⟨i0, hi0, hz0, hz1, hz2⟩ := info_parts info_Int
  go_enter Try.func53, Try.ntmps53
  go_wp2
  go_loopw [6, 7] (fun o i wr => ∃ (k : Nat) (A' : Option Addr) (c' : Nat), k ≤ l.length ∧ i = .int .i64 k ∧ o = .slice A' k c' ∧ wr.ownsRow w.heap.size 3 1 (.slice A' k c') k (intCells (placeTo d (l.take k))) ∧ AllTo (placeGood d) l k ∧ Below w.heap.size w wr) (fun _ i _ => l.length - (intOf i).toNat)
  case atStart => exact ⟨0, _, _, Nat.zero_le _, rfl, rfl, own_empty (Nat.le_refl _), AllTo.zero _ _, Below.alloc0 (Below.refl _ _) _⟩
  case round =>
    obtain ⟨k, A', c', hk, rfl, rfl, hown, hall, hbl⟩ := hrel
    have hsz := hbl.size
    by_cases hlt : k < l.length
    · obtain ⟨p, off, x, rfl, hb, hx, hc0, hc1, hc2⟩ := hr.v hlt
      have hd0 : wr.cell? ⟨p, off + k * 3, none⟩ = some (.int .i64 x.ty) := (hbl.cell (p := ⟨p, off + k * 3, none⟩) hb).trans hc0
      have hd1 : wr.cell? ⟨p, off + k * 3 + 1, none⟩ = some (.int .i64 x.n) := (hbl.cell (p := ⟨p, off + k * 3 + 1, none⟩) hb).trans hc1
      have hd2 : wr.cell? ⟨p, off + k * 3 + 2, none⟩ = some (.string x.s) := (hbl.cell (p := ⟨p, off + k * 3 + 2, none⟩) hb).trans hc2
      have hxok := hi x (List.mem_of_getElem? hx.out)
      obtain ⟨w0, hw0⟩ : ∃ w0, w0 = wr := ⟨_, rfl⟩
      have hbl0 : Below w.heap.size w w0 := by rw [hw0]; exact hbl
      have hown0 : w0.ownsRow w.heap.size 3 1 (.slice A' k c') k (intCells (placeTo d (l.take k))) := by rw [hw0]; exact hown
      have hsz0 := hbl0.size
      have hr2 := (hrd.below hbl0 (Nat.le_refl _)).more hsz0
      replace hw0 := Lib.hid hw0
      clear hr hrd hc0 hc1 hc2 hi hown
      go_wp2_with fail
      try rw [← hw0.out]
      refine (spec_InDict _ _ _ _ hr2 hld hid x hxok).mono ?_
      rintro e w5 ⟨rfl, hb5⟩
      replace hbl0 := hbl0.trans (hb5.mono hsz0)
      replace hown0 := own_step hown0 hb5
      replace hsz0 := hbl0.size
      clear hd0 hd1 hd2 hw0 hbl hsz hr2 hb5
      by_cases hin : inDict d x < 0
      · have hbad := Lib.hid (place_bad hx.out hin)
        clear hall hown0
        go_wp2
        go_ret2
        rw [hbad.out.1, hbad.out.2]
        exact ⟨_, _, rfl, own_empty hsz0, hbl0.alloc hsz0 _⟩
      · have hall2 := hall.succ hx.out (show placeGood d x = true by simp [placeGood]; omega)
        have hs := Lib.hid (placeTo_snoc (d := d) hx.out)
        clear hall
        go_wp2_with (at_builtin; refine append_one rfl (.tmp 25) (.tmp 27) 28 rfl w.heap.size 3 i0 _ 1 8 Try.underlying28 hi0 hz0 hz1 hz2 rfl (by omega) (by omega) A' k c' _ rfl hown0 [.int .i64 (inDict d x)] _ rfl (by first | rfl | simp) rfl (by simp [Value.oneCell']) hsz0 (by omega) ?_; intro A2 c2 w2 hown2 hb2)
        rw [ints_one, ← hs.out] at hown2
        have hbl2 := hbl0.trans hb2
        clear hown0 hb2 hbl0 hin
        go_wp2
        go_roundw
        case rel => exact ⟨k + 1, A2, c2, by omega, by go_num, rfl, hown2, hall2, hbl2⟩
        case measure => simp [intOf]; omega
    · have hkn : k = l.length := by omega
      subst hkn
      have hend := Lib.hid (place_end hall)
      have hn := Lib.hid (placeTo_len (d := d) (l := l) (Nat.le_refl _))
      go_wp2
      go_ret2
      rw [hend.out.1, hend.out.2, hn.out]
      exact ⟨_, _, rfl, hown, hbl⟩

end Go.Proofs.Ytgpimlmolcjeoaa
