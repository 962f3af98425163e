/-
  Contracts of Raised and Picked, in the program and in the reference.
-/
import Derived.Test.YtgpimlmolcjeoaaDict1
namespace Go.Proofs.Ytgpimlmolcjeoaa
open Go.RowKit
set_option linter.unusedVariables false
set_option maxRecDepth 100000

theorem own_vlen {w : World} {base n c : Nat} {e : TypeId} {A : Option Addr} {L : List V} (h : w.ownsRow base e 3 (.slice A n c) n (valCells L)) : n = L.length := by
  have := h.1
  rw [valCells_length] at this
  omega

def pickGood (d : List V) (q : Int) : Bool := inB q 0 ((d.length : Int) - 1)
def pickedOk (d : List V) (xs : List Int) : Bool := xs.all (pickGood d)
def pickTo (d : List V) (xs : List Int) : List V := xs.filterMap fun q => d[q.toNat]?
def pickedL (d : List V) (xs : List Int) : List V := if pickedOk d xs then pickTo d xs else []
theorem pickTo_snoc {d : List V} {xs : List Int} {k m : Nat} {y : V} (h : xs[k]? = some (m : Int)) (hy : d[m]? = some y) : valCells (pickTo d (xs.take (k + 1))) = valCells (pickTo d (xs.take k)) ++ [.int .i64 y.ty, .int .i64 y.n, .string y.s] := by
  unfold pickTo valCells
  rw [List.take_add_one, h]
  simp [List.filterMap_append, hy, V.enc]
theorem picked_bad {d : List V} {xs : List Int} {k : Nat} {q : Int} (h : xs[k]? = some q) (hq : pickGood d q = false) : pickedL d xs = [] ∧ pickedOk d xs = false := by
  have h1 : pickedOk d xs = false := all_false h hq
  exact ⟨by unfold pickedL; rw [h1]; rfl, h1⟩
theorem picked_end {d : List V} {xs : List Int} (h : AllTo (pickGood d) xs xs.length) : pickedL d xs = pickTo d (xs.take xs.length) ∧ pickedOk d xs = true := by
  have h1 : pickedOk d xs = true := h.all
  exact ⟨by unfold pickedL; rw [h1, List.take_of_length_le (Nat.le_refl _)]; rfl, h1⟩
theorem pickedL_len (d : List V) (xs : List Int) : (pickedL d xs).length ≤ xs.length := by
  unfold pickedL
  split
  · exact List.length_filterMap_le _ _
  · simp

set_option maxHeartbeats 1600000 in
theorem impl_Picked (w : World) (Ad : Option Addr) (cd : Nat) (d : List V) (hrd : Reads w w.heap.size 3 Ad d.length (valCells d)) (hld : d.length ≤ 1099511627776) (hid : ∀ x ∈ d, x.ok)
    (A : Option Addr) (c : Nat) (xs : List Int) (hr : Reads w w.heap.size 1 A xs.length (intCells xs)) (hl : xs.length ≤ 1099511627776) (hi : ∀ x ∈ xs, I64 x) :
    Calls Try.prog 12 #[.slice Ad d.length cd, .slice A xs.length c] w fun e w' => ∃ A' c', e = .returned (.tuple #[.slice A' (pickedL d xs).length c', .bool (pickedOk d xs)]) ∧ w'.ownsRow w.heap.size 37 3 (.slice A' (pickedL d xs).length c') (pickedL d xs).length (valCells (pickedL d xs)) ∧ Below w.heap.size w w' := by
  obtain ⟨i0, hi0, hz0, hz1, hz2⟩ := info_parts info_Val
  clear hi hid
  go_enter Try.func12, Try.ntmps12
  go_wp2
  go_loopw [6, 12] (fun o i wr => ∃ (k n : Nat) (A' : Option Addr) (c' : Nat), k ≤ xs.length ∧ n ≤ k ∧ i = .int .i64 k ∧ o = .slice A' n c' ∧ wr.ownsRow w.heap.size 37 3 (.slice A' n c') n (valCells (pickTo d (xs.take k))) ∧ AllTo (pickGood d) xs k ∧ Below w.heap.size w wr) (fun _ i _ => xs.length - (intOf i).toNat)
  case atStart => exact ⟨0, 0, _, _, Nat.zero_le _, Nat.le_refl _, rfl, rfl, own_empty (Nat.le_refl _), AllTo.zero _ _, Below.alloc0 (Below.refl _ _) _⟩
  case round =>
    obtain ⟨k, n, A', c', hk, hnk, rfl, rfl, hown, hall, hbl⟩ := hrel
    have hsz := hbl.size
    by_cases hlt : k < xs.length
    · obtain ⟨p, off, x, rfl, hb, hx, hc⟩ := hr.int hlt
      have hd : wr.cell? ⟨p, off + k, none⟩ = some (.int .i64 x) := (hbl.cell (p := ⟨p, off + k, none⟩) hb).trans hc
      clear hr hc
      by_cases hin : 0 ≤ x ∧ x < d.length
      · obtain ⟨m, rfl⟩ := Int.eq_ofNat_of_zero_le hin.1
        have hm : m < d.length := by omega
        have hB : inB (m : Int) 0 ((d.length : Int) - 1) = true := inB_true (by omega)
        obtain ⟨p2, off2, y, rfl, hb2, hy, hc0, hc1, hc2⟩ := hrd.v hm
        have hd0 : wr.cell? ⟨p2, off2 + m * 3, none⟩ = some (.int .i64 y.ty) := (hbl.cell (p := ⟨p2, off2 + m * 3, none⟩) hb2).trans hc0
        have hd1 : wr.cell? ⟨p2, off2 + m * 3 + 1, none⟩ = some (.int .i64 y.n) := (hbl.cell (p := ⟨p2, off2 + m * 3 + 1, none⟩) hb2).trans hc1
        have hd2 : wr.cell? ⟨p2, off2 + m * 3 + 2, none⟩ = some (.string y.s) := (hbl.cell (p := ⟨p2, off2 + m * 3 + 2, none⟩) hb2).trans hc2
        have hall2 := hall.succ hx.out hB
        clear hrd hc0 hc1 hc2 hin hall
        go_wp2_with (at_builtin; refine append_one rfl (.tmp 24) (.tmp 29) 24 rfl w.heap.size 37 i0 _ 3 32 Try.underlying24 hi0 hz0 hz1 hz2 rfl (by omega) (by omega) A' n c' _ rfl hown [.int .i64 y.ty, .int .i64 y.n, .string y.s] _ rfl (by first | rfl | simp) rfl (by simp [Value.oneCell']) hsz (by omega) ?_; intro A2 c2 w2 hown2 hb2)
        rw [← pickTo_snoc hx.out hy.out] at hown2
        have hbl2 := hbl.trans hb2
        clear hd hd0 hd1 hd2 hown hb2 hbl
        go_wp2
        go_roundw
        case rel => exact ⟨k + 1, n + 1, _, _, by omega, by omega, by go_num, rfl, hown2, hall2, hbl2⟩
        case measure => simp [intOf]; omega
      · have hB : inB x 0 ((d.length : Int) - 1) = false := inB_false (by omega)
        have hbad := Lib.hid (picked_bad hx.out hB)
        clear hrd hall
        rcases (show x < 0 ∨ (0 ≤ x ∧ (d.length : Int) ≤ x) by omega) with h1 | ⟨h1, h2⟩
        all_goals
          clear hin
          go_wp2
          go_ret2
          rw [hbad.out.1, hbad.out.2]
          exact ⟨_, _, rfl, World.ownsRow_nil _ _ _ _, hbl⟩
    · have hkn : k = xs.length := by omega
      subst hkn
      have hend := Lib.hid (picked_end hall)
      have hn := Lib.hid (own_vlen hown)
      go_wp2
      go_ret2
      rw [hend.out.1, hend.out.2, ← hn.out]
      exact ⟨_, _, rfl, hown, hbl⟩




end Go.Proofs.Ytgpimlmolcjeoaa
