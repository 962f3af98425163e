/-
  Contracts of the laws' helpers on slices of values: copies, counts, comparisons, marks.
-/
import Derived.Test.YtgpimlmolcjeoaaDoorFlat
import Derived.Test.YtgpimlmolcjeoaaDoorMt
import Derived.Test.YtgpimlmolcjeoaaDoorVal
import Derived.Deep.RegionHeld3
import Derived.StillTailTactics
namespace Go.Proofs.YtgpimlmolcjeoaaDoor
open Go.RowKit
set_option linter.unusedVariables false
set_option maxRecDepth 100000

def letters (vs : List V) : Nat := (vs.map fun v => v.s.size).sum
theorem letters_snoc {vs : List V} {k : Nat} {x : V} (h : vs[k]? = some x) : letters (vs.take (k + 1)) = letters (vs.take k) + x.s.size := by
  unfold letters
  rw [List.take_add_one, h]
  simp
theorem letters_le (vs : List V) (k : Nat) : letters (vs.take k) ≤ letters vs := by
  have h : letters vs = letters (vs.take k) + letters (vs.drop k) := by
    unfold letters
    rw [← List.sum_append, ← List.map_append, List.take_append_drop]
  omega
def SzPost (r left : Int) (total : Nat) : Prop := r ≤ left ∧ (0 ≤ r → (total : Int) + r ≤ left)

theorem valCells_length (vs : List V) : (valCells vs).length = vs.length * 3 := flatMap_length_u _ 3 (fun _ => rfl) _
theorem valCells_snoc {vs : List V} {k : Nat} {x : V} (h : vs[k]? = some x) : valCells (vs.take (k + 1)) = valCells (vs.take k) ++ [.int .i64 x.ty, .int .i64 x.n, .string x.s] := by
  unfold valCells
  rw [List.take_add_one, h]
  simp [V.enc]
theorem set_three (m zs : List Value) (j : Nat) (a b c : Value) (hm : m.length = j) (hj : j + 2 < zs.length) :
    (((m ++ zs.drop j).set j a).set (j + 1) b).set (j + 2) c = m ++ [a, b, c] ++ zs.drop (j + 3) := by
  rw [set_at m zs j a hm (by omega), set_at (m ++ [a]) zs (j + 1) b (by simp [hm]) (by omega), set_at (m ++ [a] ++ [b]) zs (j + 2) c (by simp [hm]) (by omega)]
  simp
theorem own_set3 {w : World} {base g n cap : Nat} {e : TypeId} {size : Nat} {m zs : List Value} {j : Nat} (a b c : Value) (h : w.ownsRow base e size (.slice (some ⟨g, 0, none⟩) n cap) n (m ++ zs.drop j)) (hm : m.length = j) (hj : j + 2 < zs.length) :
    (((w.setCell ⟨g, j, none⟩ a).setCell ⟨g, j + 1, none⟩ b).setCell ⟨g, j + 2, none⟩ c).ownsRow base e size (.slice (some ⟨g, 0, none⟩) n cap) n (m ++ [a, b, c] ++ zs.drop (j + 3)) ∧
      w.grownBy (((w.setCell ⟨g, j, none⟩ a).setCell ⟨g, j + 1, none⟩ b).setCell ⟨g, j + 2, none⟩ c) (some g) := by
  obtain ⟨h1, g1⟩ := h.stored j a
  obtain ⟨h2, g2⟩ := h1.stored (j + 1) b
  obtain ⟨h3, g3⟩ := h2.stored (j + 2) c
  rw [set_three m zs j a b c hm hj] at h3
  exact ⟨h3, (g1.trans g2).trans g3⟩

set_option maxHeartbeats 600000 in
theorem szValS_any (w : World) (A : Option Addr) (c : Nat) (vs : List V) (hr : Reads w w.heap.size 3 A vs.length (valCells vs)) (hok : ∀ v ∈ vs, v.ok) (hl : vs.length ≤ maxLen) (left : Int) (h0 : 0 ≤ left) (h1 : left ≤ 1048576) :
    Calls Tryd.prog 40 #[.slice A vs.length c, .int .i64 left] w fun e w' => ∃ r : Int, e = .returned (.int .i64 r) ∧ SzPost r left (vs.length + letters vs) ∧ Below w.heap.size w w' := by
  unfold maxLen at hl
  have HOK := Lib.hid hok
  clear hok
  by_cases hn : left < vs.length
  · go_enter Tryd.func40, Tryd.ntmps40
    go_wp2
    go_ret
    exact ⟨-1, rfl, ⟨by omega, fun h => absurd h (by omega)⟩, Below.refl _ _⟩
  go_enter Tryd.func40, Tryd.ntmps40
  go_wp2
  go_loopw [1, 5] (fun q i wr => ∃ (k : Nat) (l : Int), i = .int .i64 k ∧ q = .int .i64 l ∧ k ≤ vs.length ∧ 0 ≤ l ∧ l ≤ left ∧ (vs.length : Int) + letters (vs.take k) + l ≤ left ∧ Below w.heap.size w wr) (fun _ i _ => vs.length - (intOf i).toNat)
  case atStart => exact ⟨0, left - vs.length, rfl, rfl, by omega, by omega, by omega, by simp [letters]; omega, Below.refl _ _⟩
  case round =>
    obtain ⟨k, l, rfl, rfl, hk, hl0, hll, hsum, hbl⟩ := hrel
    have HS := Lib.hid hsum
    clear hsum
    by_cases hlt : k < vs.length
    · obtain ⟨b, off, x, rfl, hb, hx, hc0, hc1, hc2⟩ := hr.v hlt
      have hxo : x.ok := HOK.out x (List.mem_of_getElem? hx.out)
      have hd0 : wr.cell? ⟨b, off + k * 3, none⟩ = some (.int .i64 x.ty) := (hbl.cell (p := ⟨b, off + k * 3, none⟩) hb).trans hc0
      have hd1 : wr.cell? ⟨b, off + k * 3 + 1, none⟩ = some (.int .i64 x.n) := (hbl.cell (p := ⟨b, off + k * 3 + 1, none⟩) hb).trans hc1
      have hd2 : wr.cell? ⟨b, off + k * 3 + 2, none⟩ = some (.string x.s) := (hbl.cell (p := ⟨b, off + k * 3 + 2, none⟩) hb).trans hc2
      clear hr hc0 hc1 hc2
      have hsn := Lib.hid (letters_snoc hx.out)
      go_wp2_with fail
      refine (szVal_any _ x hxo l hl0 (by omega)).mono ?_
      rintro e w1 ⟨rfl, hb1⟩
      have hbl1 := hbl.trans (hb1.mono hbl.size)
      clear hd0 hd1 hd2 hb1 hbl
      by_cases hneg : l - x.s.size < 0
      · rw [if_pos hneg]
        go_wp2
        go_ret
        exact ⟨-1, rfl, ⟨by omega, fun h => absurd h (by omega)⟩, hbl1⟩
      · rw [if_neg hneg]
        go_wp2
        go_roundw
        case rel => exact ⟨k + 1, _, by go_num, rfl, by omega, by omega, by omega, by have := HS.out; rw [hsn.out]; omega, hbl1⟩
        case measure => simp [intOf]; omega
    · have hkn : k = vs.length := by omega
      subst hkn
      go_wp2
      go_ret
      have := HS.out
      rw [List.take_of_length_le (Nat.le_refl _)] at this
      exact ⟨l, rfl, ⟨hll, fun _ => by omega⟩, hbl⟩

theorem info_Val : (Tryd.prog.info? 28).map (fun i => (i.zero, i.size, i.bytes)) = some (some (.agg #[.int .i64 0, .int .i64 0, .string ByteArray.empty]), 3, 32) := by kernel_rfl
set_option maxHeartbeats 600000 in
theorem toValS_any (w : World) (A : Option Addr) (c : Nat) (vs : List V) (hr : Reads w w.heap.size 3 A vs.length (valCells vs)) (hl : vs.length ≤ 1099511627776) :
    Calls Tryd.prog 41 #[.slice A vs.length c] w fun e w' => ∃ g, e = .returned (.slice (some ⟨g, 0, none⟩) vs.length vs.length) ∧
      w'.ownsRow w.heap.size 28 3 (.slice (some ⟨g, 0, none⟩) vs.length vs.length) vs.length (valCells vs) ∧ Below w.heap.size w w' := by
  obtain ⟨i0, hi0, hz0, hz1, hz2⟩ := info_parts info_Val
  go_enter Tryd.func41, Tryd.ntmps41
  go_wp2_with (at_make; refine wpList_make_full _ rfl _ _ 36 rfl w.heap.size 28 i0 _ 3 Tryd.underlying36 hi0 hz0 hz1 _ _ _ _ vs.length rfl rfl rfl rfl (by rw [hz2]; omega) (by unfold maxLen; omega) (Nat.le_refl _) ?_; intro w1 hown hg)
  obtain ⟨zs, hzs⟩ : ∃ zs, zs = (madeCells (Value.agg #[.int .i64 0, .int .i64 0, .string ByteArray.empty]).cells (vs.length * 3)).toList := ⟨_, rfl⟩
  rw [← hzs] at hown
  clear hzs
  have hzl : zs.length = vs.length * 3 := hown.1
  have HZ := Lib.hid hzl
  clear hzl
  have hbl : Below w.heap.size w w1 := (Below.refl _ _).grown hg (Nat.le_refl _) (fun k hk => by cases hk)
  clear hg
  go_loopw [4] (fun i wr => ∃ k : Nat, k ≤ vs.length ∧ i = .int .i64 k ∧ wr.ownsRow w.heap.size 28 3 (.slice (some ⟨w.heap.size, 0, none⟩) vs.length vs.length) vs.length (valCells (vs.take k) ++ zs.drop (k * 3)) ∧ Below w.heap.size w wr)
    (fun i _ => vs.length - (intOf i).toNat)
  case atStart => exact ⟨0, Nat.zero_le _, rfl, by simpa [valCells] using hown, hbl⟩
  case round =>
    obtain ⟨k, hk, rfl, hown, hbl⟩ := hrel
    by_cases hlt : k < vs.length
    · obtain ⟨b, off, x, rfl, hb, hx, hc0, hc1, hc2⟩ := hr.v hlt
      have hd0 : wr.cell? ⟨b, off + k * 3, none⟩ = some (.int .i64 x.ty) := (hbl.cell (p := ⟨b, off + k * 3, none⟩) hb).trans hc0
      have hd1 : wr.cell? ⟨b, off + k * 3 + 1, none⟩ = some (.int .i64 x.n) := (hbl.cell (p := ⟨b, off + k * 3 + 1, none⟩) hb).trans hc1
      have hd2 : wr.cell? ⟨b, off + k * 3 + 2, none⟩ = some (.string x.s) := (hbl.cell (p := ⟨b, off + k * 3 + 2, none⟩) hb).trans hc2
      clear hr hc0 hc1 hc2
      go_wp2_with fail
      refine (toVal_any _ x).mono ?_
      rintro e w2 ⟨rfl, hb2⟩
      have hbl2 := hbl.trans (hb2.mono hbl.size)
      have hown2 := own_step hown hb2
      clear hd0 hd1 hd2 hb2 hbl hown
      obtain ⟨u0, hw0⟩ := own_cell (j := k * 3) hown2 (by omega)
      obtain ⟨u1, hw1⟩ := own_cell (j := k * 3 + 1) hown2 (by omega)
      obtain ⟨u2, hw2⟩ := own_cell (j := k * 3 + 2) hown2 (by omega)
      have hf0 := hown2.frozenAt (k * 3)
      have hf1 := hown2.frozenAt (k * 3 + 1)
      have hf2 := hown2.frozenAt (k * 3 + 2)
      obtain ⟨hst, hgr⟩ := own_set3 (.int .i64 x.ty) (.int .i64 x.n) (.string x.s) hown2 (by rw [valCells_length, List.length_take]; omega) (by have := HZ.out; omega)
      rw [← valCells_snoc hx.out, show k * 3 + 3 = (k + 1) * 3 from by omega] at hst
      have hb3 := hbl2.grown hgr hbl2.size (fun q hq => by injection hq with hq; omega)
      clear hown2 hbl2 hgr
      go_wp2
      go_roundw
      case rel => exact ⟨k + 1, by omega, by go_num, hst, hb3⟩
      case measure => simp [intOf]; omega
    · have hkn : k = vs.length := by omega
      subst hkn
      go_wp2
      go_ret
      have := HZ.out
      rw [List.take_of_length_le (Nat.le_refl _), List.drop_of_length_le (by omega), List.append_nil] at hown
      exact ⟨w.heap.size, rfl, hown, hbl⟩

theorem eqVal_same (w : World) (v : V) :
    Calls Tryd.prog 28 #[v.val, v.val] w fun e w' => e = .returned (.bool true) ∧ Below w.heap.size w w' := by
  obtain ⟨ty, n, s⟩ := v
  show Calls Tryd.prog 28 #[.agg #[.int .i64 ty, .int .i64 n, .string s], .agg #[.int .i64 ty, .int .i64 n, .string s]] w _
  go_enter Tryd.func28, Tryd.ntmps28
  go_wp2
  go_ret
  exact ⟨rfl, by
      (repeat (first | exact Below.refl _ _ | refine Below.alloc0 ?_ _ | refine Below.setCell ?_ ?_ _)) <;> first | (simp; done) | (simp; omega)⟩

set_option maxHeartbeats 800000 in
theorem eqValS_same (w : World) (A A' : Option Addr) (c c' : Nat) (vs : List V) (hr : Reads w w.heap.size 3 A vs.length (valCells vs)) (hr' : Reads w w.heap.size 3 A' vs.length (valCells vs)) (hl : vs.length ≤ 1099511627776) :
    Calls Tryd.prog 43 #[.slice A vs.length c, .slice A' vs.length c'] w fun e w' => e = .returned (.bool true) ∧ Below w.heap.size w w' := by
  go_enter Tryd.func43, Tryd.ntmps43
  go_wp2
  go_loopw [5] (fun i wr => ∃ k : Nat, k ≤ vs.length ∧ i = .int .i64 k ∧ Below w.heap.size w wr) (fun i _ => vs.length - (intOf i).toNat)
  case atStart => exact ⟨0, Nat.zero_le _, rfl, Below.refl _ _⟩
  case round =>
    obtain ⟨k, hk, rfl, hbl⟩ := hrel
    by_cases hlt : k < vs.length
    · obtain ⟨b, off, x, rfl, hb, hx, hc0, hc1, hc2⟩ := hr.v hlt
      obtain ⟨b', off', x', rfl, hb', hx', hc0', hc1', hc2'⟩ := hr'.v hlt
      have hxx : x' = x := Option.some.inj (hx'.out.symm.trans hx.out)
      subst hxx
      have hd0 : wr.cell? ⟨b, off + k * 3, none⟩ = some (.int .i64 x'.ty) := (hbl.cell (p := ⟨b, off + k * 3, none⟩) hb).trans hc0
      have hd1 : wr.cell? ⟨b, off + k * 3 + 1, none⟩ = some (.int .i64 x'.n) := (hbl.cell (p := ⟨b, off + k * 3 + 1, none⟩) hb).trans hc1
      have hd2 : wr.cell? ⟨b, off + k * 3 + 2, none⟩ = some (.string x'.s) := (hbl.cell (p := ⟨b, off + k * 3 + 2, none⟩) hb).trans hc2
      have he0 : wr.cell? ⟨b', off' + k * 3, none⟩ = some (.int .i64 x'.ty) := (hbl.cell (p := ⟨b', off' + k * 3, none⟩) hb').trans hc0'
      have he1 : wr.cell? ⟨b', off' + k * 3 + 1, none⟩ = some (.int .i64 x'.n) := (hbl.cell (p := ⟨b', off' + k * 3 + 1, none⟩) hb').trans hc1'
      have he2 : wr.cell? ⟨b', off' + k * 3 + 2, none⟩ = some (.string x'.s) := (hbl.cell (p := ⟨b', off' + k * 3 + 2, none⟩) hb').trans hc2'
      clear hr hr' hc0 hc1 hc2 hc0' hc1' hc2'
      have hbw := hbl.size
      go_wp2_with fail
      go_still_tail 8, (by kernel_rfl)
      change wpList _ _ _ _ _ wr.drew
      have hbl2 := hbl.drew
      clear hbl hd0 hd1 hd2 he0 he1 he2
      generalize wr.drew = w2 at hbl2 ⊢
      go_wp2_with fail
      refine (eqVal_same _ x').mono ?_
      rintro e w3 ⟨rfl, hb3⟩
      have hbl3 := hbl2.trans (hb3.mono hbl2.size)
      clear hbl2 hb3
      go_wp2
      go_roundw
      case rel => exact ⟨k + 1, by omega, by go_num, hbl3⟩
      case measure => simp [intOf]; omega
    · go_wp2
      go_ret
      exact ⟨rfl, hbl⟩

def markVal (k n : Nat) : List V := (List.range n).map fun j => ⟨(k : Int) + ((j * 3 : Nat) : Int), (k : Int) + ((j * 3 : Nat) : Int) + 1, mt (k + j * 3 + 2)⟩
theorem markVal_length (k n : Nat) : (markVal k n).length = n := by simp [markVal]
theorem markVal_get (k n j : Nat) (h : j < n) : (markVal k n)[j]? = some ⟨(k : Int) + ((j * 3 : Nat) : Int), (k : Int) + ((j * 3 : Nat) : Int) + 1, mt (k + j * 3 + 2)⟩ := by
  simp only [markVal, List.getElem?_map, List.getElem?_range h, Option.map_some]
theorem markVal_snoc (k j : Nat) : valCells (markVal k (j + 1)) = valCells (markVal k j) ++ [.int .i64 ((k : Int) + ((j * 3 : Nat) : Int)), .int .i64 ((k : Int) + ((j * 3 : Nat) : Int) + 1), .string (mt (k + j * 3 + 2))] := by
  simp [valCells, markVal, List.range_succ, V.enc]



def markStr (k n : Nat) : List ByteArray := (List.range n).map fun j => mt (k + j)
theorem markStr_length (k n : Nat) : (markStr k n).length = n := by simp [markStr]
theorem markStr_get (k n j : Nat) (h : j < n) : (strCells (markStr k n))[j]? = some (.string (mt (k + j))) := by
  simp only [strCells, markStr, List.getElem?_map, List.getElem?_range h, Option.map_some]
theorem markStr_snoc (k j : Nat) : strCells (markStr k (j + 1)) = strCells (markStr k j) ++ [.string (mt (k + j))] := by
  simp only [strCells, markStr, List.range_succ, List.map_append, List.map_cons, List.map_nil]



end Go.Proofs.YtgpimlmolcjeoaaDoor
