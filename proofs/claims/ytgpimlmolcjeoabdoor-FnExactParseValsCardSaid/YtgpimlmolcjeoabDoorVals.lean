/-
  Contracts of the laws' helpers on slices of values: copies, counts, comparisons, marks.
-/
import Derived.Test.YtgpimlmolcjeoabDoorFlat
import Derived.Test.YtgpimlmolcjeoabDoorMt
import Derived.Test.YtgpimlmolcjeoabDoorVal
import Derived.Deep.RegionHeld3
import Derived.StillTailTactics
namespace Go.Proofs.YtgpimlmolcjeoabDoor
open Go.RowKit
set_option linter.unusedVariables false
set_option maxRecDepth 100000

def letters (vs : List V) : Nat := (vs.map fun v => v.s.size).sum
theorem letters_snoc {vs : List V} {k : Nat} {x : V} (h : vs[k]? = some x) : letters (vs.take (k + 1)) = letters (vs.take k) + x.s.size := by
  unfold letters
  rw [List.take_add_one, h]
  simp
theorem letters_le (vs : List V) (k : Nat) : letters (vs.take k) ≤ letters vs := by
  have h : letters vs = letters (vs.take k) + letters (vs.drop k) := by
    unfold letters
    rw [← List.sum_append, ← List.map_append, List.take_append_drop]
  omega
def SzPost (r left : Int) (total : Nat) : Prop := r ≤ left ∧ (0 ≤ r → (total : Int) + r ≤ left)

theorem valCells_length (vs : List V) : (valCells vs).length = vs.length * 3 := flatMap_length_u _ 3 (fun _ => rfl) _
theorem valCells_snoc {vs : List V} {k : Nat} {x : V} (h : vs[k]? = some x) : valCells (vs.take (k + 1)) = valCells (vs.take k) ++ [.int .i64 x.ty, .int .i64 x.n, .string x.s] := by
  unfold valCells
  rw [List.take_add_one, h]
  simp [V.enc]
theorem set_three (m zs : List Value) (j : Nat) (a b c : Value) (hm : m.length = j) (hj : j + 2 < zs.length) :
    (((m ++ zs.drop j).set j a).set (j + 1) b).set (j + 2) c = m ++ [a, b, c] ++ zs.drop (j + 3) := by
  rw [set_at m zs j a hm (by omega), set_at (m ++ [a]) zs (j + 1) b (by simp [hm]) (by omega), set_at (m ++ [a] ++ [b]) zs (j + 2) c (by simp [hm]) (by omega)]
  simp
theorem own_set3 {w : World} {base g n cap : Nat} {e : TypeId} {size : Nat} {m zs : List Value} {j : Nat} (a b c : Value) (h : w.ownsRow base e size (.slice (some ⟨g, 0, none⟩) n cap) n (m ++ zs.drop j)) (hm : m.length = j) (hj : j + 2 < zs.length) :
    (((w.setCell ⟨g, j, none⟩ a).setCell ⟨g, j + 1, none⟩ b).setCell ⟨g, j + 2, none⟩ c).ownsRow base e size (.slice (some ⟨g, 0, none⟩) n cap) n (m ++ [a, b, c] ++ zs.drop (j + 3)) ∧
      w.grownBy (((w.setCell ⟨g, j, none⟩ a).setCell ⟨g, j + 1, none⟩ b).setCell ⟨g, j + 2, none⟩ c) (some g) := by
  obtain ⟨h1, g1⟩ := h.stored j a
  obtain ⟨h2, g2⟩ := h1.stored (j + 1) b
  obtain ⟨h3, g3⟩ := h2.stored (j + 2) c
  rw [set_three m zs j a b c hm hj] at h3
  exact ⟨h3, (g1.trans g2).trans g3⟩


theorem info_Val : (Tryd.prog.info? 31).map (fun i => (i.zero, i.size, i.bytes)) = some (some (.agg #[.int .i64 0, .int .i64 0, .string ByteArray.empty]), 3, 32) := by kernel_rfl

theorem eqVal_same (w : World) (v : V) :
    Calls Tryd.prog 13 #[v.val, v.val] w fun e w' => e = .returned (.bool true) ∧ Below w.heap.size w w' := by
  obtain ⟨ty, n, s⟩ := v
  show Calls Tryd.prog 13 #[.agg #[.int .i64 ty, .int .i64 n, .string s], .agg #[.int .i64 ty, .int .i64 n, .string s]] w _
  go_enter Tryd.func13, Tryd.ntmps13
  go_wp2
  go_ret
  exact ⟨rfl, by
      (repeat (first | exact Below.refl _ _ | refine Below.alloc0 ?_ _ | refine Below.setCell ?_ ?_ _)) <;> first | (simp; done) | (simp; omega)⟩

set_option maxHeartbeats 800000 in
theorem eqValS_same (w : World) (A A' : Option Addr) (c c' : Nat) (vs : List V) (hr : Reads w w.heap.size 3 A vs.length (valCells vs)) (hr' : Reads w w.heap.size 3 A' vs.length (valCells vs)) (hl : vs.length ≤ 1099511627776) :
    Calls Tryd.prog 6 #[.slice A vs.length c, .slice A' vs.length c'] w fun e w' => e = .returned (.bool true) ∧ Below w.heap.size w w' := by
  go_enter Tryd.func6, Tryd.ntmps6
  go_wp2
  go_loopw [5] (fun i wr => ∃ k : Nat, k ≤ vs.length ∧ i = .int .i64 k ∧ Below w.heap.size w wr) (fun i _ => vs.length - (intOf i).toNat)
  case atStart => exact ⟨0, Nat.zero_le _, rfl, Below.refl _ _⟩
  case round =>
    obtain ⟨k, hk, rfl, hbl⟩ := hrel
    by_cases hlt : k < vs.length
    · obtain ⟨b, off, x, rfl, hb, hx, hc0, hc1, hc2⟩ := hr.v hlt
      obtain ⟨b', off', x', rfl, hb', hx', hc0', hc1', hc2'⟩ := hr'.v hlt
      have hxx : x' = x := Option.some.inj (hx'.out.symm.trans hx.out)
      subst hxx
      have hd0 : wr.cell? ⟨b, off + k * 3, none⟩ = some (.int .i64 x'.ty) := (hbl.cell (p := ⟨b, off + k * 3, none⟩) hb).trans hc0
      have hd1 : wr.cell? ⟨b, off + k * 3 + 1, none⟩ = some (.int .i64 x'.n) := (hbl.cell (p := ⟨b, off + k * 3 + 1, none⟩) hb).trans hc1
      have hd2 : wr.cell? ⟨b, off + k * 3 + 2, none⟩ = some (.string x'.s) := (hbl.cell (p := ⟨b, off + k * 3 + 2, none⟩) hb).trans hc2
      have he0 : wr.cell? ⟨b', off' + k * 3, none⟩ = some (.int .i64 x'.ty) := (hbl.cell (p := ⟨b', off' + k * 3, none⟩) hb').trans hc0'
      have he1 : wr.cell? ⟨b', off' + k * 3 + 1, none⟩ = some (.int .i64 x'.n) := (hbl.cell (p := ⟨b', off' + k * 3 + 1, none⟩) hb').trans hc1'
      have he2 : wr.cell? ⟨b', off' + k * 3 + 2, none⟩ = some (.string x'.s) := (hbl.cell (p := ⟨b', off' + k * 3 + 2, none⟩) hb').trans hc2'
      clear hr hr' hc0 hc1 hc2 hc0' hc1' hc2'
      have hbw := hbl.size
      go_wp2_with fail
      go_still_tail 8, (by kernel_rfl)
      change wpList _ _ _ _ _ wr.drew
      have hbl2 := hbl.drew
      clear hbl hd0 hd1 hd2 he0 he1 he2
      generalize wr.drew = w2 at hbl2 ⊢
      go_wp2_with fail
      refine (eqVal_same _ x').mono ?_
      rintro e w3 ⟨rfl, hb3⟩
      have hbl3 := hbl2.trans (hb3.mono hbl2.size)
      clear hbl2 hb3
      go_wp2
      go_roundw
      case rel => exact ⟨k + 1, by omega, by go_num, hbl3⟩
      case measure => simp [intOf]; omega
    · go_wp2
      go_ret
      exact ⟨rfl, hbl⟩

def markVal (k n : Nat) : List V := (List.range n).map fun j => ⟨(k : Int) + ((j * 3 : Nat) : Int), (k : Int) + ((j * 3 : Nat) : Int) + 1, mt (k + j * 3 + 2)⟩
theorem markVal_length (k n : Nat) : (markVal k n).length = n := by simp [markVal]
theorem markVal_get (k n j : Nat) (h : j < n) : (markVal k n)[j]? = some ⟨(k : Int) + ((j * 3 : Nat) : Int), (k : Int) + ((j * 3 : Nat) : Int) + 1, mt (k + j * 3 + 2)⟩ := by
  simp only [markVal, List.getElem?_map, List.getElem?_range h, Option.map_some]
theorem markVal_snoc (k j : Nat) : valCells (markVal k (j + 1)) = valCells (markVal k j) ++ [.int .i64 ((k : Int) + ((j * 3 : Nat) : Int)), .int .i64 ((k : Int) + ((j * 3 : Nat) : Int) + 1), .string (mt (k + j * 3 + 2))] := by
  simp [valCells, markVal, List.range_succ, V.enc]

set_option maxHeartbeats 800000 in
theorem markValS_any (w : World) (base n c : Nat) (A : Option Addr) (xs : List Value) (q : Int) (k : Nat) (hq : q = (k : Int)) (hk : k + 3 * n ≤ 1099511627776) (hown : w.ownsRow base 31 3 (.slice A n c) n xs) (hB : base ≤ w.heap.size) :
    Calls Tryd.prog 7 #[.slice A n c, .int .i64 q] w fun e w' => e = .returned (.int .i64 ((k + n * 3 : Nat) : Int)) ∧ w'.ownsRow base 31 3 (.slice A n c) n (valCells (markVal k n)) ∧ w.grownBy w' (Value.slice A n c).ownBlock := by
  have HX := Lib.hid hown.1
  subst hq
  go_enter Tryd.func7, Tryd.ntmps7
  go_wp2
  go_loopw [1, 5] (fun q i wr => ∃ j : Nat, j ≤ n ∧ i = .int .i64 j ∧ q = .int .i64 ((k + j * 3 : Nat) : Int) ∧ wr.ownsRow base 31 3 (.slice A n c) n (valCells (markVal k j) ++ xs.drop (j * 3)) ∧ w.grownBy wr (Value.slice A n c).ownBlock)
    (fun _ i _ => n - (intOf i).toNat)
  case atStart => exact ⟨0, Nat.zero_le _, rfl, rfl, by simpa [markVal, valCells] using hown, World.grownBy.refl _ _⟩
  case round =>
    obtain ⟨j, hj, rfl, rfl, hown, hbl⟩ := hrel
    by_cases hlt : j < n
    · obtain ⟨g, cap, hv, hg, hgl⟩ := hown.form (by omega)
      obtain ⟨rfl, rfl⟩ : A = some ⟨g, 0, none⟩ ∧ c = cap := by injection hv with h1 h2 h3; exact ⟨h1, h3⟩
      clear hv
      obtain ⟨u0, hw0⟩ := own_cell (j := j * 3) hown (by omega)
      obtain ⟨u1, hw1⟩ := own_cell (j := j * 3 + 1) hown (by omega)
      have hf0 := hown.frozenAt (j * 3)
      have hf1 := hown.frozenAt (j * 3 + 1)
      obtain ⟨h1, g1⟩ := hown.stored (j * 3) (.int .i64 ((k : Int) + (j : Int) * 3))
      obtain ⟨h2, g2⟩ := h1.stored (j * 3 + 1) (.int .i64 ((k : Int) + (j : Int) * 3 + 1))
      have hgr := hbl.trans (g1.trans g2)
      clear hown h1 g1 g2 hbl
      go_wp2_with fail
      refine (markText_int _ _ (k + j * 3 + 2) (by omega) (by omega)).mono ?_
      rintro e w2 ⟨rfl, hb2⟩
      have h3 := own_step h2 hb2
      have hgr2 := hgr.trans (Below.to_grown hb2 _)
      clear h2 hgr hb2 hw0 hw1 hf0 hf1
      obtain ⟨u2, hw2⟩ := own_cell (j := j * 3 + 2) h3 (by omega)
      have hf2 := h3.frozenAt (j * 3 + 2)
      obtain ⟨h4, g4⟩ := h3.stored (j * 3 + 2) (.string (mt (k + j * 3 + 2)))
      have hgr3 := hgr2.trans g4
      rw [set_three _ _ _ _ _ _ (by rw [valCells_length, markVal_length]) (by have := HX.out; omega)] at h4
      have e3 : ((k : Int) + (j : Int) * 3) = (k : Int) + ((j * 3 : Nat) : Int) := by omega
      rw [e3, ← markVal_snoc, show j * 3 + 3 = (j + 1) * 3 from by omega] at h4
      clear e3 h3 hgr2 g4
      go_wp2
      go_roundw
      case rel => exact ⟨j + 1, by omega, by go_num, by go_num, h4, hgr3⟩
      case measure => simp [intOf]; omega
    · have hkn : j = n := by omega
      subst hkn
      go_wp2
      go_ret
      have := HX.out
      rw [List.drop_of_length_le (by omega), List.append_nil] at hown
      exact ⟨rfl, hown, hbl⟩

set_option maxHeartbeats 1600000 in
theorem heldValS_any (w : World) (n c : Nat) (A : Option Addr) (q : Int) (k : Nat) (hq : q = (k : Int)) (hk : k + 3 * n ≤ 1099511627776) (hr : Reads w w.heap.size 3 A n (valCells (markVal k n))) :
    Calls Tryd.prog 8 #[.slice A n c, .int .i64 q] w fun e w' => e = .returned (.int .i64 ((k + n * 3 : Nat) : Int)) ∧ Below w.heap.size w w' := by
  subst hq
  go_enter Tryd.func8, Tryd.ntmps8
  go_wp2
  go_loopw [1, 5] (fun q i wr => ∃ j : Nat, j ≤ n ∧ i = .int .i64 j ∧ q = .int .i64 ((k + j * 3 : Nat) : Int) ∧ Below w.heap.size w wr)
    (fun _ i _ => n - (intOf i).toNat)
  case atStart => exact ⟨0, Nat.zero_le _, rfl, rfl, Below.refl _ _⟩
  case round =>
    obtain ⟨j, hj, rfl, rfl, hbl⟩ := hrel
    by_cases hlt : j < n
    · obtain ⟨b, off, x, rfl, hb, hx, hc0, hc1, hc2⟩ := Reads.v (xs := markVal k n) (by rw [markVal_length]; exact hr) (by rw [markVal_length]; exact hlt)
      have hxx := Option.some.inj (hx.out.symm.trans (markVal_get k n j hlt))
      subst hxx
      have hd0 : wr.cell? ⟨b, off + j * 3, none⟩ = some (.int .i64 ((k : Int) + ((j * 3 : Nat) : Int))) := (hbl.cell (p := ⟨b, off + j * 3, none⟩) hb).trans hc0
      have hd1 : wr.cell? ⟨b, off + j * 3 + 1, none⟩ = some (.int .i64 ((k : Int) + ((j * 3 : Nat) : Int) + 1)) := (hbl.cell (p := ⟨b, off + j * 3 + 1, none⟩) hb).trans hc1
      have hd2 : wr.cell? ⟨b, off + j * 3 + 2, none⟩ = some (.string (mt (k + j * 3 + 2))) := (hbl.cell (p := ⟨b, off + j * 3 + 2, none⟩) hb).trans hc2
      clear hr hc0 hc1 hc2 hx
      go_wp2_with fail
      go_region_held3 (fun w' => w'.cell? ⟨b, off + j * 3 + 2, none⟩ = some (.string (mt (k + j * 3 + 2))) ∧ Below w.heap.size w w')
        (first
          | (exact ⟨hd2, hbl.drew⟩)
          | go_keep
          | (go_split_ands
             refine ⟨cell_keep hb2 (by assumption), Below.trans (by assumption) (hb2.mono (Below.size (by assumption)))⟩))
        (first | (go_at_call 14; refine (markText_int _ _ (k + j * 3 + 2) (by omega) (by omega)).mono ?_; rintro e w2 ⟨rfl, hb2⟩))
      have hbl2 : Below w.heap.size w w2 := (show _ ∧ Below w.heap.size w w2 by assumption).2
      clear hd0 hd1 hd2 hbl hb2
      go_wp2
      go_roundw
      case rel => exact ⟨j + 1, by omega, by go_num, by go_num, hbl2⟩
      case measure => simp [intOf]; omega
    · have hkn : j = n := by omega
      subst hkn
      go_wp2
      go_ret
      exact ⟨rfl, hbl⟩

def markStr (k n : Nat) : List ByteArray := (List.range n).map fun j => mt (k + j)
theorem markStr_length (k n : Nat) : (markStr k n).length = n := by simp [markStr]
theorem markStr_get (k n j : Nat) (h : j < n) : (strCells (markStr k n))[j]? = some (.string (mt (k + j))) := by
  simp only [strCells, markStr, List.getElem?_map, List.getElem?_range h, Option.map_some]
theorem markStr_snoc (k j : Nat) : strCells (markStr k (j + 1)) = strCells (markStr k j) ++ [.string (mt (k + j))] := by
  simp only [strCells, markStr, List.range_succ, List.map_append, List.map_cons, List.map_nil]



end Go.Proofs.YtgpimlmolcjeoabDoor
