/-
  Contracts of the laws' helpers on runs: toRun copies, szRun counts letters, eqRun compares, markRunS and heldRunS lay marks and look for them.
-/
import Derived.Test.YtckfogpjljbelaaVals
import Derived.Test.YtckfogpjljbelaaRuns
namespace Go.Proofs.Ytckfogpjljbelaa
open Go.RowKit
set_option linter.unusedVariables false
set_option maxRecDepth 100000

theorem set_four (m zs : List Value) (j : Nat) (a b c d : Value) (hm : m.length = j) (hj : j + 3 < zs.length) :
    ((((m ++ zs.drop j).set j a).set (j + 1) b).set (j + 2) c).set (j + 3) d = m ++ [a, b, c, d] ++ zs.drop (j + 4) := by
  rw [set_three m zs j a b c hm (by omega), set_at (m ++ [a, b, c]) zs (j + 3) d (by simp [hm]) (by omega)]
  simp
theorem own_set4 {w : World} {base g n cap : Nat} {e : TypeId} {size : Nat} {m zs : List Value} {j : Nat} (a b c d : Value) (h : w.ownsRow base e size (.slice (some ⟨g, 0, none⟩) n cap) n (m ++ zs.drop j)) (hm : m.length = j) (hj : j + 3 < zs.length) :
    ((((w.setCell ⟨g, j, none⟩ a).setCell ⟨g, j + 1, none⟩ b).setCell ⟨g, j + 2, none⟩ c).setCell ⟨g, j + 3, none⟩ d).ownsRow base e size (.slice (some ⟨g, 0, none⟩) n cap) n (m ++ [a, b, c, d] ++ zs.drop (j + 4)) ∧
      w.grownBy ((((w.setCell ⟨g, j, none⟩ a).setCell ⟨g, j + 1, none⟩ b).setCell ⟨g, j + 2, none⟩ c).setCell ⟨g, j + 3, none⟩ d) (some g) := by
  obtain ⟨h1, g1⟩ := h.stored j a
  obtain ⟨h2, g2⟩ := h1.stored (j + 1) b
  obtain ⟨h3, g3⟩ := h2.stored (j + 2) c
  obtain ⟨h4, g4⟩ := h3.stored (j + 3) d
  rw [set_four m zs j a b c d hm hj] at h4
  exact ⟨h4, ((g1.trans g2).trans g3).trans g4⟩
theorem runCells_take {rs : List (V × Int)} {k : Nat} {x : V} {q : Int} (h : rs[k]? = some (x, q)) : runCells (rs.take (k + 1)) = runCells (rs.take k) ++ [.int .i64 x.ty, .int .i64 x.n, .string x.s, .int .i64 q] := by
  unfold runCells
  rw [List.take_add_one, h]
  simp [runEnc]
def lettersR (rs : List (V × Int)) : Nat := (rs.map fun r => r.1.s.size).sum
theorem lettersR_snoc {rs : List (V × Int)} {k : Nat} {x : V} {q : Int} (h : rs[k]? = some (x, q)) : lettersR (rs.take (k + 1)) = lettersR (rs.take k) + x.s.size := by
  unfold lettersR
  rw [List.take_add_one, h]
  simp

theorem eqRun_same (w : World) (x : V) (q : Int) :
    Calls Try.prog 77 #[.agg #[.int .i64 x.ty, .int .i64 x.n, .string x.s, .int .i64 q], .agg #[.int .i64 x.ty, .int .i64 x.n, .string x.s, .int .i64 q]] w fun e w' => e = .returned (.bool true) ∧ Below w.heap.size w w' := by
  go_enter Try.func77, Try.ntmps77
  go_wp2_with fail
  refine (eqVal_same _ x).mono ?_
  rintro e w1 ⟨rfl, hb1⟩
  have hb0 : Below w.heap.size w ((w.alloc (.cells #[.int .i64 x.ty, .int .i64 x.n, .string x.s, .int .i64 q] 88)).alloc (.cells #[.int .i64 x.ty, .int .i64 x.n, .string x.s, .int .i64 q] 88)) := Below.alloc0 (Below.alloc0 (Below.refl _ _) _) _
  obtain ⟨W, hW⟩ : ∃ W, W = (w.alloc (.cells #[.int .i64 x.ty, .int .i64 x.n, .string x.s, .int .i64 q] 88)).alloc (.cells #[.int .i64 x.ty, .int .i64 x.n, .string x.s, .int .i64 q] 88) := ⟨_, rfl⟩
  have e3 : W.cell? ⟨w.heap.size, 3, none⟩ = some (.int .i64 q) := by rw [hW]; simp [go_sem]
  have e4 : W.cell? ⟨w.heap.size + 1, 3, none⟩ = some (.int .i64 q) := by rw [hW]; simp [go_sem]
  rw [← hW] at hb0 hb1
  replace e3 := cell_keep hb1 e3
  replace e4 := cell_keep hb1 e4
  have hbl := hb0.trans (hb1.mono hb0.size)
  clear hb0 hb1 hW
  go_wp2
  go_ret
  exact ⟨rfl, hbl⟩
set_option maxHeartbeats 800000 in
theorem eqRunS_same (w : World) (A A' : Option Addr) (c c' : Nat) (vs : List (V × Int)) (hr : Reads w w.heap.size 4 A vs.length (runCells vs)) (hr' : Reads w w.heap.size 4 A' vs.length (runCells vs)) (hl : vs.length ≤ 1099511627776) :
    Calls Try.prog 40 #[.slice A vs.length c, .slice A' vs.length c'] w fun e w' => e = .returned (.bool true) ∧ Below w.heap.size w w' := by
  go_enter Try.func40, Try.ntmps40
  go_wp2
  go_loopw [5] (fun i wr => ∃ k : Nat, k ≤ vs.length ∧ i = .int .i64 k ∧ Below w.heap.size w wr) (fun i _ => vs.length - (intOf i).toNat)
  case atStart => exact ⟨0, Nat.zero_le _, rfl, Below.refl _ _⟩
  case round =>
    obtain ⟨k, hk, rfl, hbl⟩ := hrel
    by_cases hlt : k < vs.length
    · obtain ⟨b, off, x, q, rfl, hb, hx, hc0, hc1, hc2, hc3⟩ := hr.run hlt
      obtain ⟨b', off', x', q', rfl, hb', hx', hc0', hc1', hc2', hc3'⟩ := hr'.run hlt
      have hxx := Option.some.inj (hx'.out.symm.trans hx.out)
      obtain ⟨rfl, rfl⟩ : x' = x ∧ q' = q := by injection hxx with h1 h2; exact ⟨h1, h2⟩
      have hd0 : wr.cell? ⟨b, off + k * 4, none⟩ = some (.int .i64 x'.ty) := (hbl.cell (p := ⟨b, off + k * 4, none⟩) hb).trans hc0
      have hd1 : wr.cell? ⟨b, off + k * 4 + 1, none⟩ = some (.int .i64 x'.n) := (hbl.cell (p := ⟨b, off + k * 4 + 1, none⟩) hb).trans hc1
      have hd2 : wr.cell? ⟨b, off + k * 4 + 2, none⟩ = some (.string x'.s) := (hbl.cell (p := ⟨b, off + k * 4 + 2, none⟩) hb).trans hc2
      have hd3 : wr.cell? ⟨b, off + k * 4 + 3, none⟩ = some (.int .i64 q') := (hbl.cell (p := ⟨b, off + k * 4 + 3, none⟩) hb).trans hc3
      have he0 : wr.cell? ⟨b', off' + k * 4, none⟩ = some (.int .i64 x'.ty) := (hbl.cell (p := ⟨b', off' + k * 4, none⟩) hb').trans hc0'
      have he1 : wr.cell? ⟨b', off' + k * 4 + 1, none⟩ = some (.int .i64 x'.n) := (hbl.cell (p := ⟨b', off' + k * 4 + 1, none⟩) hb').trans hc1'
      have he2 : wr.cell? ⟨b', off' + k * 4 + 2, none⟩ = some (.string x'.s) := (hbl.cell (p := ⟨b', off' + k * 4 + 2, none⟩) hb').trans hc2'
      have he3 : wr.cell? ⟨b', off' + k * 4 + 3, none⟩ = some (.int .i64 q') := (hbl.cell (p := ⟨b', off' + k * 4 + 3, none⟩) hb').trans hc3'
      clear hr hr' hc0 hc1 hc2 hc3 hc0' hc1' hc2' hc3'
      have hbw := hbl.size
      go_wp2_with fail
      go_still_tail 8, (by kernel_rfl)
      change wpList _ _ _ _ _ wr.drew
      have hbl2 := hbl.drew
      clear hbl hd0 hd1 hd2 hd3 he0 he1 he2 he3
      generalize wr.drew = w2 at hbl2 ⊢
      go_wp2_with fail
      refine (eqRun_same _ x' q').mono ?_
      rintro e w3 ⟨rfl, hb3⟩
      have hbl3 := hbl2.trans (hb3.mono hbl2.size)
      clear hbl2 hb3
      go_wp2
      go_roundw
      case rel => exact ⟨k + 1, by omega, by go_num, hbl3⟩
      case measure => simp [intOf]; omega
    · go_wp2
      go_ret
      exact ⟨rfl, hbl⟩

def markRun (k n : Nat) : List (V × Int) := (List.range n).map fun j => (⟨(k : Int) + ((j * 4 : Nat) : Int), (k : Int) + ((j * 4 : Nat) : Int) + 1, mt (k + j * 4 + 2)⟩, (k : Int) + ((j * 4 : Nat) : Int) + 3)
theorem markRun_length (k n : Nat) : (markRun k n).length = n := by simp [markRun]
theorem markRun_get (k n j : Nat) (h : j < n) : (markRun k n)[j]? = some (⟨(k : Int) + ((j * 4 : Nat) : Int), (k : Int) + ((j * 4 : Nat) : Int) + 1, mt (k + j * 4 + 2)⟩, (k : Int) + ((j * 4 : Nat) : Int) + 3) := by
  simp only [markRun, List.getElem?_map, List.getElem?_range h, Option.map_some]
theorem markRun_snoc (k j : Nat) : runCells (markRun k (j + 1)) = runCells (markRun k j) ++ [.int .i64 ((k : Int) + ((j * 4 : Nat) : Int)), .int .i64 ((k : Int) + ((j * 4 : Nat) : Int) + 1), .string (mt (k + j * 4 + 2)), .int .i64 ((k : Int) + ((j * 4 : Nat) : Int) + 3)] := by
  simp [runCells, markRun, List.range_succ, runEnc]

set_option maxHeartbeats 800000 in
theorem markRunS_any (w : World) (base n c : Nat) (A : Option Addr) (xs : List Value) (q : Int) (k : Nat) (hq : q = (k : Int)) (hk : k + 4 * n ≤ 1099511627776) (hown : w.ownsRow base 88 4 (.slice A n c) n xs) (hB : base ≤ w.heap.size) :
    Calls Try.prog 41 #[.slice A n c, .int .i64 q] w fun e w' => e = .returned (.int .i64 ((k + n * 4 : Nat) : Int)) ∧ w'.ownsRow base 88 4 (.slice A n c) n (runCells (markRun k n)) ∧ w.grownBy w' (Value.slice A n c).ownBlock := by
  have HX := Lib.hid hown.1
  subst hq
  go_enter Try.func41, Try.ntmps41
  go_wp2
  go_loopw [1, 5] (fun q i wr => ∃ j : Nat, j ≤ n ∧ i = .int .i64 j ∧ q = .int .i64 ((k + j * 4 : Nat) : Int) ∧ wr.ownsRow base 88 4 (.slice A n c) n (runCells (markRun k j) ++ xs.drop (j * 4)) ∧ w.grownBy wr (Value.slice A n c).ownBlock)
    (fun _ i _ => n - (intOf i).toNat)
  case atStart => exact ⟨0, Nat.zero_le _, rfl, rfl, by simpa [markRun, runCells] using hown, World.grownBy.refl _ _⟩
  case round =>
    obtain ⟨j, hj, rfl, rfl, hown, hbl⟩ := hrel
    by_cases hlt : j < n
    · obtain ⟨g, cap, hv, hg, hgl⟩ := hown.form (by omega)
      obtain ⟨rfl, rfl⟩ : A = some ⟨g, 0, none⟩ ∧ c = cap := by injection hv with h1 h2 h3; exact ⟨h1, h3⟩
      clear hv
      obtain ⟨u0, hw0⟩ := own_cell (j := j * 4) hown (by omega)
      obtain ⟨u1, hw1⟩ := own_cell (j := j * 4 + 1) hown (by omega)
      have hf0 := hown.frozenAt (j * 4)
      have hf1 := hown.frozenAt (j * 4 + 1)
      obtain ⟨h1, g1⟩ := hown.stored (j * 4) (.int .i64 ((k : Int) + (j : Int) * 4))
      obtain ⟨h2, g2⟩ := h1.stored (j * 4 + 1) (.int .i64 ((k : Int) + (j : Int) * 4 + 1))
      have hgr := hbl.trans (g1.trans g2)
      clear hown h1 g1 g2 hbl
      go_wp2_with fail
      refine (markText_int _ _ (k + j * 4 + 2) (by omega) (by omega)).mono ?_
      rintro e w2 ⟨rfl, hb2⟩
      have h3 := own_step h2 hb2
      have hgr2 := hgr.trans (Below.to_grown hb2 _)
      clear h2 hgr hb2 hw0 hw1 hf0 hf1
      obtain ⟨u2, hw2⟩ := own_cell (j := j * 4 + 2) h3 (by omega)
      have hf2 := h3.frozenAt (j * 4 + 2)
      obtain ⟨u3, hw3⟩ := own_cell (j := j * 4 + 3) h3 (by omega)
      have hf3 := h3.frozenAt (j * 4 + 3)
      obtain ⟨h4, g4⟩ := h3.stored (j * 4 + 2) (.string (mt (k + j * 4 + 2)))
      obtain ⟨h5, g5⟩ := h4.stored (j * 4 + 3) (.int .i64 ((k : Int) + ((j * 4 : Nat) : Int) + 1 + 1 + 1))
      have hgr3 := hgr2.trans (g4.trans g5)
      rw [set_four _ _ _ _ _ _ _ (by rw [runCells_len, markRun_length]) (by have := HX.out; omega)] at h5
      have e3 : ((k : Int) + (j : Int) * 4) = (k : Int) + ((j * 4 : Nat) : Int) := by omega
      have e4 : (k : Int) + ((j * 4 : Nat) : Int) + 1 + 1 + 1 = (k : Int) + ((j * 4 : Nat) : Int) + 3 := by omega
      obtain ⟨z, hz⟩ : ∃ z, z = (k : Int) + ((j * 4 : Nat) : Int) + 1 + 1 + 1 := ⟨_, rfl⟩
      rw [← hz] at h5 hgr3
      have h6 := h5
      rw [e3, hz, e4, ← markRun_snoc, show j * 4 + 4 = (j + 1) * 4 from by omega, ← e4, ← hz] at h6
      rw [hz] at h6 hgr3
      clear h3 hgr2 g4 g5 h4 h5 e3 e4 hz
      go_wp2
      go_roundw
      case rel => exact ⟨j + 1, by omega, by go_num, by go_num, h6, hgr3⟩
      case measure => simp [intOf]; omega
    · have hkn : j = n := by omega
      subst hkn
      go_wp2
      go_ret
      have := HX.out
      rw [List.drop_of_length_le (by omega), List.append_nil] at hown
      exact ⟨rfl, hown, hbl⟩

set_option maxHeartbeats 1600000 in
theorem heldRunS_any (w : World) (n c : Nat) (A : Option Addr) (q : Int) (k : Nat) (hq : q = (k : Int)) (hk : k + 4 * n ≤ 1099511627776) (hr : Reads w w.heap.size 4 A n (runCells (markRun k n))) :
    Calls Try.prog 42 #[.slice A n c, .int .i64 q] w fun e w' => e = .returned (.int .i64 ((k + n * 4 : Nat) : Int)) ∧ Below w.heap.size w w' := by
  subst hq
  go_enter Try.func42, Try.ntmps42
  go_wp2
  go_loopw [1, 5] (fun q i wr => ∃ j : Nat, j ≤ n ∧ i = .int .i64 j ∧ q = .int .i64 ((k + j * 4 : Nat) : Int) ∧ Below w.heap.size w wr)
    (fun _ i _ => n - (intOf i).toNat)
  case atStart => exact ⟨0, Nat.zero_le _, rfl, rfl, Below.refl _ _⟩
  case round =>
    obtain ⟨j, hj, rfl, rfl, hbl⟩ := hrel
    by_cases hlt : j < n
    · obtain ⟨b, off, x, q, rfl, hb, hx, hc0, hc1, hc2, hc3⟩ := Reads.run (xs := markRun k n) (by rw [markRun_length]; exact hr) (by rw [markRun_length]; exact hlt)
      have hxx := Option.some.inj (hx.out.symm.trans (markRun_get k n j hlt))
      obtain ⟨rfl, rfl⟩ : x = _ ∧ q = _ := by injection hxx with h1 h2; exact ⟨h1, h2⟩
      have hd0 : wr.cell? ⟨b, off + j * 4, none⟩ = some (.int .i64 ((k : Int) + ((j * 4 : Nat) : Int))) := (hbl.cell (p := ⟨b, off + j * 4, none⟩) hb).trans hc0
      have hd1 : wr.cell? ⟨b, off + j * 4 + 1, none⟩ = some (.int .i64 ((k : Int) + ((j * 4 : Nat) : Int) + 1)) := (hbl.cell (p := ⟨b, off + j * 4 + 1, none⟩) hb).trans hc1
      have hd2 : wr.cell? ⟨b, off + j * 4 + 2, none⟩ = some (.string (mt (k + j * 4 + 2))) := (hbl.cell (p := ⟨b, off + j * 4 + 2, none⟩) hb).trans hc2
      clear hr hc0 hc1 hc2 hx hxx
      go_wp2_with fail
      go_region_held3 (fun w' => w'.cell? ⟨b, off + j * 4 + 2, none⟩ = some (.string (mt (k + j * 4 + 2))) ∧ Below w.heap.size w w')
        (first
          | (exact ⟨hd2, hbl.drew⟩)
          | go_keep
          | (go_split_ands
             refine ⟨cell_keep hb2 (by assumption), Below.trans (by assumption) (hb2.mono (Below.size (by assumption)))⟩))
        (first | (go_at_call 74; refine (markText_int _ _ (k + j * 4 + 2) (by omega) (by omega)).mono ?_; rintro e w2 ⟨rfl, hb2⟩))
      have hbl2 : Below w.heap.size w w2 := (show _ ∧ Below w.heap.size w w2 by assumption).2
      have hd3b : w2.cell? ⟨b, off + j * 4 + 3, none⟩ = some (.int .i64 ((k : Int) + ((j * 4 : Nat) : Int) + 1 + 1 + 1)) := ((hbl2.cell (p := ⟨b, off + j * 4 + 3, none⟩) hb).trans hc3).trans (by congr 2 <;> omega)
      clear hd0 hd1 hd2 hbl hb2 hc3
      go_wp2
      go_roundw
      case rel => exact ⟨j + 1, by omega, by go_num, by go_num, hbl2⟩
      case measure => simp [intOf]; omega
    · have hkn : j = n := by omega
      subst hkn
      go_wp2
      go_ret
      exact ⟨rfl, hbl⟩

theorem szRun_any (w : World) (v : V) (q : Int) (hv : v.ok) (left : Int) (h0 : 0 ≤ left) (h1 : left ≤ 1048576) :
    Calls Try.prog 83 #[.agg #[.int .i64 v.ty, .int .i64 v.n, .string v.s, .int .i64 q], .int .i64 left] w fun e w' => e = .returned (.int .i64 (if left - v.s.size < 0 then -1 else left - v.s.size)) ∧ Below w.heap.size w w' := by
  go_enter Try.func83, Try.ntmps83
  go_wp2_with fail
  have hb0 := (Below.refl w.heap.size w).alloc (Nat.le_refl _) (.cells #[.int .i64 v.ty, .int .i64 v.n, .string v.s, .int .i64 q] 95)
  refine (szVal_any _ v hv left h0 h1).mono ?_
  rintro e w1 ⟨rfl, hb1⟩
  have hbl := hb0.trans (hb1.mono hb0.size)
  clear hb0 hb1
  by_cases hneg : left - v.s.size < 0
  · rw [if_pos hneg]
    go_wp2
    go_ret
    exact ⟨rfl, hbl⟩
  · rw [if_neg hneg]
    have hneg2 : 0 ≤ left - (v.s.size : Int) := by omega
    go_wp2
    go_ret
    exact ⟨rfl, hbl⟩
set_option maxHeartbeats 600000 in
theorem szRunS_any (w : World) (A : Option Addr) (c : Nat) (vs : List (V × Int)) (hr : Reads w w.heap.size 4 A vs.length (runCells vs)) (hok : ∀ v ∈ vs, runOk v) (hl : vs.length ≤ maxLen) (left : Int) (h0 : 0 ≤ left) (h1 : left ≤ 1048576) :
    Calls Try.prog 51 #[.slice A vs.length c, .int .i64 left] w fun e w' => ∃ r : Int, e = .returned (.int .i64 r) ∧ SzPost r left (vs.length + lettersR vs) ∧ Below w.heap.size w w' := by
  unfold maxLen at hl
  have HOK := Lib.hid hok
  clear hok
  by_cases hn : left < vs.length
  · go_enter Try.func51, Try.ntmps51
    go_wp2
    go_ret
    exact ⟨-1, rfl, ⟨by omega, fun h => absurd h (by omega)⟩, Below.refl _ _⟩
  go_enter Try.func51, Try.ntmps51
  go_wp2
  go_loopw [1, 5] (fun q i wr => ∃ (k : Nat) (l : Int), i = .int .i64 k ∧ q = .int .i64 l ∧ k ≤ vs.length ∧ 0 ≤ l ∧ l ≤ left ∧ (vs.length : Int) + lettersR (vs.take k) + l ≤ left ∧ Below w.heap.size w wr) (fun _ i _ => vs.length - (intOf i).toNat)
  case atStart => exact ⟨0, left - vs.length, rfl, rfl, by omega, by omega, by omega, by simp [lettersR]; omega, Below.refl _ _⟩
  case round =>
    obtain ⟨k, l, rfl, rfl, hk, hl0, hll, hsum, hbl⟩ := hrel
    have HS := Lib.hid hsum
    clear hsum
    by_cases hlt : k < vs.length
    · obtain ⟨b, off, x, q, rfl, hb, hx, hc0, hc1, hc2, hc3⟩ := hr.run hlt
      have hxo : x.ok := (HOK.out (x, q) (List.mem_of_getElem? hx.out)).1
      have hd0 : wr.cell? ⟨b, off + k * 4, none⟩ = some (.int .i64 x.ty) := (hbl.cell (p := ⟨b, off + k * 4, none⟩) hb).trans hc0
      have hd1 : wr.cell? ⟨b, off + k * 4 + 1, none⟩ = some (.int .i64 x.n) := (hbl.cell (p := ⟨b, off + k * 4 + 1, none⟩) hb).trans hc1
      have hd2 : wr.cell? ⟨b, off + k * 4 + 2, none⟩ = some (.string x.s) := (hbl.cell (p := ⟨b, off + k * 4 + 2, none⟩) hb).trans hc2
      have hd3 : wr.cell? ⟨b, off + k * 4 + 3, none⟩ = some (.int .i64 q) := (hbl.cell (p := ⟨b, off + k * 4 + 3, none⟩) hb).trans hc3
      clear hr hc0 hc1 hc2 hc3
      have hsn := Lib.hid (lettersR_snoc hx.out)
      go_wp2_with fail
      refine (szRun_any _ x q hxo l hl0 (by omega)).mono ?_
      rintro e w1 ⟨rfl, hb1⟩
      have hbl1 := hbl.trans (hb1.mono hbl.size)
      clear hd0 hd1 hd2 hd3 hb1 hbl
      by_cases hneg : l - x.s.size < 0
      · rw [if_pos hneg]
        go_wp2
        go_ret
        exact ⟨-1, rfl, ⟨by omega, fun h => absurd h (by omega)⟩, hbl1⟩
      · rw [if_neg hneg]
        go_wp2
        go_roundw
        case rel => exact ⟨k + 1, _, by go_num, rfl, by omega, by omega, by omega, by have := HS.out; rw [hsn.out]; omega, hbl1⟩
        case measure => simp [intOf]; omega
    · have hkn : k = vs.length := by omega
      subst hkn
      go_wp2
      go_ret
      have := HS.out
      rw [List.take_of_length_le (Nat.le_refl _)] at this
      exact ⟨l, rfl, ⟨hll, fun _ => by omega⟩, hbl⟩
theorem four_set {w : World} {b : Nat} {u0 u1 u2 u3 : Value} (h0 : w.cell? ⟨b, 0, none⟩ = some u0) (h1 : w.cell? ⟨b, 1, none⟩ = some u1) (h2 : w.cell? ⟨b, 2, none⟩ = some u2) (h3 : w.cell? ⟨b, 3, none⟩ = some u3) (a0 a1 a2 a3 : Value) :
    ((((w.setCell ⟨b, 0, none⟩ a0).setCell ⟨b, 1, none⟩ a1).setCell ⟨b, 2, none⟩ a2).setCell ⟨b, 3, none⟩ a3).cell? ⟨b, 0, none⟩ = some a0 ∧
    ((((w.setCell ⟨b, 0, none⟩ a0).setCell ⟨b, 1, none⟩ a1).setCell ⟨b, 2, none⟩ a2).setCell ⟨b, 3, none⟩ a3).cell? ⟨b, 1, none⟩ = some a1 ∧
    ((((w.setCell ⟨b, 0, none⟩ a0).setCell ⟨b, 1, none⟩ a1).setCell ⟨b, 2, none⟩ a2).setCell ⟨b, 3, none⟩ a3).cell? ⟨b, 2, none⟩ = some a2 ∧
    ((((w.setCell ⟨b, 0, none⟩ a0).setCell ⟨b, 1, none⟩ a1).setCell ⟨b, 2, none⟩ a2).setCell ⟨b, 3, none⟩ a3).cell? ⟨b, 3, none⟩ = some a3 := by
  have k1 : (w.setCell ⟨b, 0, none⟩ a0).cell? ⟨b, 1, none⟩ = some u1 := (World.cell?_setCell_other _ _ _ _ (by simp)).trans h1
  have k2 : ((w.setCell ⟨b, 0, none⟩ a0).setCell ⟨b, 1, none⟩ a1).cell? ⟨b, 2, none⟩ = some u2 := (World.cell?_setCell_other _ _ _ _ (by simp)).trans ((World.cell?_setCell_other _ _ _ _ (by simp)).trans h2)
  have k3 : (((w.setCell ⟨b, 0, none⟩ a0).setCell ⟨b, 1, none⟩ a1).setCell ⟨b, 2, none⟩ a2).cell? ⟨b, 3, none⟩ = some u3 := (World.cell?_setCell_other _ _ _ _ (by simp)).trans ((World.cell?_setCell_other _ _ _ _ (by simp)).trans ((World.cell?_setCell_other _ _ _ _ (by simp)).trans h3))
  refine ⟨?_, ?_, ?_, World.cell?_setCell_same _ _ _ k3⟩
  · exact (World.cell?_setCell_other _ _ _ _ (by simp)).trans ((World.cell?_setCell_other _ _ _ _ (by simp)).trans ((World.cell?_setCell_other _ _ _ _ (by simp)).trans (World.cell?_setCell_same _ _ _ h0)))
  · exact (World.cell?_setCell_other _ _ _ _ (by simp)).trans ((World.cell?_setCell_other _ _ _ _ (by simp)).trans (World.cell?_setCell_same _ _ _ k1))
  · exact (World.cell?_setCell_other _ _ _ _ (by simp)).trans (World.cell?_setCell_same _ _ _ k2)
theorem four_far {w : World} {b b' : Nat} (hb : b ≠ b') (i : Nat) {u : Value} (h : w.cell? ⟨b', i, none⟩ = some u) (a0 a1 a2 a3 : Value) :
    ((((w.setCell ⟨b, 0, none⟩ a0).setCell ⟨b, 1, none⟩ a1).setCell ⟨b, 2, none⟩ a2).setCell ⟨b, 3, none⟩ a3).cell? ⟨b', i, none⟩ = some u :=
  (World.cell?_setCell_far _ _ _ _ hb).trans ((World.cell?_setCell_far _ _ _ _ hb).trans ((World.cell?_setCell_far _ _ _ _ hb).trans ((World.cell?_setCell_far _ _ _ _ hb).trans h)))
theorem below_four {B : Nat} {w0 w : World} (h : Below B w0 w) {b : Nat} (hb : B ≤ b) (a0 a1 a2 a3 : Value) : Below B w0 ((((w.setCell ⟨b, 0, none⟩ a0).setCell ⟨b, 1, none⟩ a1).setCell ⟨b, 2, none⟩ a2).setCell ⟨b, 3, none⟩ a3) :=
  (((h.setCell hb _).setCell hb _).setCell hb _).setCell hb _

set_option maxHeartbeats 800000 in
theorem toRun_any (w : World) (v : V) (q : Int) :
    Calls Try.prog 84 #[.agg #[.int .i64 v.ty, .int .i64 v.n, .string v.s, .int .i64 q]] w fun e w' => e = .returned (.agg #[.int .i64 v.ty, .int .i64 v.n, .string v.s, .int .i64 q]) ∧ Below w.heap.size w w' := by
  go_enter Try.func84, Try.ntmps84
  go_wp2_with fail
  obtain ⟨W, hW⟩ : ∃ W, W = ((w.alloc (.cells #[.int .i64 v.ty, .int .i64 v.n, .string v.s, .int .i64 q] 95)).alloc (.cells #[.int .i64 0, .int .i64 0, .string ⟨#[]⟩, .int .i64 0] 88)).alloc (.cells #[.int .i64 0, .int .i64 0, .string ⟨#[]⟩, .int .i64 0] 88) := ⟨_, rfl⟩
  have hb0 : Below w.heap.size w W := by rw [hW]; exact Below.alloc0 (Below.alloc0 (Below.alloc0 (Below.refl _ _) _) _) _
  have e3 : W.cell? ⟨w.heap.size, 3, none⟩ = some (.int .i64 q) := by rw [hW]; simp [go_sem]
  have p0 : W.cell? ⟨w.heap.size + 1, 0, none⟩ = some (.int .i64 0) := by rw [hW]; simp [go_sem]
  have p1 : W.cell? ⟨w.heap.size + 1, 1, none⟩ = some (.int .i64 0) := by rw [hW]; simp [go_sem]
  have p2 : W.cell? ⟨w.heap.size + 1, 2, none⟩ = some (.string ⟨#[]⟩) := by rw [hW]; simp [go_sem]
  have p3 : W.cell? ⟨w.heap.size + 1, 3, none⟩ = some (.int .i64 0) := by rw [hW]; simp [go_sem]
  have q0 : W.cell? ⟨w.heap.size + 1 + 1, 0, none⟩ = some (.int .i64 0) := by rw [hW]; simp [go_sem]
  have q1 : W.cell? ⟨w.heap.size + 1 + 1, 1, none⟩ = some (.int .i64 0) := by rw [hW]; simp [go_sem]
  have q2 : W.cell? ⟨w.heap.size + 1 + 1, 2, none⟩ = some (.string ⟨#[]⟩) := by rw [hW]; simp [go_sem]
  have q3 : W.cell? ⟨w.heap.size + 1 + 1, 3, none⟩ = some (.int .i64 0) := by rw [hW]; simp [go_sem]
  have hszW : W.heap.size = w.heap.size + 1 + 1 + 1 := by rw [hW]; simp
  have g10 : W.frozen? ⟨w.heap.size + 1, 0, none⟩ = false := by rw [hW]; simp [go_sem]
  have g11 : W.frozen? ⟨w.heap.size + 1, 1, none⟩ = false := by rw [hW]; simp [go_sem]
  have g12 : W.frozen? ⟨w.heap.size + 1, 2, none⟩ = false := by rw [hW]; simp [go_sem]
  have g13 : W.frozen? ⟨w.heap.size + 1, 3, none⟩ = false := by rw [hW]; simp [go_sem]
  have g50 : W.frozen? ⟨w.heap.size + 1 + 1, 0, none⟩ = false := by rw [hW]; simp [go_sem]
  have g51 : W.frozen? ⟨w.heap.size + 1 + 1, 1, none⟩ = false := by rw [hW]; simp [go_sem]
  have g52 : W.frozen? ⟨w.heap.size + 1 + 1, 2, none⟩ = false := by rw [hW]; simp [go_sem]
  have g53 : W.frozen? ⟨w.heap.size + 1 + 1, 3, none⟩ = false := by rw [hW]; simp [go_sem]
  rw [← hW]
  clear hW
  refine (toVal_any _ v).mono ?_
  rintro e w1 ⟨rfl, hb1⟩
  replace g10 := (hb1.frozen (p := ⟨w.heap.size + 1, 0, none⟩) (by simp; omega)).trans g10
  replace g11 := (hb1.frozen (p := ⟨w.heap.size + 1, 1, none⟩) (by simp; omega)).trans g11
  replace g12 := (hb1.frozen (p := ⟨w.heap.size + 1, 2, none⟩) (by simp; omega)).trans g12
  replace g13 := (hb1.frozen (p := ⟨w.heap.size + 1, 3, none⟩) (by simp; omega)).trans g13
  replace g50 := (hb1.frozen (p := ⟨w.heap.size + 1 + 1, 0, none⟩) (by simp; omega)).trans g50
  replace g51 := (hb1.frozen (p := ⟨w.heap.size + 1 + 1, 1, none⟩) (by simp; omega)).trans g51
  replace g52 := (hb1.frozen (p := ⟨w.heap.size + 1 + 1, 2, none⟩) (by simp; omega)).trans g52
  replace g53 := (hb1.frozen (p := ⟨w.heap.size + 1 + 1, 3, none⟩) (by simp; omega)).trans g53
  replace e3 := cell_keep hb1 e3
  replace p0 := cell_keep hb1 p0
  replace p1 := cell_keep hb1 p1
  replace p2 := cell_keep hb1 p2
  replace p3 := cell_keep hb1 p3
  replace q0 := cell_keep hb1 q0
  replace q1 := cell_keep hb1 q1
  replace q2 := cell_keep hb1 q2
  replace q3 := cell_keep hb1 q3
  have hbl := hb0.trans (hb1.mono hb0.size)
  clear hb0 hb1
  go_wp2
  have hne : w.heap.size + 1 + 1 ≠ w.heap.size + 1 := by omega
  obtain ⟨r0, r1, r2, r3⟩ := four_set (four_far hne 0 p0 (.int .i64 v.ty) (.int .i64 v.n) (.string v.s) (.int .i64 q)) (four_far hne 1 p1 _ _ _ _) (four_far hne 2 p2 _ _ _ _) (four_far hne 3 p3 _ _ _ _) (.int .i64 v.ty) (.int .i64 v.n) (.string v.s) (.int .i64 q)
  have hfin := below_four (below_four hbl (b := w.heap.size + 1 + 1) (by omega) (.int .i64 v.ty) (.int .i64 v.n) (.string v.s) (.int .i64 q)) (b := w.heap.size + 1) (by omega) (.int .i64 v.ty) (.int .i64 v.n) (.string v.s) (.int .i64 q)
  exact bodyPost_ret (v := .agg #[.int .i64 v.ty, .int .i64 v.n, .string v.s, .int .i64 q]) (by simp [results, Try.results84, go_sem, r0, r1, r2, r3]) rfl ⟨rfl, hfin⟩
set_option maxHeartbeats 600000 in
theorem toRunS_any (w : World) (A : Option Addr) (c : Nat) (vs : List (V × Int)) (hr : Reads w w.heap.size 4 A vs.length (runCells vs)) (hl : vs.length ≤ 1099511627776) :
    Calls Try.prog 53 #[.slice A vs.length c] w fun e w' => ∃ g, e = .returned (.slice (some ⟨g, 0, none⟩) vs.length vs.length) ∧
      w'.ownsRow w.heap.size 88 4 (.slice (some ⟨g, 0, none⟩) vs.length vs.length) vs.length (runCells vs) ∧ Below w.heap.size w w' := by
  obtain ⟨i0, hi0, hz0, hz1, hz2⟩ := info_parts info_Run
  go_enter Try.func53, Try.ntmps53
  go_wp2_with (at_make; refine wpList_make_full _ rfl _ _ 55 rfl w.heap.size 88 i0 _ 4 Try.underlying55 hi0 hz0 hz1 _ _ _ _ vs.length rfl rfl rfl rfl (by rw [hz2]; omega) (by unfold maxLen; omega) (Nat.le_refl _) ?_; intro w1 hown hg)
  obtain ⟨zs, hzs⟩ : ∃ zs, zs = (madeCells (Value.agg #[.int .i64 0, .int .i64 0, .string ByteArray.empty, .int .i64 0]).cells (vs.length * 4)).toList := ⟨_, rfl⟩
  rw [← hzs] at hown
  clear hzs
  have hzl : zs.length = vs.length * 4 := hown.1
  have HZ := Lib.hid hzl
  clear hzl
  have hbl : Below w.heap.size w w1 := (Below.refl _ _).grown hg (Nat.le_refl _) (fun k hk => by cases hk)
  clear hg
  go_loopw [4] (fun i wr => ∃ k : Nat, k ≤ vs.length ∧ i = .int .i64 k ∧ wr.ownsRow w.heap.size 88 4 (.slice (some ⟨w.heap.size, 0, none⟩) vs.length vs.length) vs.length (runCells (vs.take k) ++ zs.drop (k * 4)) ∧ Below w.heap.size w wr)
    (fun i _ => vs.length - (intOf i).toNat)
  case atStart => exact ⟨0, Nat.zero_le _, rfl, by simpa [runCells] using hown, hbl⟩
  case round =>
    obtain ⟨k, hk, rfl, hown, hbl⟩ := hrel
    by_cases hlt : k < vs.length
    · obtain ⟨b, off, x, q, rfl, hb, hx, hc0, hc1, hc2, hc3⟩ := hr.run hlt
      have hd0 : wr.cell? ⟨b, off + k * 4, none⟩ = some (.int .i64 x.ty) := (hbl.cell (p := ⟨b, off + k * 4, none⟩) hb).trans hc0
      have hd1 : wr.cell? ⟨b, off + k * 4 + 1, none⟩ = some (.int .i64 x.n) := (hbl.cell (p := ⟨b, off + k * 4 + 1, none⟩) hb).trans hc1
      have hd2 : wr.cell? ⟨b, off + k * 4 + 2, none⟩ = some (.string x.s) := (hbl.cell (p := ⟨b, off + k * 4 + 2, none⟩) hb).trans hc2
      have hd3 : wr.cell? ⟨b, off + k * 4 + 3, none⟩ = some (.int .i64 q) := (hbl.cell (p := ⟨b, off + k * 4 + 3, none⟩) hb).trans hc3
      clear hr hc0 hc1 hc2 hc3
      go_wp2_with fail
      refine (toRun_any _ x q).mono ?_
      rintro e w2 ⟨rfl, hb2⟩
      have hbl2 := hbl.trans (hb2.mono hbl.size)
      have hown2 := own_step hown hb2
      clear hd0 hd1 hd2 hd3 hb2 hbl hown
      obtain ⟨u0, hw0⟩ := own_cell (j := k * 4) hown2 (by omega)
      obtain ⟨u1, hw1⟩ := own_cell (j := k * 4 + 1) hown2 (by omega)
      obtain ⟨u2, hw2⟩ := own_cell (j := k * 4 + 2) hown2 (by omega)
      obtain ⟨u3, hw3⟩ := own_cell (j := k * 4 + 3) hown2 (by omega)
      have hf0 := hown2.frozenAt (k * 4)
      have hf1 := hown2.frozenAt (k * 4 + 1)
      have hf2 := hown2.frozenAt (k * 4 + 2)
      have hf3 := hown2.frozenAt (k * 4 + 3)
      obtain ⟨hst, hgr⟩ := own_set4 (.int .i64 x.ty) (.int .i64 x.n) (.string x.s) (.int .i64 q) hown2 (by rw [runCells_len, List.length_take]; omega) (by have := HZ.out; omega)
      rw [← runCells_take hx.out, show k * 4 + 4 = (k + 1) * 4 from by omega] at hst
      have hb3 := hbl2.grown hgr hbl2.size (fun q hq => by injection hq with hq; omega)
      clear hown2 hbl2 hgr
      go_wp2
      go_roundw
      case rel => exact ⟨k + 1, by omega, by go_num, hst, hb3⟩
      case measure => simp [intOf]; omega
    · have hkn : k = vs.length := by omega
      subst hkn
      go_wp2
      go_ret
      have := HZ.out
      rw [List.take_of_length_le (Nat.le_refl _), List.drop_of_length_le (by omega), List.append_nil] at hown
      exact ⟨w.heap.size, rfl, hown, hbl⟩
end Go.Proofs.Ytckfogpjljbelaa
