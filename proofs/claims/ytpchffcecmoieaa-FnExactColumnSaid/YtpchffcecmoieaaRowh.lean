/-
  Contracts of the laws' helpers on rows, and of RowOk and SameRow.
-/
import Derived.Test.YtpchffcecmoieaaVlist
import Derived.Test.YtpchffcecmoieaaVals
import Derived.Deep.RegionHeld3
import Derived.Deep.Heap
namespace Go.Proofs.Ytpchffcecmoieaa
open Go.RowKit
open Go.Deep
set_option linter.unusedVariables false
set_option maxRecDepth 100000

theorem own_lowr {w : World} {base base' : Nat} {e : TypeId} {size : Nat} {v : Value} {n : Nat} {xs : List Value} (h : w.ownsRow base e size v n xs) (hb : base' ≤ base) : w.ownsRow base' e size v n xs :=
  ⟨h.1, h.2.imp id fun ⟨g, cap, cur, h1, h2, h3⟩ => ⟨g, cap, cur, h1, Nat.le_trans hb h2, h3⟩⟩
theorem szRow_any (w : World) (id : Int) (A : Option Addr) (c : Nat) (vs : List V) (hr : Reads w w.heap.size 3 A vs.length (valCells vs)) (hok : ∀ v ∈ vs, v.ok) (hl : vs.length ≤ maxLen) (left : Int) (h0 : 0 ≤ left) (h1 : left ≤ 1048576) :
    Calls Try.prog 13 #[.agg #[.int .i64 id, .slice A vs.length c], .int .i64 left] w fun e w' => ∃ r : Int, e = .returned (.int .i64 r) ∧ SzPost r left (vs.length + letters vs) ∧ Below w.heap.size w w' := by
  go_enter Try.func13, Try.ntmps13
  go_wp2_with fail
  have hb0 : Below w.heap.size w (w.alloc (.cells #[.int .i64 id, .slice A vs.length c] 36)) := Below.alloc0 (Below.refl _ _) _
  refine (szValS_any _ _ _ _ ((hr.below hb0 (Nat.le_refl _)).more hb0.size) hok hl left h0 h1).mono ?_
  rintro e w1 ⟨q, rfl, hq, hb1⟩
  have hbl := hb0.trans (hb1.mono hb0.size)
  have HQ := Lib.hid hq
  clear hb0 hb1 hr hq
  by_cases hneg : q < 0
  · go_wp2
    go_ret
    exact ⟨-1, rfl, ⟨by omega, fun h => absurd h (by omega)⟩, hbl⟩
  · go_wp2
    go_ret
    exact ⟨q, rfl, HQ.out, hbl⟩
set_option maxHeartbeats 800000 in
theorem toRow_any (w : World) (id : Int) (A : Option Addr) (c : Nat) (vs : List V) (hr : Reads w w.heap.size 3 A vs.length (valCells vs)) (hl : vs.length ≤ 1099511627776) :
    Calls Try.prog 15 #[.agg #[.int .i64 id, .slice A vs.length c]] w fun e w' => ∃ g, e = .returned (.agg #[.int .i64 id, .slice (some ⟨g, 0, none⟩) vs.length vs.length]) ∧
      w'.ownsRow w.heap.size 41 3 (.slice (some ⟨g, 0, none⟩) vs.length vs.length) vs.length (valCells vs) ∧ Below w.heap.size w w' := by
  go_enter Try.func15, Try.ntmps15
  go_wp2_with fail
  obtain ⟨W, hW⟩ : ∃ W, W = ((w.alloc (.cells #[.int .i64 id, .slice A vs.length c] 36)).alloc (.cells #[.int .i64 0, .slice none 0 0] 39)).alloc (.cells #[.int .i64 id, .slice none 0 0] 39) := ⟨_, rfl⟩
  have hb0 : Below w.heap.size w W := by rw [hW]; exact Below.alloc0 (Below.alloc0 (Below.alloc0 (Below.refl _ _) _) _) _
  have hszW : W.heap.size = w.heap.size + 1 + 1 + 1 := by rw [hW]; simp
  have p0 : W.cell? ⟨w.heap.size + 1, 0, none⟩ = some (.int .i64 0) := by rw [hW]; simp [go_sem]
  have p1 : W.cell? ⟨w.heap.size + 1, 1, none⟩ = some (.slice none 0 0) := by rw [hW]; simp [go_sem]
  have q0 : W.cell? ⟨w.heap.size + 1 + 1, 0, none⟩ = some (.int .i64 id) := by rw [hW]; simp [go_sem]
  have q1 : W.cell? ⟨w.heap.size + 1 + 1, 1, none⟩ = some (.slice none 0 0) := by rw [hW]; simp [go_sem]
  have pf0 : W.frozen? ⟨w.heap.size + 1, 0, none⟩ = false := by rw [hW]; simp [go_sem]
  have pf1 : W.frozen? ⟨w.heap.size + 1, 1, none⟩ = false := by rw [hW]; simp [go_sem]
  have qf1 : W.frozen? ⟨w.heap.size + 1 + 1, 1, none⟩ = false := by rw [hW]; simp [go_sem]
  rw [← hW]
  clear hW
  refine (toValS_any _ _ _ _ ((hr.below hb0 (Nat.le_refl _)).more hb0.size) hl).mono ?_
  rintro e w1 ⟨g, rfl, hown, hb1⟩
  have hgb : W.heap.size ≤ g := (hown.lt g rfl).1
  replace pf0 := (hb1.frozen (p := ⟨w.heap.size + 1, 0, none⟩) (by simp; omega)).trans pf0
  replace pf1 := (hb1.frozen (p := ⟨w.heap.size + 1, 1, none⟩) (by simp; omega)).trans pf1
  replace qf1 := (hb1.frozen (p := ⟨w.heap.size + 1 + 1, 1, none⟩) (by simp; omega)).trans qf1
  replace p0 := cell_keep hb1 p0
  replace p1 := cell_keep hb1 p1
  replace q0 := cell_keep hb1 q0
  replace q1 := cell_keep hb1 q1
  have hbl := hb0.trans (hb1.mono hb0.size)
  have hz1 := hb1.size
  clear hb0 hb1 hr
  go_wp2
  have hne : w.heap.size + 1 + 1 ≠ w.heap.size + 1 := by omega
  have k0 : ((w1.setCell ⟨w.heap.size + 1 + 1, 1, none⟩ (.slice (some ⟨g, 0, none⟩) vs.length vs.length))).cell? ⟨w.heap.size + 1, 0, none⟩ = some (.int .i64 0) := (World.cell?_setCell_far _ _ _ _ hne).trans p0
  have k1 : ((w1.setCell ⟨w.heap.size + 1 + 1, 1, none⟩ (.slice (some ⟨g, 0, none⟩) vs.length vs.length))).cell? ⟨w.heap.size + 1, 1, none⟩ = some (.slice none 0 0) := (World.cell?_setCell_far _ _ _ _ hne).trans p1
  have r0 : (((w1.setCell ⟨w.heap.size + 1 + 1, 1, none⟩ (.slice (some ⟨g, 0, none⟩) vs.length vs.length)).setCell ⟨w.heap.size + 1, 0, none⟩ (.int .i64 id)).setCell ⟨w.heap.size + 1, 1, none⟩ (.slice (some ⟨g, 0, none⟩) vs.length vs.length)).cell? ⟨w.heap.size + 1, 0, none⟩ = some (.int .i64 id) := (World.cell?_setCell_other _ _ _ _ (by simp)).trans (World.cell?_setCell_same _ _ _ k0)
  have r1 : (((w1.setCell ⟨w.heap.size + 1 + 1, 1, none⟩ (.slice (some ⟨g, 0, none⟩) vs.length vs.length)).setCell ⟨w.heap.size + 1, 0, none⟩ (.int .i64 id)).setCell ⟨w.heap.size + 1, 1, none⟩ (.slice (some ⟨g, 0, none⟩) vs.length vs.length)).cell? ⟨w.heap.size + 1, 1, none⟩ = some (.slice (some ⟨g, 0, none⟩) vs.length vs.length) := World.cell?_setCell_same _ _ _ ((World.cell?_setCell_other _ _ _ _ (by simp)).trans k1)
  have hfin := ((hbl.setCell (p := ⟨w.heap.size + 1 + 1, 1, none⟩) (by simp; omega) (.slice (some ⟨g, 0, none⟩) vs.length vs.length)).setCell (p := ⟨w.heap.size + 1, 0, none⟩) (by simp) (.int .i64 id)).setCell (p := ⟨w.heap.size + 1, 1, none⟩) (by simp) (.slice (some ⟨g, 0, none⟩) vs.length vs.length)
  have hset : ∀ (w2 : World) (p : Addr) (u : Value), w2.ownsRow W.heap.size 41 3 (.slice (some ⟨g, 0, none⟩) vs.length vs.length) vs.length (valCells vs) → p.block < W.heap.size → (w2.setCell p u).ownsRow W.heap.size 41 3 (.slice (some ⟨g, 0, none⟩) vs.length vs.length) vs.length (valCells vs) := by
    intro w2 p u h hp
    refine ⟨h.1, h.2.imp (fun hh => hh) ?_⟩
    rintro ⟨g', cap, cur, h1, h2, h3, h4⟩
    have hgg : g = g' := by injection h1 with h1 _ _; injection h1 with h1; injection h1
    subst hgg
    exact ⟨g, cap, cur, h1, h2, (blk_setCell_other w2 p u g (by omega)).trans h3, h4⟩
  have hown2 := hset _ ⟨w.heap.size + 1, 1, none⟩ (.slice (some ⟨g, 0, none⟩) vs.length vs.length) (hset _ ⟨w.heap.size + 1, 0, none⟩ (.int .i64 id) (hset _ ⟨w.heap.size + 1 + 1, 1, none⟩ (.slice (some ⟨g, 0, none⟩) vs.length vs.length) hown (by simp; omega)) (by simp; omega)) (by simp; omega)
  exact bodyPost_ret (v := .agg #[.int .i64 id, .slice (some ⟨g, 0, none⟩) vs.length vs.length]) (by simp [results, Try.results15, go_sem, r0, r1]) rfl ⟨g, rfl, own_lowr hown2 (by omega), hfin⟩
theorem eqRow_same (w : World) (id : Int) (A A' : Option Addr) (c c' : Nat) (vs : List V) (hr : Reads w w.heap.size 3 A vs.length (valCells vs)) (hr' : Reads w w.heap.size 3 A' vs.length (valCells vs)) (hl : vs.length ≤ 1099511627776) :
    Calls Try.prog 17 #[.agg #[.int .i64 id, .slice A vs.length c], .agg #[.int .i64 id, .slice A' vs.length c']] w fun e w' => e = .returned (.bool true) ∧ Below w.heap.size w w' := by
  go_enter Try.func17, Try.ntmps17
  go_wp2_with fail
  have hb0 : Below w.heap.size w ((w.alloc (.cells #[.int .i64 id, .slice A vs.length c] 39)).alloc (.cells #[.int .i64 id, .slice A' vs.length c'] 39)) := Below.alloc0 (Below.alloc0 (Below.refl _ _) _) _
  refine (eqValS_same _ _ _ _ _ _ ((hr.below hb0 (Nat.le_refl _)).more hb0.size) ((hr'.below hb0 (Nat.le_refl _)).more hb0.size) hl).mono ?_
  rintro e w1 ⟨rfl, hb1⟩
  have hbl := hb0.trans (hb1.mono hb0.size)
  clear hb0 hb1 hr hr'
  go_wp2
  go_ret
  exact ⟨rfl, hbl⟩

def sameRow (id : Int) (a : List V) (id' : Int) (b : List V) : Bool := decide (id = id') && sameVals a b
theorem sameRow_id (id : Int) (a b : List V) : sameRow id a id b = sameVals a b := by simp [sameRow]
theorem sameRow_no {id id' : Int} {a b : List V} (h : ¬ id = id') : sameRow id a id' b = false := by simp [sameRow, h]



end Go.Proofs.Ytpchffcecmoieaa
