/-
  Contracts of the laws' helpers on runs: toRun copies, szRun counts letters, eqRun compares, markRunS and heldRunS lay marks and look for them.
-/
import Derived.Test.YtgpimlmolcjeoaaVals
import Derived.Test.YtgpimlmolcjeoaaRuns
namespace Go.Proofs.Ytgpimlmolcjeoaa
open Go.RowKit
set_option linter.unusedVariables false
set_option maxRecDepth 100000

theorem set_four (m zs : List Value) (j : Nat) (a b c d : Value) (hm : m.length = j) (hj : j + 3 < zs.length) :
    ((((m ++ zs.drop j).set j a).set (j + 1) b).set (j + 2) c).set (j + 3) d = m ++ [a, b, c, d] ++ zs.drop (j + 4) := by
  rw [set_three m zs j a b c hm (by omega), set_at (m ++ [a, b, c]) zs (j + 3) d (by simp [hm]) (by omega)]
  simp
theorem own_set4 {w : World} {base g n cap : Nat} {e : TypeId} {size : Nat} {m zs : List Value} {j : Nat} (a b c d : Value) (h : w.ownsRow base e size (.slice (some ⟨g, 0, none⟩) n cap) n (m ++ zs.drop j)) (hm : m.length = j) (hj : j + 3 < zs.length) :
    ((((w.setCell ⟨g, j, none⟩ a).setCell ⟨g, j + 1, none⟩ b).setCell ⟨g, j + 2, none⟩ c).setCell ⟨g, j + 3, none⟩ d).ownsRow base e size (.slice (some ⟨g, 0, none⟩) n cap) n (m ++ [a, b, c, d] ++ zs.drop (j + 4)) ∧
      w.grownBy ((((w.setCell ⟨g, j, none⟩ a).setCell ⟨g, j + 1, none⟩ b).setCell ⟨g, j + 2, none⟩ c).setCell ⟨g, j + 3, none⟩ d) (some g) := by
  obtain ⟨h1, g1⟩ := h.stored j a
  obtain ⟨h2, g2⟩ := h1.stored (j + 1) b
  obtain ⟨h3, g3⟩ := h2.stored (j + 2) c
  obtain ⟨h4, g4⟩ := h3.stored (j + 3) d
  rw [set_four m zs j a b c d hm hj] at h4
  exact ⟨h4, ((g1.trans g2).trans g3).trans g4⟩
theorem runCells_take {rs : List (V × Int)} {k : Nat} {x : V} {q : Int} (h : rs[k]? = some (x, q)) : runCells (rs.take (k + 1)) = runCells (rs.take k) ++ [.int .i64 x.ty, .int .i64 x.n, .string x.s, .int .i64 q] := by
  unfold runCells
  rw [List.take_add_one, h]
  simp [runEnc]
def lettersR (rs : List (V × Int)) : Nat := (rs.map fun r => r.1.s.size).sum
theorem lettersR_snoc {rs : List (V × Int)} {k : Nat} {x : V} {q : Int} (h : rs[k]? = some (x, q)) : lettersR (rs.take (k + 1)) = lettersR (rs.take k) + x.s.size := by
  unfold lettersR
  rw [List.take_add_one, h]
  simp


def markRun (k n : Nat) : List (V × Int) := (List.range n).map fun j => (⟨(k : Int) + ((j * 4 : Nat) : Int), (k : Int) + ((j * 4 : Nat) : Int) + 1, mt (k + j * 4 + 2)⟩, (k : Int) + ((j * 4 : Nat) : Int) + 3)
theorem markRun_length (k n : Nat) : (markRun k n).length = n := by simp [markRun]
theorem markRun_get (k n j : Nat) (h : j < n) : (markRun k n)[j]? = some (⟨(k : Int) + ((j * 4 : Nat) : Int), (k : Int) + ((j * 4 : Nat) : Int) + 1, mt (k + j * 4 + 2)⟩, (k : Int) + ((j * 4 : Nat) : Int) + 3) := by
  simp only [markRun, List.getElem?_map, List.getElem?_range h, Option.map_some]
theorem markRun_snoc (k j : Nat) : runCells (markRun k (j + 1)) = runCells (markRun k j) ++ [.int .i64 ((k : Int) + ((j * 4 : Nat) : Int)), .int .i64 ((k : Int) + ((j * 4 : Nat) : Int) + 1), .string (mt (k + j * 4 + 2)), .int .i64 ((k : Int) + ((j * 4 : Nat) : Int) + 3)] := by
  simp [runCells, markRun, List.range_succ, runEnc]



theorem four_set {w : World} {b : Nat} {u0 u1 u2 u3 : Value} (h0 : w.cell? ⟨b, 0, none⟩ = some u0) (h1 : w.cell? ⟨b, 1, none⟩ = some u1) (h2 : w.cell? ⟨b, 2, none⟩ = some u2) (h3 : w.cell? ⟨b, 3, none⟩ = some u3) (a0 a1 a2 a3 : Value) :
    ((((w.setCell ⟨b, 0, none⟩ a0).setCell ⟨b, 1, none⟩ a1).setCell ⟨b, 2, none⟩ a2).setCell ⟨b, 3, none⟩ a3).cell? ⟨b, 0, none⟩ = some a0 ∧
    ((((w.setCell ⟨b, 0, none⟩ a0).setCell ⟨b, 1, none⟩ a1).setCell ⟨b, 2, none⟩ a2).setCell ⟨b, 3, none⟩ a3).cell? ⟨b, 1, none⟩ = some a1 ∧
    ((((w.setCell ⟨b, 0, none⟩ a0).setCell ⟨b, 1, none⟩ a1).setCell ⟨b, 2, none⟩ a2).setCell ⟨b, 3, none⟩ a3).cell? ⟨b, 2, none⟩ = some a2 ∧
    ((((w.setCell ⟨b, 0, none⟩ a0).setCell ⟨b, 1, none⟩ a1).setCell ⟨b, 2, none⟩ a2).setCell ⟨b, 3, none⟩ a3).cell? ⟨b, 3, none⟩ = some a3 := by
  have k1 : (w.setCell ⟨b, 0, none⟩ a0).cell? ⟨b, 1, none⟩ = some u1 := (World.cell?_setCell_other _ _ _ _ (by simp)).trans h1
  have k2 : ((w.setCell ⟨b, 0, none⟩ a0).setCell ⟨b, 1, none⟩ a1).cell? ⟨b, 2, none⟩ = some u2 := (World.cell?_setCell_other _ _ _ _ (by simp)).trans ((World.cell?_setCell_other _ _ _ _ (by simp)).trans h2)
  have k3 : (((w.setCell ⟨b, 0, none⟩ a0).setCell ⟨b, 1, none⟩ a1).setCell ⟨b, 2, none⟩ a2).cell? ⟨b, 3, none⟩ = some u3 := (World.cell?_setCell_other _ _ _ _ (by simp)).trans ((World.cell?_setCell_other _ _ _ _ (by simp)).trans ((World.cell?_setCell_other _ _ _ _ (by simp)).trans h3))
  refine ⟨?_, ?_, ?_, World.cell?_setCell_same _ _ _ k3⟩
  · exact (World.cell?_setCell_other _ _ _ _ (by simp)).trans ((World.cell?_setCell_other _ _ _ _ (by simp)).trans ((World.cell?_setCell_other _ _ _ _ (by simp)).trans (World.cell?_setCell_same _ _ _ h0)))
  · exact (World.cell?_setCell_other _ _ _ _ (by simp)).trans ((World.cell?_setCell_other _ _ _ _ (by simp)).trans (World.cell?_setCell_same _ _ _ k1))
  · exact (World.cell?_setCell_other _ _ _ _ (by simp)).trans (World.cell?_setCell_same _ _ _ k2)
theorem four_far {w : World} {b b' : Nat} (hb : b ≠ b') (i : Nat) {u : Value} (h : w.cell? ⟨b', i, none⟩ = some u) (a0 a1 a2 a3 : Value) :
    ((((w.setCell ⟨b, 0, none⟩ a0).setCell ⟨b, 1, none⟩ a1).setCell ⟨b, 2, none⟩ a2).setCell ⟨b, 3, none⟩ a3).cell? ⟨b', i, none⟩ = some u :=
  (World.cell?_setCell_far _ _ _ _ hb).trans ((World.cell?_setCell_far _ _ _ _ hb).trans ((World.cell?_setCell_far _ _ _ _ hb).trans ((World.cell?_setCell_far _ _ _ _ hb).trans h)))
theorem below_four {B : Nat} {w0 w : World} (h : Below B w0 w) {b : Nat} (hb : B ≤ b) (a0 a1 a2 a3 : Value) : Below B w0 ((((w.setCell ⟨b, 0, none⟩ a0).setCell ⟨b, 1, none⟩ a1).setCell ⟨b, 2, none⟩ a2).setCell ⟨b, 3, none⟩ a3) :=
  (((h.setCell hb _).setCell hb _).setCell hb _).setCell hb _

end Go.Proofs.Ytgpimlmolcjeoaa
