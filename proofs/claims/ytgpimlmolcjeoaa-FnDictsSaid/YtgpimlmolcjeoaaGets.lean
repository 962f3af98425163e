/-
  Contracts of GetNums, in the program and in the reference.
-/
import Derived.Test.YtgpimlmolcjeoaaPut
import Derived.Test.YtgpimlmolcjeoaaGet
namespace Go.Proofs.Ytgpimlmolcjeoaa
open Go.RowKit
set_option linter.unusedVariables false
set_option maxRecDepth 100000

theorem getGo_pos {bs : List UInt8} {p : Nat} : ∀ {f i x : Nat} {n : Int} {q : Nat}, getGo bs p f i x = some (n, q) → q ≤ bs.length
  | 0, i, x, n, q, h => by simp [getGo] at h
  | f + 1, i, x, n, q, h => by
    unfold getGo at h
    split at h
    · cases h
    · rename_i c hc
      have hlt : p + i < bs.length := (List.getElem?_eq_some_iff.1 hc).1
      split at h
      · exact getGo_pos h
      · split at h
        · cases h
        · injection h with h
          injection h with h1 h2
          omega
theorem getNum_pos {bs : List UInt8} {a n : Int} {q : Nat} (h : getNum bs a = some (n, q)) : q ≤ bs.length := by
  unfold getNum at h
  split at h
  · cases h
  · exact getGo_pos h
theorem gn_parts {bs : List UInt8} {a n : Int} {q : Nat} (h : getNum bs a = some (n, q)) : gnN bs a = n ∧ gnP bs a = (q : Int) ∧ gnOk bs a = true := by simp [gnN, gnP, gnOk, h]
theorem gn_nothing {bs : List UInt8} {a : Int} (h : getNum bs a = none) : gnN bs a = 0 ∧ gnP bs a = 0 ∧ gnOk bs a = false := by simp [gnN, gnP, gnOk, h]
def gnsAcc (bs : List UInt8) : Nat → List Int → Int → Option (List Int × Int)
  | 0, L, p => some (L, p)
  | f + 1, L, p => match getNum bs p with
    | none => none
    | some (n, q) => gnsAcc bs f (L ++ [n]) (q : Int)
def getNums (bs : List UInt8) (a : Int) : Option (List Int × Int) := match getNum bs a with
  | none => none
  | some (k, q) => if inB k 0 64 then gnsAcc bs k.toNat [] (q : Int) else none
def gnsL (bs : List UInt8) (a : Int) : List Int := match getNums bs a with | some (l, _) => l | none => []
def gnsP (bs : List UInt8) (a : Int) : Int := match getNums bs a with | some (_, p) => p | none => 0
def gnsOk (bs : List UInt8) (a : Int) : Bool := (getNums bs a).isSome
theorem gns_nothing {bs : List UInt8} {a : Int} (h : getNums bs a = none) : gnsL bs a = [] ∧ gnsP bs a = 0 ∧ gnsOk bs a = false := by simp [gnsL, gnsP, gnsOk, h]
theorem gns_parts {bs : List UInt8} {a : Int} {l : List Int} {p : Int} (h : getNums bs a = some (l, p)) : gnsL bs a = l ∧ gnsP bs a = p ∧ gnsOk bs a = true := by simp [gnsL, gnsP, gnsOk, h]
theorem gns_no {bs : List UInt8} {a : Int} (h : getNum bs a = none) : getNums bs a = none := by simp [getNums, h]
theorem gns_wide {bs : List UInt8} {a k : Int} {q : Nat} (h : getNum bs a = some (k, q)) (hk : inB k 0 64 = false) : getNums bs a = none := by simp [getNums, h, hk]
theorem gns_start {bs : List UInt8} {a : Int} {k q : Nat} (h : getNum bs a = some ((k : Int), q)) (hk : inB (k : Int) 0 64 = true) : getNums bs a = gnsAcc bs (k - 0) [] (q : Int) := by simp [getNums, h, hk]
theorem gns_fail {P : Option (List Int × Int)} {bs : List UInt8} {K j q : Nat} {L : List Int} (h : P = gnsAcc bs (K - j) L (q : Int)) (hj : j < K) (hg : getNum bs (q : Int) = none) : P = none := by
  rw [h, show K - j = (K - (j + 1)) + 1 from by omega]
  simp [gnsAcc, hg]
theorem gns_more {P : Option (List Int × Int)} {bs : List UInt8} {K j q q2 : Nat} {L : List Int} {x : Int} (h : P = gnsAcc bs (K - j) L (q : Int)) (hj : j < K) (hg : getNum bs (q : Int) = some (x, q2)) : P = gnsAcc bs (K - (j + 1)) (L ++ [x]) (q2 : Int) := by
  rw [h, show K - j = (K - (j + 1)) + 1 from by omega]
  simp [gnsAcc, hg]
theorem gns_end {P : Option (List Int × Int)} {bs : List UInt8} {K j q : Nat} {L : List Int} (h : P = gnsAcc bs (K - j) L (q : Int)) (hj : ¬ j < K) : P = some (L, (q : Int)) := by
  rw [h, show K - j = 0 from by omega]
  simp [gnsAcc]
theorem gnsAcc_len {bs : List UInt8} : ∀ {f : Nat} {L l : List Int} {p q : Int}, gnsAcc bs f L p = some (l, q) → l.length = L.length + f
  | 0, L, l, p, q, h => by simp [gnsAcc] at h; simp [h.1]
  | f + 1, L, l, p, q, h => by
    unfold gnsAcc at h
    split at h
    · cases h
    · have := gnsAcc_len h
      simp at this
      omega
theorem gnsL_len (bs : List UInt8) (a : Int) : (gnsL bs a).length ≤ 64 := by
  unfold gnsL
  split
  · rename_i l p h
    unfold getNums at h
    split at h
    · cases h
    · split at h
      · rename_i hk
        have := gnsAcc_len h
        simp [inB] at hk
        simp at this
        omega
      · cases h
  · simp
theorem intCells_len (xs : List Int) : (intCells xs).length = xs.length := by simp [intCells]
theorem intCells_one (xs : List Int) (x : Int) : intCells xs ++ [.int .i64 x] = intCells (xs ++ [x]) := by simp [intCells]

end Go.Proofs.Ytgpimlmolcjeoaa
