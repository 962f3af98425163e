/-
  Contracts of TypeOf and FitsCols, in the program and in the reference.
-/
import Derived.Test.YtgpimlmolcjeoaaGreatDoorAppend
import Derived.Test.YtgpimlmolcjeoaaGreatDoorValOk
import Derived.Deep.RegionWith
namespace Go.Proofs.YtgpimlmolcjeoaaGreatDoor
open Go.RowKit
set_option linter.unusedVariables false
set_option maxRecDepth 100000

def tyGood (t : Int) (v : V) : Bool := valOk v && decide (v.ty = t)
def typeOf (vs : List V) : Int := match vs with | [] => 0 | x :: _ => if vs.length ≤ 64 ∧ vs.all (tyGood x.ty) = true then x.ty else 0
theorem typeOf_len {vs : List V} (h : ¬ (1 ≤ vs.length ∧ vs.length ≤ 64)) : typeOf vs = 0 := by
  unfold typeOf
  cases vs with
  | nil => rfl
  | cons x xs => exact if_neg (by rintro ⟨h1, _⟩; exact h ⟨by simp, h1⟩)
theorem typeOf_bad {vs : List V} {z x : V} {k : Nat} (h0 : vs[0]? = some z) (h : vs[k]? = some x) (hb : tyGood z.ty x = false) : typeOf vs = 0 := by
  cases vs with
  | nil => rfl
  | cons y ys =>
    simp at h0
    subst h0
    unfold typeOf
    exact if_neg (by
      rintro ⟨_, h2⟩
      rw [all_false h hb] at h2
      cases h2)
theorem typeOf_end {vs : List V} {z : V} (h0 : vs[0]? = some z) (hl : vs.length ≤ 64) (h : AllTo (tyGood z.ty) vs vs.length) : typeOf vs = z.ty := by
  cases vs with
  | nil => simp at h0
  | cons y ys =>
    simp at h0
    subst h0
    unfold typeOf
    exact if_pos ⟨hl, h.all⟩

def fitGood (p : V × Int) : Bool := valOk p.1 && decide (p.1.ty = p.2)
def fitsCols (cols : List Int) (vs : List V) : Bool := decide (vs.length = cols.length) && (vs.zip cols).all fitGood
theorem zip_at {cols : List Int} {vs : List V} {k : Nat} {x : V} {t : Int} (h1 : vs[k]? = some x) (h2 : cols[k]? = some t) : (vs.zip cols)[k]? = some (x, t) := by
  simp [List.getElem?_zip_eq_some, h1, h2]
theorem fits_len {cols : List Int} {vs : List V} (h : vs.length ≠ cols.length) : fitsCols cols vs = false := by
  unfold fitsCols; rw [decide_eq_false h]; rfl
theorem fits_bad {cols : List Int} {vs : List V} {k : Nat} {x : V} {t : Int} (h1 : vs[k]? = some x) (h2 : cols[k]? = some t) (hb : fitGood (x, t) = false) : fitsCols cols vs = false := by
  unfold fitsCols; rw [all_false (zip_at h1 h2) hb]; simp
theorem fits_end {cols : List Int} {vs : List V} (hl : vs.length = cols.length) (h : AllTo fitGood (vs.zip cols) vs.length) : fitsCols cols vs = true := by
  have hz : (vs.zip cols).length = vs.length := by simp [hl]
  unfold fitsCols
  rw [← hz] at h
  rw [h.all, decide_eq_true hl]; rfl



end Go.Proofs.YtgpimlmolcjeoaaGreatDoor
