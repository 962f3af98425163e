/-
  A slice of the call's own that lies between two block numbers: what keeps it, what it gives.
-/
import Derived.Test.YtgpimlmolcjeoaaGreatDoorMark
namespace Go.Proofs.YtgpimlmolcjeoaaGreatDoor
open Go.RowKit
set_option linter.unusedVariables false

def Owned (w : World) (lo hi : Nat) (e : TypeId) (size : Nat) (A : Option Addr) (n c : Nat) (xs : List Value) : Prop :=
  w.ownsRow lo e size (.slice A n c) n xs ∧ ∀ k, (Value.slice A n c).ownBlock = some k → k < hi

section
variable {w w' : World} {lo hi size n c : Nat} {e : TypeId} {A : Option Addr} {xs : List Value}
theorem Owned.mk' (h : w.ownsRow lo e size (.slice A n c) n xs) : Owned w lo w.heap.size e size A n c xs := ⟨h, fun k hk => (h.lt k hk).2⟩
theorem Owned.step (h : Owned w lo hi e size A n c xs) (hb : Below w.heap.size w w') : Owned w' lo hi e size A n c xs := ⟨own_step h.1 hb, h.2⟩
theorem Owned.apart (h : Owned w lo hi e size A n c xs) {row : Option Nat} (hg : w.grownBy w' row) (hr : ∀ k, row = some k → k < lo ∨ hi ≤ k) : Owned w' lo hi e size A n c xs := by
  refine ⟨h.1.kept hg ?_, h.2⟩
  cases hv : (Value.slice A n c).ownBlock with
  | none => exact .inl rfl
  | some k =>
    refine .inr fun he => ?_
    have h1 := (h.1.lt k hv).1
    have h2 := h.2 k hv
    rcases hr k he.symm with h3 | h3 <;> omega
theorem Owned.apart' (h : Owned w lo hi e size A n c xs) {lo' hi' size' n' c' : Nat} {e' : TypeId} {A' : Option Addr} {xs' : List Value} (ho : Owned w lo' hi' e' size' A' n' c' xs') (hg : w.grownBy w' (Value.slice A' n' c').ownBlock) (hd : hi' ≤ lo ∨ hi ≤ lo') : Owned w' lo hi e size A n c xs :=
  h.apart hg fun k hk => by
    have h1 := (ho.1.lt k hk).1
    have h2 := ho.2 k hk
    omega
theorem Owned.reads (h : Owned w lo hi e size A n c xs) : Reads w hi size A n xs := by
  refine ⟨h.1.1, fun hn => ?_⟩
  obtain ⟨g, cap, hv, _, hlt⟩ := h.1.form hn
  have hA : A = some ⟨g, 0, none⟩ := by injection hv
  subst hA
  refine ⟨g, 0, rfl, h.2 g (by simp [Value.ownBlock]), fun j u hu => ?_⟩
  have := h.1.cells (g := g) rfl j u hu
  rw [add_form] at this
  exact this
theorem Reads.apart (h : Reads w hi size A n xs) {row : Option Nat} (hg : w.grownBy w' row) (hr : ∀ k, row = some k → hi ≤ k) (hs : hi ≤ w.heap.size) : Reads w' hi size A n xs :=
  h.keep fun p hp => World.cell?_of_block (hg.block p.block (by omega) (fun e => by have := hr _ e.symm; omega))
theorem Reads.apart' (h : Reads w hi size A n xs) {lo' hi' size' n' c' : Nat} {e' : TypeId} {A' : Option Addr} {xs' : List Value} (ho : Owned w lo' hi' e' size' A' n' c' xs') (hg : w.grownBy w' (Value.slice A' n' c').ownBlock) (hd : hi ≤ lo') (hs : hi ≤ w.heap.size) : Reads w' hi size A n xs :=
  h.apart hg (fun k hk => by have := (ho.1.lt k hk).1; omega) hs
theorem Below.apart' {B : Nat} {w0 : World} (h : Below B w0 w) {lo' hi' size' n' c' : Nat} {e' : TypeId} {A' : Option Addr} {xs' : List Value} (ho : Owned w lo' hi' e' size' A' n' c' xs') (hg : w.grownBy w' (Value.slice A' n' c').ownBlock) (hd : B ≤ lo') (hs : B ≤ w.heap.size) : Below B w0 w' :=
  h.grown hg hs (fun k hk => by have := (ho.1.lt k hk).1; omega)
theorem cell_apart {a : Addr} {v : Value} (h : w.cell? a = some v) {lo' hi' size' n' c' : Nat} {e' : TypeId} {A' : Option Addr} {xs' : List Value} (ho : Owned w lo' hi' e' size' A' n' c' xs') (hg : w.grownBy w' (Value.slice A' n' c').ownBlock) (hd : a.block < lo') : w'.cell? a = some v :=
  hg.cell h (fun e => by have := (ho.1.lt a.block e.symm).1; omega)
theorem Below.stepU {B : Nat} {w0 : World} (h : Below B w0 w) (hB : B ≤ w.heap.size) (hb : Below w.heap.size w w') : Below B w0 w' := h.trans (hb.mono hB)
end

end Go.Proofs.YtgpimlmolcjeoaaGreatDoor
