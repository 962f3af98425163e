/-
  An append of a slice that lies anywhere, as a step of a region.
-/
import Derived.Test.YtgpimlmolcjeoaaGreatDoorThree
import Derived.Test.YtgpimlmolcjeoaaGreatDoorBoxes
import Derived.Deep.RegionHeld3
namespace Go.Proofs.YtgpimlmolcjeoaaGreatDoor
open Go.RowKit
set_option linter.unusedVariables false
set_option maxRecDepth 100000

theorem append_some_wp {P : Program} {W : World} {o : Oper} {a : Act} {K : Act → World → Prop} {Q : Exit → Act → World → Prop} (s x : Operand) (t : TypeId)
    (ho : o.op = .call { callee := .builtin .append, args := #[s, x], argTypes := #[t, t] })
    (base : Nat) (e : TypeId) (i : TypeInfo) (z : Value) (size bytes : Nat) (ht : P.underlying t = some (.slice e)) (hi : P.info? e = some i) (hz : i.zero = some z)
    (hsize : i.size = size) (hby : i.bytes = bytes) (hzs : z.cells.size = size) (hsz : 0 < size) (hbb : bytes ≤ 64)
    (A : Option Addr) (n c : Nat) (xs : List Value) (hs : a.eval s = .slice A n c) (hown : W.ownsRow base e size (.slice A n c) n xs)
    (b m c2 : Nat) (news : List Value) (hx : a.eval x = .slice (some ⟨b, 0, none⟩) m c2) (hr : ∀ j u, news[j]? = some u → W.cell? ⟨b, j, none⟩ = some u) (hnl : news.length = m * size) (hm0 : 0 < m) (h1 : ∀ u ∈ news, u.oneCell' = true) (hb : base ≤ W.heap.size) (hn : n ≤ 1099511627776) (hm : m ≤ 1099511627776)
    (h : ∀ A' c' w', w'.ownsRow base e size (.slice A' (n + m) c') (n + m) (xs ++ news) → Below base W w' → K (a.put o.dst (.slice A' (n + m) c')) w') :
    o.wp P a W K Q := by
  refine wp_append_own W s x t ho base e i z size bytes ht hi hz hsize hby hzs hsz (.slice A n c) n xs hs hown ⟨b, 0, none⟩ m c2 news hx hnl ?_ h1 (by unfold maxLen; omega) ?_ hb ?_
  · intro j u hu
    rw [add_form, Nat.zero_add]
    exact hr j u hu
  · have : (n + m) * bytes ≤ 2199023255552 * 64 := Nat.mul_le_mul (by omega) hbb
    omega
  · intro v' w' hown' hgr _
    obtain ⟨g, cap, hv, hbg, hgl⟩ := hown'.form (by omega)
    subst hv
    exact h _ _ w' hown' ((Below.refl base W).grown hgr hb (fun k hk => (hown.lt k hk).1))
theorem own_low4 {w : World} {base base' : Nat} {e : TypeId} {size : Nat} {v : Value} {n : Nat} {xs : List Value} (h : w.ownsRow base e size v n xs) (hb : base' ≤ base) : w.ownsRow base' e size v n xs := own_lower h hb
end Go.Proofs.YtgpimlmolcjeoaaGreatDoor
