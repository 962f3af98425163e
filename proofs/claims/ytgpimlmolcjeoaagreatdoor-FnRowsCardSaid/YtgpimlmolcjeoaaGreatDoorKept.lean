/-
  Blocks of another type outlive an append.
-/
import Derived.Test.YtgpimlmolcjeoaaGreatDoorAppend
namespace Go.Proofs.YtgpimlmolcjeoaaGreatDoor
open Go.RowKit
set_option linter.unusedVariables false
set_option maxRecDepth 100000

/-- every block of another type than e is as it was. -/
def Kept (e : TypeId) (w w' : World) : Prop := ∀ (b : Nat) (cs : Array Value) (t : TypeId) (fr : Nat × Nat), w.heap[b]? = some (Obj.cells cs t fr) → t ≠ e → w'.heap[b]? = w.heap[b]?
theorem Kept.of_own {w w' : World} {base size n : Nat} {e : TypeId} {v : Value} {xs : List Value} (h : w.ownsRow base e size v n xs) (hg : w.grownBy w' v.ownBlock) : Kept e w w' := by
  intro b cs t fr hb hne
  have hlt : b < w.heap.size := by
    rcases Nat.lt_or_ge b w.heap.size with h1 | h1
    · exact h1
    · rw [Array.getElem?_eq_none h1] at hb; cases hb
  refine hg.block b hlt ?_
  rcases h.2 with ⟨hv, _⟩ | ⟨g, cap, cur, hv, hbg, hgb, _⟩
  · rw [hv]; intro hc; cases hc
  · rw [hv]
    intro hc
    have hgg : g = b := (by simpa [Value.ownBlock] using hc : b = g).symm
    subst hgg
    rw [hgb] at hb
    injection hb with hb
    injection hb with _ h2 _
    exact hne h2.symm
theorem append_one_k {P : Program} {W : World} {ops : Array Oper} {rest : List Oper} {o : Oper} {a : Act} {Q : Exit → Act → World → Prop} (hg : o.guard = none) (s x : Operand) (t : TypeId)
    (ho : o.op = .call { callee := .builtin .append, args := #[s, x], argTypes := #[t, t] })
    (base : Nat) (e : TypeId) (i : TypeInfo) (z : Value) (size bytes : Nat) (ht : P.underlying t = some (.slice e)) (hi : P.info? e = some i) (hz : i.zero = some z)
    (hsize : i.size = size) (hby : i.bytes = bytes) (hzs : z.cells.size = size) (hsz : 0 < size) (hbb : bytes ≤ 64)
    (A : Option Addr) (n c : Nat) (xs : List Value) (hs : a.eval s = .slice A n c) (hown : W.ownsRow base e size (.slice A n c) n xs)
    (news : List Value) (B : Nat) (hx : a.eval x = .slice (some ⟨B, 0, none⟩) 1 1) (hBs : W.heap.size = B) (hnl : news.length = size) (h1 : ∀ u ∈ news, u.oneCell' = true) (hb : base ≤ W.heap.size) (hn : n ≤ 1099511627776)
    (h : ∀ A' c' w', w'.ownsRow base e size (.slice A' (n + 1) c') (n + 1) (xs ++ news) → Below base W w' → Kept e W w' → wpList P ops Q rest (a.put o.dst (.slice A' (n + 1) c')) w') :
    wpList P ops Q (o :: rest) a (W.alloc (.cells news.toArray e)) := by
  subst hBs
  refine wpList_append_own (W.alloc (.cells news.toArray e)) hg s x t ho base e i z size bytes ht hi hz hsize hby hzs hsz (.slice A n c) n xs hs (hown.alloc _) ⟨W.heap.size, 0, none⟩ 1 1 news hx (by omega) ?_ h1 (by unfold maxLen; omega) ?_ (by simp; omega) ?_
  · intro j u hu
    have h2 := World.news_of_block (cs := news.toArray) (t := e) (fr := (0, 0)) (heap_alloc_new W (.cells news.toArray e)) j u (by simpa using hu)
    exact h2
  · have : (n + 1) * bytes ≤ 1099511627777 * 64 := Nat.mul_le_mul (by omega) hbb
    omega
  · intro v' w' hown' hgr _
    obtain ⟨g, cap, hv, hbg, hgl⟩ := hown'.form (by omega)
    subst hv
    refine h _ _ w' hown' ((Below.alloc (Below.refl base W) hb _).grown hgr (by simp; omega) (fun k hk => (hown.lt k hk).1)) ?_
    intro b cs t fr hbb hne
    have hlt : b < W.heap.size := by
      rcases Nat.lt_or_ge b W.heap.size with h1 | h1
      · exact h1
      · rw [Array.getElem?_eq_none h1] at hbb; cases hbb
    have hal : (W.alloc (.cells news.toArray e)).heap[b]? = W.heap[b]? := ((Below.refl W.heap.size W).alloc (Nat.le_refl _) _).block b hlt
    exact (Kept.of_own (hown.alloc _) hgr b cs t fr (hal.trans hbb) hne).trans hal

theorem own_typed {w w' : World} {base size n : Nat} {e e' : TypeId} {v : Value} {xs : List Value} (h : w.ownsRow base e size v n xs) (hk : Kept e' w w') (hne : e ≠ e') : w'.ownsRow base e size v n xs := by
  refine ⟨h.1, h.2.imp id ?_⟩
  rintro ⟨g, cap, cur, h1, h2, h3, h4⟩
  exact ⟨g, cap, cur, h1, h2, (hk g cur e (0, 0) h3 hne).trans h3, h4⟩
end Go.Proofs.YtgpimlmolcjeoaaGreatDoor
