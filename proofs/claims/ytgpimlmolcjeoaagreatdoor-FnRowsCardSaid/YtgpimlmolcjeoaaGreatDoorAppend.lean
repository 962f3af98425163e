/-
  Appending one element to a slice of the call's own; an empty slice; equality of two values.
-/
import Derived.Test.YtgpimlmolcjeoaaGreatDoorVals
import Derived.Laws.AppendOwnNone
namespace Go.Proofs.YtgpimlmolcjeoaaGreatDoor
open Go.RowKit
set_option linter.unusedVariables false
set_option maxRecDepth 100000

theorem append_one {P : Program} {W : World} {ops : Array Oper} {rest : List Oper} {o : Oper} {a : Act} {Q : Exit → Act → World → Prop} (hg : o.guard = none) (s x : Operand) (t : TypeId)
    (ho : o.op = .call { callee := .builtin .append, args := #[s, x], argTypes := #[t, t] })
    (base : Nat) (e : TypeId) (i : TypeInfo) (z : Value) (size bytes : Nat) (ht : P.underlying t = some (.slice e)) (hi : P.info? e = some i) (hz : i.zero = some z)
    (hsize : i.size = size) (hby : i.bytes = bytes) (hzs : z.cells.size = size) (hsz : 0 < size) (hbb : bytes ≤ 64)
    (A : Option Addr) (n c : Nat) (xs : List Value) (hs : a.eval s = .slice A n c) (hown : W.ownsRow base e size (.slice A n c) n xs)
    (news : List Value) (B : Nat) (hx : a.eval x = .slice (some ⟨B, 0, none⟩) 1 1) (hBs : W.heap.size = B) (hnl : news.length = size) (h1 : ∀ u ∈ news, u.oneCell' = true) (hb : base ≤ W.heap.size) (hn : n ≤ 1099511627776)
    (h : ∀ A' c' w', w'.ownsRow base e size (.slice A' (n + 1) c') (n + 1) (xs ++ news) → Below base W w' → wpList P ops Q rest (a.put o.dst (.slice A' (n + 1) c')) w') :
    wpList P ops Q (o :: rest) a (W.alloc (.cells news.toArray e)) := by
  subst hBs
  refine wpList_append_own (W.alloc (.cells news.toArray e)) hg s x t ho base e i z size bytes ht hi hz hsize hby hzs hsz (.slice A n c) n xs hs (hown.alloc _) ⟨W.heap.size, 0, none⟩ 1 1 news hx (by omega) ?_ h1 (by unfold maxLen; omega) ?_ (by simp; omega) ?_
  · intro j u hu
    have h2 := World.news_of_block (cs := news.toArray) (t := e) (fr := (0, 0)) (heap_alloc_new W (.cells news.toArray e)) j u (by simpa using hu)
    exact h2
  · have : (n + 1) * bytes ≤ 1099511627777 * 64 := Nat.mul_le_mul (by omega) hbb
    omega
  · intro v' w' hown' hgr _
    obtain ⟨g, cap, hv, hbg, hgl⟩ := hown'.form (by omega)
    subst hv
    refine h _ _ w' hown' ?_
    exact (Below.alloc (Below.refl base W) hb _).grown hgr (by simp; omega) (fun k hk => (hown.lt k hk).1)

theorem append_slice {P : Program} {W : World} {ops : Array Oper} {rest : List Oper} {o : Oper} {a : Act} {Q : Exit → Act → World → Prop} (hg : o.guard = none) (s x : Operand) (t : TypeId)
    (ho : o.op = .call { callee := .builtin .append, args := #[s, x], argTypes := #[t, t] })
    (base : Nat) (e : TypeId) (i : TypeInfo) (z : Value) (size bytes : Nat) (ht : P.underlying t = some (.slice e)) (hi : P.info? e = some i) (hz : i.zero = some z)
    (hsize : i.size = size) (hby : i.bytes = bytes) (hzs : z.cells.size = size) (hsz : 0 < size) (hbb : bytes ≤ 64)
    (A : Option Addr) (n c : Nat) (xs : List Value) (hs : a.eval s = .slice A n c) (hown : W.ownsRow base e size (.slice A n c) n xs)
    (B m c2 : Nat) (D : Option Addr) (news : List Value) (hx : a.eval x = .slice D m c2) (hD : D = none → m = 0 ∧ c2 = 0) (hr : Reads W B size D m news) (h1 : ∀ u ∈ news, u.oneCell' = true) (hb : base ≤ W.heap.size) (hn : n ≤ 1099511627776) (hm : m ≤ 1099511627776)
    (h : ∀ A' c' w', w'.ownsRow base e size (.slice A' (n + m) c') (n + m) (xs ++ news) → Below base W w' → wpList P ops Q rest (a.put o.dst (.slice A' (n + m) c')) w') :
    wpList P ops Q (o :: rest) a W := by
  match D, hx, hD, hr with
  | none, hx, hD, hr =>
    obtain ⟨rfl, rfl⟩ := hD rfl
    have hnil : news = [] := List.eq_nil_of_length_eq_zero (by have := hr.1; omega)
    subst hnil
    refine wpList_append_own_none hg s x t ho base e i size ht hi (.slice A n c) n xs hs hown hx ?_
    exact h A c W (by simpa using hown) (Below.refl _ _)
  | some d, hx, hD, hr =>
    refine wpList_append_own W hg s x t ho base e i z size bytes ht hi hz hsize hby hzs hsz (.slice A n c) n xs hs hown d m c2 news hx hr.1 ?_ h1 (by unfold maxLen; omega) ?_ hb ?_
    · intro j u hu
      rcases Nat.eq_zero_or_pos m with rfl | hm0
      · have hnil : news = [] := List.eq_nil_of_length_eq_zero (by have := hr.1; omega)
        subst hnil
        simp at hu
      · obtain ⟨b, off, he, hb, hc⟩ := hr.2 hm0
        injection he with he
        subst he
        rw [add_form]
        exact hc j u hu
    · have : (n + m) * bytes ≤ 2199023255552 * 64 := Nat.mul_le_mul (by omega) hbb
      omega
    · intro v' w' hown' hgr hnil
      have hbl := (Below.refl base W).grown hgr hb (fun k hk => (hown.lt k hk).1)
      rcases hown'.2 with ⟨hv, hz0⟩ | ⟨g, cap, cur, hv, hrest⟩
      · have hv2 : v' = .slice none (n + m) 0 := by rw [hv, hz0]
        subst hv2
        exact h none 0 w' hown' hbl
      · subst hv
        exact h _ _ w' hown' hbl
theorem own_nil {w : World} {base size n c : Nat} {e : TypeId} {A : Option Addr} {xs : List Value} (h : w.ownsRow base e size (.slice A n c) n xs) : A = none → n = 0 ∧ c = 0 := by
  intro hA
  subst hA
  rcases h.2 with ⟨hv, hz0⟩ | ⟨g, cap, cur, hv, hrest⟩
  · injection hv with h1 h2 h3
    exact ⟨h2, h3⟩
  · injection hv with h1
    cases h1

theorem own_empty {w : World} {base size : Nat} {e : TypeId} (hb : base ≤ w.heap.size) : (w.alloc (.cells #[] e)).ownsRow base e size (.slice (some ⟨w.heap.size, 0, none⟩) 0 0) 0 [] :=
  World.ownsRow_lit w #[] 0 hb (Nat.zero_le _) (by simp)

def veq (a b : V) : Bool := decide (a.ty = b.ty) && decide (a.n = b.n) && (a.s.toList == b.s.toList)
theorem veq_iff {a b : V} : veq a b = true ↔ a = b := by
  obtain ⟨t, n, s⟩ := a
  obtain ⟨t', n', s'⟩ := b
  simp only [veq, Bool.and_eq_true, decide_eq_true_eq, beq_iff_eq, V.mk.injEq]
  constructor
  · rintro ⟨⟨h1, h2⟩, h3⟩
    refine ⟨h1, h2, ?_⟩
    rw [ByteArray.toList_eq, ByteArray.toList_eq] at h3
    exact ByteArray.ext (Array.toList_inj.1 h3)
  · rintro ⟨h1, h2, h3⟩
    exact ⟨⟨h1, h2⟩, by rw [h3]⟩
theorem veq_self (a : V) : veq a a = true := veq_iff.2 rfl
instance : DecidableEq V := fun a b => if h : veq a b = true then isTrue (veq_iff.1 h) else isFalse (fun e => h (by rw [e]; exact veq_self _))
theorem veq_comm (a b : V) : veq a b = veq b a := by
  rw [Bool.eq_iff_iff, veq_iff, veq_iff]; exact eq_comm
theorem eqGuard_Val : Tryz.prog.eqGuardType Tryz.prog.depth 49 = false := by kernel_rfl
theorem equalIn_Val (a b : V) (W : World) : (Op.equalIn 10000 49 (.agg #[.int .i64 a.ty, .int .i64 a.n, .string a.s]) (.agg #[.int .i64 b.ty, .int .i64 b.n, .string b.s])).run Tryz.prog W = .ok (veq a b) W := by
  have h0 : Tryz.prog.stoodInHeld 49 = false := by kernel_rfl
  rw [show (10000 : Nat) = 9999 + 1 from rfl, run_equalIn_struct W 9999 _ _ _ (by kernel_rfl) h0]
  by_cases h1 : a.ty = b.ty <;> by_cases h2 : a.n = b.n <;> by_cases h3 : a.s.toList = b.s.toList <;> simp [go_sem, veq, h1, h2, h3]

end Go.Proofs.YtgpimlmolcjeoaaGreatDoor
