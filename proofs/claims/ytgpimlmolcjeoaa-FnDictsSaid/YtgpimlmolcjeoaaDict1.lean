/-
  Contracts of InDict (by slices.Index in the program) and of Base.
-/
import Derived.Test.YtgpimlmolcjeoaaVlist
namespace Go.Proofs.Ytgpimlmolcjeoaa
open Go.RowKit
set_option linter.unusedVariables false
set_option maxRecDepth 100000

def idxGo : List V → V → Nat → Int
  | [], _, _ => -1
  | x :: xs, v, i => if veq x v then (i : Int) else idxGo xs v (i + 1)
def inDict (d : List V) (v : V) : Int := idxGo d v 0
theorem drop_at {α : Type} {l : List α} {k : Nat} {x : α} (h : l[k]? = some x) : l.drop k = x :: l.drop (k + 1) := by
  obtain ⟨hk, rfl⟩ := List.getElem?_eq_some_iff.1 h
  exact List.drop_eq_getElem_cons hk
theorem idx_hit {d : List V} {v x : V} {k : Nat} (h : d[k]? = some x) (hv : veq x v = true) : idxGo (d.drop k) v k = (k : Int) := by
  rw [drop_at h, idxGo, if_pos hv]
theorem idx_miss {d : List V} {v x : V} {k : Nat} (h : d[k]? = some x) (hv : veq x v = false) : idxGo (d.drop k) v k = idxGo (d.drop (k + 1)) v (k + 1) := by
  rw [drop_at h, idxGo, if_neg (by simp [hv])]
theorem idx_end {d : List V} {v : V} {k : Nat} (h : d.length ≤ k) : idxGo (d.drop k) v k = -1 := by
  rw [List.drop_eq_nil_of_le h, idxGo]
theorem idxGo_bd (d : List V) (v : V) : ∀ i, idxGo d v i = -1 ∨ (i : Int) ≤ idxGo d v i ∧ idxGo d v i < (i + d.length : Nat) := by
  induction d with
  | nil => intro i; exact .inl rfl
  | cons x xs ih =>
    intro i
    unfold idxGo
    split
    · right; simp only [List.length_cons]; omega
    · rcases ih (i + 1) with h | h
      · exact .inl h
      · right; simp only [List.length_cons]; omega
theorem inDict_bd (d : List V) (v : V) : inDict d v = -1 ∨ 0 ≤ inDict d v ∧ inDict d v < d.length := by
  rcases idxGo_bd d v 0 with h | h
  · exact .inl h
  · right; unfold inDict; simp at h; exact h


set_option maxHeartbeats 1000000 in
theorem slices_Index (w : World) (A : Option Addr) (c : Nat) (d : List V) (hr : Reads w w.heap.size 3 A d.length (valCells d)) (hl : d.length ≤ 1099511627776) (hi : ∀ x ∈ d, x.ok) (v : V) (hv : v.ok) :
    Calls Try.prog 85 #[.slice A d.length c, v.val] w fun e w' => e = .returned (.int .i64 (inDict d v)) ∧ Below w.heap.size w w' := by
  have hgt := eqGuard_Val
  clear hi hv
  show Calls Try.prog 85 #[.slice A d.length c, .agg #[.int .i64 v.ty, .int .i64 v.n, .string v.s]] w _
  go_enter Try.func85, Try.ntmps85
  go_wp2
  go_loopw [8] (fun i wr => ∃ k : Nat, k ≤ d.length ∧ i = .int .i64 k ∧ Hid (inDict d v = idxGo (d.drop k) v k) ∧ Below (w.heap.size + 1) (w.alloc (.cells #[.int .i64 v.ty, .int .i64 v.n, .string v.s] 37)) wr) (fun i _ => d.length - (intOf i).toNat)
  case atStart => exact ⟨0, Nat.zero_le _, rfl, Lib.hid rfl, Below.refl _ _⟩
  case round =>
    obtain ⟨k, hk, rfl, hx0, hbl⟩ := hrel
    have c0 : wr.cell? ⟨w.heap.size, 0, none⟩ = some (.int .i64 v.ty) := (hbl.cell (p := ⟨w.heap.size, 0, none⟩) (by simp)).trans (by simp [go_sem])
    have c1 : wr.cell? ⟨w.heap.size, 1, none⟩ = some (.int .i64 v.n) := (hbl.cell (p := ⟨w.heap.size, 1, none⟩) (by simp)).trans (by simp [go_sem])
    have c2 : wr.cell? ⟨w.heap.size, 2, none⟩ = some (.string v.s) := (hbl.cell (p := ⟨w.heap.size, 2, none⟩) (by simp)).trans (by simp [go_sem])
    have hb0 : Below w.heap.size w wr := (Below.alloc0 (Below.refl _ _) _).trans (hbl.mono (by omega))
    by_cases hlt : k < d.length
    · obtain ⟨p, off, x, rfl, hb, hx, hc0, hc1, hc2⟩ := hr.v hlt
      have hd0 : wr.cell? ⟨p, off + k * 3, none⟩ = some (.int .i64 x.ty) := (hb0.cell (p := ⟨p, off + k * 3, none⟩) hb).trans hc0
      have hd1 : wr.cell? ⟨p, off + k * 3 + 1, none⟩ = some (.int .i64 x.n) := (hb0.cell (p := ⟨p, off + k * 3 + 1, none⟩) hb).trans hc1
      have hd2 : wr.cell? ⟨p, off + k * 3 + 2, none⟩ = some (.string x.s) := (hb0.cell (p := ⟨p, off + k * 3 + 2, none⟩) hb).trans hc2
      have heq := (by intro W; rw [veq_comm]; exact equalIn_Val v x W : ∀ W, (Op.equalIn 10000 37 (.agg #[.int .i64 v.ty, .int .i64 v.n, .string v.s]) (.agg #[.int .i64 x.ty, .int .i64 x.n, .string x.s])).run Try.prog W = .ok (veq x v) W)
      clear hr hc0 hc1 hc2
      cases hv : veq x v
      · rw [hv] at heq
        have hm := Lib.hid (hx0.out.trans (idx_miss hx.out hv))
        clear hv hx0
        go_wp2
        go_quiet (fail)
        all_goals go_wp2
        go_roundw
        case rel => exact ⟨k + 1, by omega, by go_num, hm, below_drewN hbl _⟩
        case measure => simp [intOf]; omega
      · rw [hv] at heq
        have hm := Lib.hid (hx0.out.trans (idx_hit hx.out hv))
        clear hv hx0
        go_wp2
        go_quiet (fail)
        all_goals go_wp2
        go_ret
        exact ⟨ret_int hm.out.symm, below_drewN hb0 _⟩
    · have hm := Lib.hid (hx0.out.trans (idx_end (by omega)))
      go_wp2
      go_ret
      exact ⟨ret_int hm.out.symm, hb0⟩

set_option maxHeartbeats 1000000 in
theorem spec_InDict (w : World) (A : Option Addr) (c : Nat) (d : List V) (hr : Reads w w.heap.size 3 A d.length (valCells d)) (hl : d.length ≤ 1099511627776) (hi : ∀ x ∈ d, x.ok) (v : V) (hv : v.ok) :
    Calls Try.prog 86 #[.slice A d.length c, v.val] w fun e w' => e = .returned (.int .i64 (inDict d v)) ∧ Below w.heap.size w w' := by
  have hgt := eqGuard_Val
  clear hi hv
  show Calls Try.prog 86 #[.slice A d.length c, .agg #[.int .i64 v.ty, .int .i64 v.n, .string v.s]] w _
  go_enter Try.func86, Try.ntmps86
  go_wp2
  go_loopw [5] (fun i wr => ∃ k : Nat, k ≤ d.length ∧ i = .int .i64 k ∧ Hid (inDict d v = idxGo (d.drop k) v k) ∧ Below (w.heap.size + 1) (w.alloc (.cells #[.int .i64 v.ty, .int .i64 v.n, .string v.s] 37)) wr) (fun i _ => d.length - (intOf i).toNat)
  case atStart => exact ⟨0, Nat.zero_le _, rfl, Lib.hid rfl, Below.refl _ _⟩
  case round =>
    obtain ⟨k, hk, rfl, hx0, hbl⟩ := hrel
    have c0 : wr.cell? ⟨w.heap.size, 0, none⟩ = some (.int .i64 v.ty) := (hbl.cell (p := ⟨w.heap.size, 0, none⟩) (by simp)).trans (by simp [go_sem])
    have c1 : wr.cell? ⟨w.heap.size, 1, none⟩ = some (.int .i64 v.n) := (hbl.cell (p := ⟨w.heap.size, 1, none⟩) (by simp)).trans (by simp [go_sem])
    have c2 : wr.cell? ⟨w.heap.size, 2, none⟩ = some (.string v.s) := (hbl.cell (p := ⟨w.heap.size, 2, none⟩) (by simp)).trans (by simp [go_sem])
    have hb0 : Below w.heap.size w wr := (Below.alloc0 (Below.refl _ _) _).trans (hbl.mono (by omega))
    by_cases hlt : k < d.length
    · obtain ⟨p, off, x, rfl, hb, hx, hc0, hc1, hc2⟩ := hr.v hlt
      have hd0 : wr.cell? ⟨p, off + k * 3, none⟩ = some (.int .i64 x.ty) := (hb0.cell (p := ⟨p, off + k * 3, none⟩) hb).trans hc0
      have hd1 : wr.cell? ⟨p, off + k * 3 + 1, none⟩ = some (.int .i64 x.n) := (hb0.cell (p := ⟨p, off + k * 3 + 1, none⟩) hb).trans hc1
      have hd2 : wr.cell? ⟨p, off + k * 3 + 2, none⟩ = some (.string x.s) := (hb0.cell (p := ⟨p, off + k * 3 + 2, none⟩) hb).trans hc2
      have heq := equalIn_Val x v
      clear hr hc0 hc1 hc2
      cases hv : veq x v
      · rw [hv] at heq
        have hm := Lib.hid (hx0.out.trans (idx_miss hx.out hv))
        clear hv hx0
        go_wp2
        go_quiet (fail)
        all_goals go_wp2
        go_roundw
        case rel => exact ⟨k + 1, by omega, by go_num, hm, below_drewN hbl _⟩
        case measure => simp [intOf]; omega
      · rw [hv] at heq
        have hm := Lib.hid (hx0.out.trans (idx_hit hx.out hv))
        clear hv hx0
        go_wp2
        go_quiet (fail)
        all_goals go_wp2
        go_ret
        exact ⟨ret_int hm.out.symm, below_drewN hb0 _⟩
    · have hm := Lib.hid (hx0.out.trans (idx_end (by omega)))
      go_wp2
      go_ret
      exact ⟨ret_int hm.out.symm, hb0⟩

theorem impl_InDict (w : World) (A : Option Addr) (c : Nat) (d : List V) (hr : Reads w w.heap.size 3 A d.length (valCells d)) (hl : d.length ≤ 1099511627776) (hi : ∀ x ∈ d, x.ok) (v : V) (hv : v.ok) :
    Calls Try.prog 51 #[.slice A d.length c, v.val] w fun e w' => e = .returned (.int .i64 (inDict d v)) ∧ Below w.heap.size w w' := by
  show Calls Try.prog 51 #[.slice A d.length c, .agg #[.int .i64 v.ty, .int .i64 v.n, .string v.s]] w _
  have hb0 : Below w.heap.size w (w.alloc (.cells #[.int .i64 v.ty, .int .i64 v.n, .string v.s] 37)) := Below.alloc0 (Below.refl _ _) _
  have H := Lib.hid (slices_Index (w.alloc (.cells #[.int .i64 v.ty, .int .i64 v.n, .string v.s] 37)) A c d ((hr.below hb0 (Nat.le_refl _)).more hb0.size) hl hi v hv)
  clear hr hi hv
  go_enter Try.func51, Try.ntmps51
  go_wp2_with fail
  refine H.out.mono ?_
  rintro e w' ⟨rfl, hb⟩
  have hb2 := hb0.trans (hb.mono hb0.size)
  clear hb hb0
  go_wp2
  go_ret
  exact ⟨rfl, hb2⟩


end Go.Proofs.Ytgpimlmolcjeoaa
