/-
  Contracts of InDict (by slices.Index in the program) and of Base.
-/
import Derived.Test.YtckfogpjljbelaaVlist
namespace Go.Proofs.Ytckfogpjljbelaa
open Go.RowKit
set_option linter.unusedVariables false
set_option maxRecDepth 100000

def idxGo : List V → V → Nat → Int
  | [], _, _ => -1
  | x :: xs, v, i => if veq x v then (i : Int) else idxGo xs v (i + 1)
def inDict (d : List V) (v : V) : Int := idxGo d v 0
theorem drop_at {α : Type} {l : List α} {k : Nat} {x : α} (h : l[k]? = some x) : l.drop k = x :: l.drop (k + 1) := by
  obtain ⟨hk, rfl⟩ := List.getElem?_eq_some_iff.1 h
  exact List.drop_eq_getElem_cons hk
theorem idx_hit {d : List V} {v x : V} {k : Nat} (h : d[k]? = some x) (hv : veq x v = true) : idxGo (d.drop k) v k = (k : Int) := by
  rw [drop_at h, idxGo, if_pos hv]
theorem idx_miss {d : List V} {v x : V} {k : Nat} (h : d[k]? = some x) (hv : veq x v = false) : idxGo (d.drop k) v k = idxGo (d.drop (k + 1)) v (k + 1) := by
  rw [drop_at h, idxGo, if_neg (by simp [hv])]
theorem idx_end {d : List V} {v : V} {k : Nat} (h : d.length ≤ k) : idxGo (d.drop k) v k = -1 := by
  rw [List.drop_eq_nil_of_le h, idxGo]
theorem idxGo_bd (d : List V) (v : V) : ∀ i, idxGo d v i = -1 ∨ (i : Int) ≤ idxGo d v i ∧ idxGo d v i < (i + d.length : Nat) := by
  induction d with
  | nil => intro i; exact .inl rfl
  | cons x xs ih =>
    intro i
    unfold idxGo
    split
    · right; simp only [List.length_cons]; omega
    · rcases ih (i + 1) with h | h
      · exact .inl h
      · right; simp only [List.length_cons]; omega
theorem inDict_bd (d : List V) (v : V) : inDict d v = -1 ∨ 0 ≤ inDict d v ∧ inDict d v < d.length := by
  rcases idxGo_bd d v 0 with h | h
  · exact .inl h
  · right; unfold inDict; simp at h; exact h


set_option maxHeartbeats 1000000 in
theorem slices_Index (w : World) (A : Option Addr) (c : Nat) (d : List V) (hr : Reads w w.heap.size 3 A d.length (valCells d)) (hl : d.length ≤ 1099511627776) (hi : ∀ x ∈ d, x.ok) (v : V) (hv : v.ok) :
    Calls Try.prog 97 #[.slice A d.length c, v.val] w fun e w' => e = .returned (.int .i64 (inDict d v)) ∧ Below w.heap.size w w' := by
  have hgt := eqGuard_Val
  clear hi hv
  show Calls Try.prog 97 #[.slice A d.length c, .agg #[.int .i64 v.ty, .int .i64 v.n, .string v.s]] w _
  go_enter Try.func97, Try.ntmps97
  go_wp2
  go_loopw [8] (fun i wr => ∃ k : Nat, k ≤ d.length ∧ i = .int .i64 k ∧ Hid (inDict d v = idxGo (d.drop k) v k) ∧ Below (w.heap.size + 1) (w.alloc (.cells #[.int .i64 v.ty, .int .i64 v.n, .string v.s] 28)) wr) (fun i _ => d.length - (intOf i).toNat)
  case atStart => exact ⟨0, Nat.zero_le _, rfl, Lib.hid rfl, Below.refl _ _⟩
  case round =>
    obtain ⟨k, hk, rfl, hx0, hbl⟩ := hrel
    have c0 : wr.cell? ⟨w.heap.size, 0, none⟩ = some (.int .i64 v.ty) := (hbl.cell (p := ⟨w.heap.size, 0, none⟩) (by simp)).trans (by simp [go_sem])
    have c1 : wr.cell? ⟨w.heap.size, 1, none⟩ = some (.int .i64 v.n) := (hbl.cell (p := ⟨w.heap.size, 1, none⟩) (by simp)).trans (by simp [go_sem])
    have c2 : wr.cell? ⟨w.heap.size, 2, none⟩ = some (.string v.s) := (hbl.cell (p := ⟨w.heap.size, 2, none⟩) (by simp)).trans (by simp [go_sem])
    have hb0 : Below w.heap.size w wr := (Below.alloc0 (Below.refl _ _) _).trans (hbl.mono (by omega))
    by_cases hlt : k < d.length
    · obtain ⟨p, off, x, rfl, hb, hx, hc0, hc1, hc2⟩ := hr.v hlt
      have hd0 : wr.cell? ⟨p, off + k * 3, none⟩ = some (.int .i64 x.ty) := (hb0.cell (p := ⟨p, off + k * 3, none⟩) hb).trans hc0
      have hd1 : wr.cell? ⟨p, off + k * 3 + 1, none⟩ = some (.int .i64 x.n) := (hb0.cell (p := ⟨p, off + k * 3 + 1, none⟩) hb).trans hc1
      have hd2 : wr.cell? ⟨p, off + k * 3 + 2, none⟩ = some (.string x.s) := (hb0.cell (p := ⟨p, off + k * 3 + 2, none⟩) hb).trans hc2
      have heq := (by intro W; rw [veq_comm]; exact equalIn_Val v x W : ∀ W, (Op.equalIn 10000 28 (.agg #[.int .i64 v.ty, .int .i64 v.n, .string v.s]) (.agg #[.int .i64 x.ty, .int .i64 x.n, .string x.s])).run Try.prog W = .ok (veq x v) W)
      clear hr hc0 hc1 hc2
      cases hv : veq x v
      · rw [hv] at heq
        have hm := Lib.hid (hx0.out.trans (idx_miss hx.out hv))
        clear hv hx0
        go_wp2
        go_quiet (fail)
        all_goals go_wp2
        go_roundw
        case rel => exact ⟨k + 1, by omega, by go_num, hm, below_drewN hbl _⟩
        case measure => simp [intOf]; omega
      · rw [hv] at heq
        have hm := Lib.hid (hx0.out.trans (idx_hit hx.out hv))
        clear hv hx0
        go_wp2
        go_quiet (fail)
        all_goals go_wp2
        go_ret
        exact ⟨ret_int hm.out.symm, below_drewN hb0 _⟩
    · have hm := Lib.hid (hx0.out.trans (idx_end (by omega)))
      go_wp2
      go_ret
      exact ⟨ret_int hm.out.symm, hb0⟩

set_option maxHeartbeats 1000000 in
theorem spec_InDict (w : World) (A : Option Addr) (c : Nat) (d : List V) (hr : Reads w w.heap.size 3 A d.length (valCells d)) (hl : d.length ≤ 1099511627776) (hi : ∀ x ∈ d, x.ok) (v : V) (hv : v.ok) :
    Calls Try.prog 72 #[.slice A d.length c, v.val] w fun e w' => e = .returned (.int .i64 (inDict d v)) ∧ Below w.heap.size w w' := by
  have hgt := eqGuard_Val
  clear hi hv
  show Calls Try.prog 72 #[.slice A d.length c, .agg #[.int .i64 v.ty, .int .i64 v.n, .string v.s]] w _
  go_enter Try.func72, Try.ntmps72
  go_wp2
  go_loopw [5] (fun i wr => ∃ k : Nat, k ≤ d.length ∧ i = .int .i64 k ∧ Hid (inDict d v = idxGo (d.drop k) v k) ∧ Below (w.heap.size + 1) (w.alloc (.cells #[.int .i64 v.ty, .int .i64 v.n, .string v.s] 28)) wr) (fun i _ => d.length - (intOf i).toNat)
  case atStart => exact ⟨0, Nat.zero_le _, rfl, Lib.hid rfl, Below.refl _ _⟩
  case round =>
    obtain ⟨k, hk, rfl, hx0, hbl⟩ := hrel
    have c0 : wr.cell? ⟨w.heap.size, 0, none⟩ = some (.int .i64 v.ty) := (hbl.cell (p := ⟨w.heap.size, 0, none⟩) (by simp)).trans (by simp [go_sem])
    have c1 : wr.cell? ⟨w.heap.size, 1, none⟩ = some (.int .i64 v.n) := (hbl.cell (p := ⟨w.heap.size, 1, none⟩) (by simp)).trans (by simp [go_sem])
    have c2 : wr.cell? ⟨w.heap.size, 2, none⟩ = some (.string v.s) := (hbl.cell (p := ⟨w.heap.size, 2, none⟩) (by simp)).trans (by simp [go_sem])
    have hb0 : Below w.heap.size w wr := (Below.alloc0 (Below.refl _ _) _).trans (hbl.mono (by omega))
    by_cases hlt : k < d.length
    · obtain ⟨p, off, x, rfl, hb, hx, hc0, hc1, hc2⟩ := hr.v hlt
      have hd0 : wr.cell? ⟨p, off + k * 3, none⟩ = some (.int .i64 x.ty) := (hb0.cell (p := ⟨p, off + k * 3, none⟩) hb).trans hc0
      have hd1 : wr.cell? ⟨p, off + k * 3 + 1, none⟩ = some (.int .i64 x.n) := (hb0.cell (p := ⟨p, off + k * 3 + 1, none⟩) hb).trans hc1
      have hd2 : wr.cell? ⟨p, off + k * 3 + 2, none⟩ = some (.string x.s) := (hb0.cell (p := ⟨p, off + k * 3 + 2, none⟩) hb).trans hc2
      have heq := equalIn_Val x v
      clear hr hc0 hc1 hc2
      cases hv : veq x v
      · rw [hv] at heq
        have hm := Lib.hid (hx0.out.trans (idx_miss hx.out hv))
        clear hv hx0
        go_wp2
        go_quiet (fail)
        all_goals go_wp2
        go_roundw
        case rel => exact ⟨k + 1, by omega, by go_num, hm, below_drewN hbl _⟩
        case measure => simp [intOf]; omega
      · rw [hv] at heq
        have hm := Lib.hid (hx0.out.trans (idx_hit hx.out hv))
        clear hv hx0
        go_wp2
        go_quiet (fail)
        all_goals go_wp2
        go_ret
        exact ⟨ret_int hm.out.symm, below_drewN hb0 _⟩
    · have hm := Lib.hid (hx0.out.trans (idx_end (by omega)))
      go_wp2
      go_ret
      exact ⟨ret_int hm.out.symm, hb0⟩

theorem impl_InDict (w : World) (A : Option Addr) (c : Nat) (d : List V) (hr : Reads w w.heap.size 3 A d.length (valCells d)) (hl : d.length ≤ 1099511627776) (hi : ∀ x ∈ d, x.ok) (v : V) (hv : v.ok) :
    Calls Try.prog 73 #[.slice A d.length c, v.val] w fun e w' => e = .returned (.int .i64 (inDict d v)) ∧ Below w.heap.size w w' := by
  show Calls Try.prog 73 #[.slice A d.length c, .agg #[.int .i64 v.ty, .int .i64 v.n, .string v.s]] w _
  have hb0 : Below w.heap.size w (w.alloc (.cells #[.int .i64 v.ty, .int .i64 v.n, .string v.s] 28)) := Below.alloc0 (Below.refl _ _) _
  have H := Lib.hid (slices_Index (w.alloc (.cells #[.int .i64 v.ty, .int .i64 v.n, .string v.s] 28)) A c d ((hr.below hb0 (Nat.le_refl _)).more hb0.size) hl hi v hv)
  clear hr hi hv
  go_enter Try.func73, Try.ntmps73
  go_wp2_with fail
  refine H.out.mono ?_
  rintro e w' ⟨rfl, hb⟩
  have hb2 := hb0.trans (hb.mono hb0.size)
  clear hb hb0
  go_wp2
  go_ret
  exact ⟨rfl, hb2⟩

def base (vs : List V) : Int := match vs with | [] => 0 | x :: _ => vs.foldl (fun m y => min m y.n) x.n
theorem base_nil : base [] = 0 := rfl
theorem base_start {vs : List V} {x : V} (h : vs[0]? = some x) : base vs = (vs.drop 0).foldl (fun m y => min m y.n) x.n := by
  cases vs with
  | nil => simp at h
  | cons y ys => simp at h; subst h; rfl
theorem fold_step {vs : List V} {k : Nat} {x : V} {m : Int} (h : vs[k]? = some x) : (vs.drop k).foldl (fun m y => min m y.n) m = (vs.drop (k + 1)).foldl (fun m y => min m y.n) (min m x.n) := by
  rw [drop_at h]; rfl
theorem fold_end {vs : List V} {k : Nat} {m : Int} (h : vs.length ≤ k) : (vs.drop k).foldl (fun m y => min m y.n) m = m := by
  rw [List.drop_eq_nil_of_le h]; rfl

set_option maxHeartbeats 1000000 in
theorem impl_Base (w : World) (A : Option Addr) (c : Nat) (vs : List V) (hr : Reads w w.heap.size 3 A vs.length (valCells vs)) (hl : vs.length ≤ 1099511627776) (hi : ∀ x ∈ vs, x.ok) :
    Calls Try.prog 103 #[.slice A vs.length c] w fun e w' => e = .returned (.int .i64 (base vs)) ∧ Below w.heap.size w w' := by
  clear hi
  by_cases hn : vs.length = 0
  · have hbn := Lib.hid (show base vs = 0 by rw [List.eq_nil_of_length_eq_zero hn]; rfl)
    have e0 : ((vs.length : Int) == 0) = true := by rw [beq_iff_eq]; omega
    clear hn
    go_enter Try.func103, Try.ntmps103
    go_wp2
    go_ret
    exact ⟨ret_int hbn.out.symm, Below.refl _ _⟩
  have e0 : ((vs.length : Int) == 0) = false := by rw [beq_eq_false_iff_ne]; omega
  have hpos : 0 < vs.length := by omega
  obtain ⟨p, off, x, rfl, hb, hx, hc0, hc1, hc2⟩ := hr.v hpos
  simp only [Nat.zero_mul, Nat.add_zero] at hc1
  have hst := Lib.hid (base_start hx.out)
  clear hn hc0 hc2
  go_enter Try.func103, Try.ntmps103
  go_wp2
  go_loopw [3, 15] (fun m i wr => ∃ (k : Nat) (q : Int), k ≤ vs.length ∧ i = .int .i64 k ∧ m = .int .i64 q ∧ Hid (base vs = (vs.drop k).foldl (fun m y => min m y.n) q) ∧ Below w.heap.size w wr) (fun _ i _ => vs.length - (intOf i).toNat)
  case atStart => exact ⟨0, _, Nat.zero_le _, rfl, rfl, hst, Below.refl _ _⟩
  case round =>
    clear hst hc1 hx hb
    obtain ⟨k, q, hk, rfl, rfl, hf, hbl⟩ := hrel
    by_cases hlt : k < vs.length
    · obtain ⟨p2, off2, y, he, hb, hx, hc0, hc1, hc2⟩ := hr.v hlt
      obtain ⟨rfl, rfl⟩ : p = p2 ∧ off = off2 := by injection he with he; injection he with h1 h2; exact ⟨h1, h2⟩
      clear he
      have hd0 : wr.cell? ⟨p, off + k * 3, none⟩ = some (.int .i64 y.ty) := (hbl.cell (p := ⟨p, off + k * 3, none⟩) hb).trans hc0
      have hd1 : wr.cell? ⟨p, off + k * 3 + 1, none⟩ = some (.int .i64 y.n) := (hbl.cell (p := ⟨p, off + k * 3 + 1, none⟩) hb).trans hc1
      have hd2 : wr.cell? ⟨p, off + k * 3 + 2, none⟩ = some (.string y.s) := (hbl.cell (p := ⟨p, off + k * 3 + 2, none⟩) hb).trans hc2
      have hf2 := Lib.hid (hf.out.trans (fold_step hx.out))
      clear hr hc0 hc1 hc2 hf
      rcases Int.lt_trichotomy q y.n with h | h | h
      all_goals
        go_wp2
        go_roundw
        case rel => exact ⟨k + 1, _, by omega, by go_num, rfl, by first | exact hf2 | (have h2 := hf2.out; exact (by first | rwa [show min q y.n = q from by omega] at h2 | rwa [show min q y.n = y.n from by omega] at h2)), hbl.alloc hbl.size _⟩
        case measure => simp [intOf]; omega
    · have hf2 := Lib.hid (hf.out.trans (fold_end (by omega)))
      go_wp2
      go_ret
      exact ⟨ret_int hf2.out.symm, hbl⟩
set_option maxHeartbeats 1000000 in
theorem spec_Base (w : World) (A : Option Addr) (c : Nat) (vs : List V) (hr : Reads w w.heap.size 3 A vs.length (valCells vs)) (hl : vs.length ≤ 1099511627776) (hi : ∀ x ∈ vs, x.ok) :
    Calls Try.prog 102 #[.slice A vs.length c] w fun e w' => e = .returned (.int .i64 (base vs)) ∧ Below w.heap.size w w' := by
  clear hi
  go_enter Try.func102, Try.ntmps102
  go_wp2
  go_loopw [3, 4] (fun m i wr => ∃ (k : Nat) (q : Int), k ≤ vs.length ∧ i = .int .i64 k ∧ m = .int .i64 q ∧ Hid (k = 0 ∧ q = 0 ∨ 0 < k ∧ base vs = (vs.drop k).foldl (fun m y => min m y.n) q) ∧ Below w.heap.size w wr) (fun _ i _ => vs.length - (intOf i).toNat)
  case atStart => exact ⟨0, _, Nat.zero_le _, rfl, rfl, Lib.hid (.inl ⟨rfl, rfl⟩), Below.refl _ _⟩
  case round =>
    obtain ⟨k, q, hk, rfl, rfl, hf, hbl⟩ := hrel
    by_cases hlt : k < vs.length
    · obtain ⟨p, off, y, rfl, hb, hx, hc0, hc1, hc2⟩ := hr.v hlt
      have hd1 : wr.cell? ⟨p, off + k * 3 + 1, none⟩ = some (.int .i64 y.n) := (hbl.cell (p := ⟨p, off + k * 3 + 1, none⟩) hb).trans hc1
      clear hr hc0 hc1 hc2
      by_cases hk0 : k = 0
      · subst hk0
        have hf2 : Hid (0 + 1 = 0 ∧ y.n = 0 ∨ 0 < 0 + 1 ∧ base vs = (vs.drop (0 + 1)).foldl (fun m y => min m y.n) y.n) := .inr ⟨by omega, by rw [base_start hx.out, fold_step hx.out, Int.min_self]⟩
        clear hf
        simp only [Nat.zero_mul, Nat.add_zero] at hd1
        go_wp2
        go_roundw
        case rel => exact ⟨0 + 1, _, by omega, rfl, rfl, hf2, hbl⟩
        case measure => simp [intOf]; omega
      · have e0 : ((k : Int) == 0) = false := by simp; omega
        have hfb := hf.out.resolve_left (fun h => hk0 h.1)
        have hf2 : Hid (k + 1 = 0 ∧ min q y.n = 0 ∨ 0 < k + 1 ∧ base vs = (vs.drop (k + 1)).foldl (fun m y => min m y.n) (min q y.n)) := .inr ⟨by omega, hfb.2.trans (fold_step hx.out)⟩
        clear hf hfb
        by_cases hm : y.n < q
        · have hmm : min q y.n = y.n := by omega
          rw [hmm] at hf2
          clear hmm
          go_wp2
          go_roundw
          case rel => exact ⟨k + 1, _, by omega, by go_num, rfl, hf2, hbl⟩
          case measure => simp [intOf]; omega
        · have hmm : min q y.n = q := by omega
          rw [hmm] at hf2
          clear hmm
          go_wp2
          go_roundw
          case rel => exact ⟨k + 1, _, by omega, by go_num, rfl, hf2, hbl⟩
          case measure => simp [intOf]; omega
    · have hkn : k = vs.length := by omega
      have hf2 : Hid (base vs = q) := by
        show base vs = q
        rcases hf.out with ⟨h0, h1⟩ | ⟨_, h1⟩
        · rw [h1, List.eq_nil_of_length_eq_zero (l := vs) (by omega)]; rfl
        · rw [h1]; exact fold_end (by omega)
      clear hf hkn
      go_wp2
      go_ret
      exact ⟨ret_int hf2.out.symm, hbl⟩

end Go.Proofs.Ytckfogpjljbelaa
