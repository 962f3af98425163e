/-
  Contracts of LongestRun and Turns, in the program and in the reference.
-/
import Derived.Test.YtgpimlmolcjeoaaRuns
import Derived.Test.YtgpimlmolcjeoaaArith
namespace Go.Proofs.Ytgpimlmolcjeoaa
open Go.RowKit
set_option linter.unusedVariables false
set_option maxRecDepth 100000

def longTo (rs : List (V × Int)) (k : Nat) : Int := (rs.take k).foldl (fun m r => max m r.2) 0
def longest (vs : List V) : Int := longTo (runsOf vs) (runsOf vs).length
theorem longTo_snoc {rs : List (V × Int)} {k : Nat} {x : V} {q : Int} (h : rs[k]? = some (x, q)) : longTo rs (k + 1) = max (longTo rs k) q := by
  unfold longTo
  rw [List.take_add_one, h]
  simp [List.foldl_append]
def turnsOf (vs : List V) : Int := max 0 (((runsOf vs).length : Int) - 1)
theorem turns_nil {vs : List V} (h : vs.length = 0) : turnsOf vs = 0 := by
  have : vs = [] := List.eq_nil_of_length_eq_zero h
  subst this
  rfl
theorem turns_done {vs : List V} {rs : List (V × Int)} {m : Nat} (h : RunsAt vs vs.length rs) (hm : rs.length = m + 1) : turnsOf vs = (m : Int) := by
  unfold turnsOf
  rw [h.done, hm]
  omega

set_option maxHeartbeats 1600000 in
theorem impl_LongestRun (w : World) (A : Option Addr) (c : Nat) (vs : List V) (hr : Reads w w.heap.size 3 A vs.length (valCells vs)) (hl : vs.length ≤ 1099511627776) (hi : ∀ x ∈ vs, x.ok) :
    Calls Try.prog 24 #[.slice A vs.length c] w fun e w' => e = .returned (.int .i64 (longest vs)) ∧ Below w.heap.size w w' := by
  have hol := runsOf_len vs
  go_enter Try.func24, Try.ntmps24
  go_wp2_with fail
  refine (impl_Runs _ _ _ _ hr hl hi).mono ?_
  rintro e w1 ⟨A1, c1, rfl, hown1, hbl1⟩
  have hr1 := own_reads hown1
  have hsz1 := hbl1.size
  obtain ⟨rs, hrs⟩ : ∃ rs, rs = runsOf vs := ⟨_, rfl⟩
  have hre := Lib.hid (show longest vs = longTo rs rs.length by rw [hrs]; rfl)
  rw [← hrs] at hr1 hol ⊢
  clear hrs hown1 hr hi
  go_wp2_with fail
  go_loopw [3, 9] (fun o i wr => ∃ (k : Nat), k ≤ rs.length ∧ i = .int .i64 k ∧ o = .int .i64 (longTo rs k) ∧ Below w1.heap.size w1 wr) (fun _ i _ => rs.length - (intOf i).toNat)
  case atStart => exact ⟨0, Nat.zero_le _, rfl, rfl, Below.refl _ _⟩
  case round =>
    obtain ⟨k, hk, rfl, rfl, hbl⟩ := hrel
    by_cases hlt : k < rs.length
    · obtain ⟨p, off, x, q, rfl, hb, hx, hc0, hc1, hc2, hc3⟩ := hr1.run hlt
      have hd0 : wr.cell? ⟨p, off + k * 4, none⟩ = some (.int .i64 x.ty) := (hbl.cell (p := ⟨p, off + k * 4, none⟩) hb).trans hc0
      have hd1 : wr.cell? ⟨p, off + k * 4 + 1, none⟩ = some (.int .i64 x.n) := (hbl.cell (p := ⟨p, off + k * 4 + 1, none⟩) hb).trans hc1
      have hd2 : wr.cell? ⟨p, off + k * 4 + 2, none⟩ = some (.string x.s) := (hbl.cell (p := ⟨p, off + k * 4 + 2, none⟩) hb).trans hc2
      have hd3 : wr.cell? ⟨p, off + k * 4 + 3, none⟩ = some (.int .i64 q) := (hbl.cell (p := ⟨p, off + k * 4 + 3, none⟩) hb).trans hc3
      have hs := longTo_snoc hx.out
      obtain ⟨m, hm⟩ : ∃ m, m = longTo rs k := ⟨_, rfl⟩
      rw [← hm] at hs ⊢
      clear hr1 hc0 hc1 hc2 hc3 hm
      have hbl2 := hbl.alloc hbl.size (.cells #[.int .i64 x.ty, .int .i64 x.n, .string x.s, .int .i64 q] 44)
      by_cases hmq : m ≤ q
      · rw [show max m q = q by omega] at hs
        have hs' := Lib.hid hs
        clear hs
        go_wp2
        go_roundw
        case rel => exact ⟨k + 1, by omega, by go_num, by rw [hs'.out]; congr 1; split <;> omega, hbl2⟩
        case measure => simp [intOf]; omega
      · rw [show max m q = m by omega] at hs
        have hs' := Lib.hid hs
        clear hs
        go_wp2
        go_roundw
        case rel => exact ⟨k + 1, by omega, by go_num, by rw [hs'.out]; congr 1; split <;> omega, hbl2⟩
        case measure => simp [intOf]; omega
    · have hkn : k = rs.length := by omega
      subst hkn
      go_wp2
      go_ret
      rw [hre.out]
      exact ⟨rfl, hbl1.trans (hbl.mono hsz1)⟩

set_option maxHeartbeats 1600000 in
theorem spec_LongestRun (w : World) (A : Option Addr) (c : Nat) (vs : List V) (hr : Reads w w.heap.size 3 A vs.length (valCells vs)) (hl : vs.length ≤ 1099511627776) (hi : ∀ x ∈ vs, x.ok) :
    Calls Try.prog 25 #[.slice A vs.length c] w fun e w' => e = .returned (.int .i64 (longest vs)) ∧ Below w.heap.size w w' := by
  have hol := runsOf_len vs
  go_enter Try.func25, Try.ntmps25
  go_wp2_with fail
  refine (spec_Runs _ _ _ _ hr hl hi).mono ?_
  rintro e w1 ⟨A1, c1, rfl, hown1, hbl1⟩
  have hr1 := own_reads hown1
  have hsz1 := hbl1.size
  obtain ⟨rs, hrs⟩ : ∃ rs, rs = runsOf vs := ⟨_, rfl⟩
  have hre := Lib.hid (show longest vs = longTo rs rs.length by rw [hrs]; rfl)
  rw [← hrs] at hr1 hol ⊢
  clear hrs hown1 hr hi
  go_wp2_with fail
  go_loopw [3, 5] (fun o i wr => ∃ (k : Nat), k ≤ rs.length ∧ i = .int .i64 k ∧ o = .int .i64 (longTo rs k) ∧ Below w1.heap.size w1 wr) (fun _ i _ => rs.length - (intOf i).toNat)
  case atStart => exact ⟨0, Nat.zero_le _, rfl, rfl, Below.refl _ _⟩
  case round =>
    obtain ⟨k, hk, rfl, rfl, hbl⟩ := hrel
    by_cases hlt : k < rs.length
    · obtain ⟨p, off, x, q, rfl, hb, hx, hc0, hc1, hc2, hc3⟩ := hr1.run hlt
      have hd0 : wr.cell? ⟨p, off + k * 4, none⟩ = some (.int .i64 x.ty) := (hbl.cell (p := ⟨p, off + k * 4, none⟩) hb).trans hc0
      have hd1 : wr.cell? ⟨p, off + k * 4 + 1, none⟩ = some (.int .i64 x.n) := (hbl.cell (p := ⟨p, off + k * 4 + 1, none⟩) hb).trans hc1
      have hd2 : wr.cell? ⟨p, off + k * 4 + 2, none⟩ = some (.string x.s) := (hbl.cell (p := ⟨p, off + k * 4 + 2, none⟩) hb).trans hc2
      have hd3 : wr.cell? ⟨p, off + k * 4 + 3, none⟩ = some (.int .i64 q) := (hbl.cell (p := ⟨p, off + k * 4 + 3, none⟩) hb).trans hc3
      have hs := longTo_snoc hx.out
      obtain ⟨m, hm⟩ : ∃ m, m = longTo rs k := ⟨_, rfl⟩
      rw [← hm] at hs ⊢
      clear hr1 hc0 hc1 hc2 hc3 hm
      have hs' := Lib.hid hs
      go_wp2_with (go_at_call 66; refine (spec_Most _ _ _).mono ?_; rintro e w9 ⟨rfl, rfl⟩)
      go_roundw
      case rel => exact ⟨k + 1, by omega, by go_num, by rw [hs'.out], hbl⟩
      case measure => simp [intOf]; omega
    · have hkn : k = rs.length := by omega
      subst hkn
      go_wp2
      go_ret
      rw [hre.out]
      exact ⟨rfl, hbl1.trans (hbl.mono hsz1)⟩

set_option maxHeartbeats 1600000 in
theorem impl_Turns (w : World) (A : Option Addr) (c : Nat) (vs : List V) (hr : Reads w w.heap.size 3 A vs.length (valCells vs)) (hl : vs.length ≤ 1099511627776) (hi : ∀ x ∈ vs, x.ok) :
    Calls Try.prog 26 #[.slice A vs.length c] w fun e w' => e = .returned (.int .i64 (turnsOf vs)) ∧ Below w.heap.size w w' := by
  have hol := runsOf_len vs
  go_enter Try.func26, Try.ntmps26
  go_wp2_with fail
  refine (impl_Runs _ _ _ _ hr hl hi).mono ?_
  rintro e w1 ⟨A1, c1, rfl, hown1, hbl1⟩
  have hre := Lib.hid (show turnsOf vs = max 0 (((runsOf vs).length : Int) - 1) from rfl)
  obtain ⟨m, hm⟩ : ∃ m, m = (runsOf vs).length := ⟨_, rfl⟩
  rw [← hm] at hol hre ⊢
  clear hm hown1 hr hi
  go_wp2
  all_goals
    go_ret
    exact ⟨ret_int (by rw [hre.out]; omega), hbl1⟩
set_option maxHeartbeats 1600000 in
theorem spec_Turns (w : World) (A : Option Addr) (c : Nat) (vs : List V) (hr : Reads w w.heap.size 3 A vs.length (valCells vs)) (hl : vs.length ≤ 1099511627776) (hi : ∀ x ∈ vs, x.ok) :
    Calls Try.prog 27 #[.slice A vs.length c] w fun e w' => e = .returned (.int .i64 (turnsOf vs)) ∧ Below w.heap.size w w' := by
  clear hi
  have hgt := eqGuard_Val
  by_cases h0 : vs.length = 0
  · have hre := Lib.hid (turns_nil h0)
    rw [h0]
    clear hr hl h0
    go_enter Try.func27, Try.ntmps27
    go_wp2
    go_loopw [3, 4] (fun n i wr => i = .int .i64 1 ∧ n = .int .i64 0 ∧ Below w.heap.size w wr) (fun _ i _ => 0)
    case atStart => exact ⟨rfl, rfl, Below.refl _ _⟩
    case round =>
      obtain ⟨rfl, rfl, hbl⟩ := hrel
      go_wp2
      go_ret
      rw [hre.out]
      exact ⟨rfl, hbl⟩
  have hx0 : vs[0]? = some vs[0] := List.getElem?_eq_getElem (by omega)
  have hR0 := Lib.hid (RunsAt.first hx0)
  go_enter Try.func27, Try.ntmps27
  go_wp2
  go_loopw [3, 4] (fun n i wr => ∃ (k m : Nat) (rs : List (V × Int)), k + 1 ≤ vs.length ∧ m ≤ k ∧ i = .int .i64 ((k + 1 : Nat) : Int) ∧ n = .int .i64 m ∧ Hid (RunsAt vs (k + 1) rs ∧ rs.length = m + 1) ∧ Below w.heap.size w wr) (fun _ i _ => vs.length - (intOf i).toNat)
  case atStart => exact ⟨0, 0, _, by omega, Nat.le_refl _, rfl, rfl, Lib.hid ⟨hR0.out, rfl⟩, Below.refl _ _⟩
  case round =>
    obtain ⟨k, m, rs, hk, hmk, rfl, rfl, hR, hbl⟩ := hrel
    by_cases hlt : k + 1 < vs.length
    · obtain ⟨p, off, x, rfl, hb, hx, hc0, hc1, hc2⟩ := hr.v hlt
      have hd0 : wr.cell? ⟨p, off + (k + 1) * 3, none⟩ = some (.int .i64 x.ty) := (hbl.cell (p := ⟨p, off + (k + 1) * 3, none⟩) hb).trans hc0
      have hd1 : wr.cell? ⟨p, off + (k + 1) * 3 + 1, none⟩ = some (.int .i64 x.n) := (hbl.cell (p := ⟨p, off + (k + 1) * 3 + 1, none⟩) hb).trans hc1
      have hd2 : wr.cell? ⟨p, off + (k + 1) * 3 + 2, none⟩ = some (.string x.s) := (hbl.cell (p := ⟨p, off + (k + 1) * 3 + 2, none⟩) hb).trans hc2
      clear hc0 hc1 hc2
      obtain ⟨p', off', y, hpp, hb', hy, hc0, hc1, hc2⟩ := hr.v (show k < vs.length by omega)
      obtain ⟨rfl, rfl⟩ : p = p' ∧ off = off' := by injection hpp with h; injection h with h1 h2; exact ⟨h1, h2⟩
      have he0 : wr.cell? ⟨p, off + k * 3, none⟩ = some (.int .i64 y.ty) := (hbl.cell (p := ⟨p, off + k * 3, none⟩) hb).trans hc0
      have he1 : wr.cell? ⟨p, off + k * 3 + 1, none⟩ = some (.int .i64 y.n) := (hbl.cell (p := ⟨p, off + k * 3 + 1, none⟩) hb).trans hc1
      have he2 : wr.cell? ⟨p, off + k * 3 + 2, none⟩ = some (.string y.s) := (hbl.cell (p := ⟨p, off + k * 3 + 2, none⟩) hb).trans hc2
      clear hr hc0 hc1 hc2 hpp hb'
      obtain ⟨pre, z, q, hrs, hz, hq1, hq2⟩ := hR.out.1.2.2.2 (by omega)
      obtain rfl : z = y := Option.some.inj (hz.symm.trans hy.out)
      subst hrs
      have heq := equalIn_Val x z
      cases hv : veq x z
      · rw [hv] at heq
        have hR2 := Lib.hid (And.intro (hR.out.1.new (fun e => by subst e; rw [veq_self] at hv; cases hv) hx.out) (show (pre ++ [(z, q)] ++ [(x, 1)]).length = m + 1 + 1 by have := hR.out.2; simp at this ⊢; omega))
        clear hR hv hx hy hz
        go_wp2
        go_quiet (fail)
        all_goals go_wp2
        go_roundw
        case rel => exact ⟨k + 1, m + 1, _, by omega, by omega, by go_num, by go_num, hR2, below_drewN hbl _⟩
        case measure => simp [intOf]; omega
      · rw [hv] at heq
        obtain rfl := veq_iff.1 hv
        have hR2 := Lib.hid (And.intro (hR.out.1.same hq1 hq2 hx.out) (show (pre ++ [(x, q + 1)]).length = m + 1 by have := hR.out.2; simp at this ⊢; omega))
        clear hR hv hx hy hz
        go_wp2
        go_quiet (fail)
        all_goals go_wp2
        go_roundw
        case rel => exact ⟨k + 1, m, _, by omega, by omega, by go_num, by go_num, hR2, below_drewN hbl _⟩
        case measure => simp [intOf]; omega
    · have hkn : k + 1 = vs.length := by omega
      have hre := Lib.hid (turns_done (hkn ▸ hR.out.1) hR.out.2)
      clear hR
      go_wp2
      go_ret
      rw [hre.out]
      exact ⟨rfl, hbl⟩

end Go.Proofs.Ytgpimlmolcjeoaa
