/-
  Contract of the laws' sameVals.
-/
import Derived.Test.YtgpimlmolcjeoaaGreatDoorVlist
namespace Go.Proofs.YtgpimlmolcjeoaaGreatDoor
open Go.RowKit
set_option linter.unusedVariables false
set_option maxRecDepth 100000

set_option maxHeartbeats 1000000 in
theorem laws_sameVals (w : World) (A : Option Addr) (c : Nat) (a : List V) (hr : Reads w w.heap.size 3 A a.length (valCells a)) (hl : a.length ≤ 1099511627776) (hi : ∀ x ∈ a, x.ok) (A' : Option Addr) (c' : Nat) (b : List V) (hr' : Reads w w.heap.size 3 A' b.length (valCells b)) (hl' : b.length ≤ 1099511627776) (hi' : ∀ x ∈ b, x.ok) :
    Calls Tryz.prog 20 #[.slice A a.length c, .slice A' b.length c'] w fun e w' => e = .returned (.bool (sameVals a b)) ∧ Below w.heap.size w w' := by
  have hgt := eqGuard_Val
  clear hi hi'
  by_cases hlen : a.length = b.length
  · have HL := Lib.hid hlen
    have hle1 : a.length ≤ b.length := by omega
    have hle2 : b.length ≤ a.length := by omega
    have e0 : ((a.length : Int) != (b.length : Int)) = false := by simp; omega
    clear hlen
    go_enter Tryz.func20, Tryz.ntmps20
    go_wp2
    go_loopw [5] (fun i wr => ∃ k : Nat, k ≤ a.length ∧ i = .int .i64 k ∧ SameTo a b k ∧ Below w.heap.size w wr) (fun i _ => a.length - (intOf i).toNat)
    case atStart => exact ⟨0, Nat.zero_le _, rfl, SameTo.zero _ _, Below.refl _ _⟩
    case round =>
      obtain ⟨k, hk, rfl, hsame, hbl⟩ := hrel
      by_cases hlt : k < a.length
      · obtain ⟨p, off, x, rfl, hb, hx, hc0, hc1, hc2⟩ := hr.v hlt
        obtain ⟨p', off', y, rfl, hb', hy, hc0', hc1', hc2'⟩ := hr'.v (k := k) (by omega)
        have hd0 : wr.cell? ⟨p, off + k * 3, none⟩ = some (.int .i64 x.ty) := (hbl.cell (p := ⟨p, off + k * 3, none⟩) hb).trans hc0
        have hd1 : wr.cell? ⟨p, off + k * 3 + 1, none⟩ = some (.int .i64 x.n) := (hbl.cell (p := ⟨p, off + k * 3 + 1, none⟩) hb).trans hc1
        have hd2 : wr.cell? ⟨p, off + k * 3 + 2, none⟩ = some (.string x.s) := (hbl.cell (p := ⟨p, off + k * 3 + 2, none⟩) hb).trans hc2
        have he0 : wr.cell? ⟨p', off' + k * 3, none⟩ = some (.int .i64 y.ty) := (hbl.cell (p := ⟨p', off' + k * 3, none⟩) hb').trans hc0'
        have he1 : wr.cell? ⟨p', off' + k * 3 + 1, none⟩ = some (.int .i64 y.n) := (hbl.cell (p := ⟨p', off' + k * 3 + 1, none⟩) hb').trans hc1'
        have he2 : wr.cell? ⟨p', off' + k * 3 + 2, none⟩ = some (.string y.s) := (hbl.cell (p := ⟨p', off' + k * 3 + 2, none⟩) hb').trans hc2'
        have hkb : k < b.length := by omega
        have heq := equalIn_Val x y
        clear hr hr' hc0 hc1 hc2 hc0' hc1' hc2'
        cases hv : veq x y
        · rw [hv] at heq
          have hbad := Lib.hid (sameVals_bad hx.out hy.out hv)
          clear hv
          go_wp2
          go_quiet (fail)
          all_goals go_wp2
          go_ret
          exact ⟨ret_bool hbad.out.symm, below_drewN hbl _⟩
        · rw [hv] at heq
          have hxy := veq_iff.1 hv
          subst hxy
          have hs2 := hsame.succ hx.out hy.out
          clear hv hsame
          go_wp2
          go_quiet (fail)
          all_goals go_wp2
          go_roundw
          case rel => exact ⟨k + 1, by omega, by go_num, hs2, below_drewN hbl _⟩
          case measure => simp [intOf]; omega
      · have hkn : k = a.length := by omega
        subst hkn
        have hend := Lib.hid (sameVals_end HL.out hsame)
        go_wp2
        go_ret
        exact ⟨ret_bool hend.out.symm, hbl⟩
  · have hbad := Lib.hid (sameVals_len hlen)
    have e0 : ((a.length : Int) != (b.length : Int)) = true := by simp; omega
    clear hlen
    go_enter Tryz.func20, Tryz.ntmps20
    go_wp2
    go_ret
    exact ⟨ret_bool hbad.out.symm, Below.refl _ _⟩
theorem sameVals_self (a : List V) : sameVals a a = true := by simp [sameVals]

end Go.Proofs.YtgpimlmolcjeoaaGreatDoor
