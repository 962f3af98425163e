/-
  Contracts of the lists of values drawn, and of what is drawn of them.
-/
import Derived.Test.YtgpimlmolcjeoaaVdraw
namespace Go.Proofs.Ytgpimlmolcjeoaa
open Go.RowKit
set_option linter.unusedVariables false
set_option maxRecDepth 100000

set_option maxHeartbeats 3200000 in
theorem l5Draw_any (w : World) (p : Nat) (hc : Cur w p) :
    Calls Try.prog 67 #[.pointer (some ⟨p, 0, none⟩)] w fun e w' => ∃ (A : Option Addr) (c : Nat) (vs : List V), e = .returned (.slice A vs.length c) ∧ 1 ≤ vs.length ∧ vs.length ≤ 15 ∧ (∀ v ∈ vs, v.ok) ∧
      w'.ownsRow w.heap.size 37 3 (.slice A vs.length c) vs.length (valCells vs) ∧ Cur w' p ∧ w.grownBy w' (some p) := by
  obtain ⟨i0, hi0, hz0, hz1, hz2⟩ := info_parts info_Val
  have hp := hc.lt
  go_enter Try.func67, Try.ntmps67
  go_wp2_with fail
  refine (l1Below_any _ p hc 2 (by omega) (by omega)).mono ?_
  rintro e w1 ⟨k, rfl, hk, hc1, hg1⟩
  obtain ⟨ty, hty⟩ : ∃ ty : Int, ty = 1 + (k : Int) := ⟨_, rfl⟩
  clear hc
  go_wp2_with fail
  rw [← hty]
  clear hty
  refine (l3List_any _ p hc1 ty 9 (by omega)).mono ?_
  rintro e w2 ⟨A, c, vs, rfl, hl9, hvo, hown2, hc2, hg2⟩
  replace hown2 := own_lower hown2 hg1.size
  replace hg2 := hg1.trans hg2
  clear hc1 hg1
  by_cases h0 : vs.length = 0
  · have h0b : ((vs.length : Int) == 0) = true := by simp [h0]
    have H0 := Lib.hid h0
    clear h0
    go_wp2_with fail
    clear h0b
    refine (l3Int_any _ p hc2).mono ?_
    rintro e w4 ⟨v, rfl, hv, hc4, hg4⟩
    have hown4 := own_cur hown2 hg4 hp
    have hgx := hg2.trans hg4
    have hap : (Value.slice A vs.length c).ownBlock ≠ some w4.heap.size := fun h => Nat.lt_irrefl _ (hown4.lt _ h).2
    obtain ⟨W, hW⟩ : ∃ W, W = w4.alloc (.cells #[.int .i64 v.ty, .int .i64 v.n, .string v.s] 37) := ⟨_, rfl⟩
    have hbx : Box W w4.heap.size v := by rw [hW]; exact Box.new w4 v
    have hb2 : Below w4.heap.size w4 W := by rw [hW]; exact (Below.refl _ _).alloc (Nat.le_refl _) _
    have hz4 : w.heap.size ≤ w4.heap.size := hgx.size
    have hcW := hc4.below' hb2 (by omega)
    have hgW := grown_below hgx (hb2.mono hz4)
    have hownW := own_step hown4 hb2
    have hne : w4.heap.size ≠ p := by omega
    obtain ⟨B, hB⟩ : ∃ B, B = w4.heap.size := ⟨_, rfl⟩
    have hBz : w.heap.size ≤ B := by omega
    clear hc2 hg2 hown2
    cases hty2 : (ty == 2)
    · go_wp2_with fail
      rw [← hW]
      rw [← hB] at hbx hap hne ⊢
      clear hW hB hb2 hz4 hc4 hgx hown4 hg4
      have hc6 := hcW
      have hg6 := hgW
      have hown6 := hownW
      have hbx6 := hbx
      clear hcW hgW hownW hbx
      refine (l1Below_any _ p hc6 6 (by omega) (by omega)).mono ?_
      rintro e w7 ⟨n, rfl, hn, hc7, hg7⟩
      have hbx7 := hbx6.grown hg7 hne
      have hown7 := own_cur hown6 hg7 hp
      replace hg7 := hg6.trans hg7
      clear hc6 hg6 hown6 hbx6
      go_wp2
      go_loopw [4, 6] (fun o i wr => ∃ (j k : Nat) (us : List V) (A' : Option Addr) (c' : Nat), j + k ≤ 15 ∧ 0 < j + k ∧ i = .int .i64 ((k : Int) - 1) ∧ o = .slice A' j c' ∧ wr.ownsRow w.heap.size 37 3 (.slice A' j c') j (valCells us) ∧ Hid (us.length = j) ∧ Hid (∀ v ∈ us, v.ok) ∧ Box wr B v ∧ (Value.slice A' j c').ownBlock ≠ some B ∧ Cur wr p ∧ w.grownBy wr (some p)) (fun _ i _ => (intOf i + 1).toNat)
      case atStart => exact ⟨vs.length, n + 1, vs, A, c, by omega, by omega, congrArg (Value.int .i64) (by omega), rfl, hown7, Lib.hid rfl, Lib.hid hvo, hbx7, hap, hc7, hg7⟩
      case round =>
        clear hown7 hbx7 hap hc7 hg7
        obtain ⟨j, k, us, A', c', hjk, hpos, rfl, rfl, hown, hL, hV, hbx, hap, hc1, hg1⟩ := hrel
        rcases (show k = 0 ∨ 0 < k by omega) with rfl | hk
        · have hL' := hL.out
          subst hL'
          clear hbx hap
          rw [show (((0 : Nat) : Int) - 1) = -1 from rfl]
          go_wp2
          go_ret
          exact ⟨_, _, us, rfl, by omega, by omega, hV.out, hown, hc1, hg1⟩
        · obtain ⟨k, rfl⟩ : ∃ k', k = k' + 1 := ⟨k - 1, by omega⟩
          rw [show (((k + 1 : Nat) : Int) - 1) = (k : Int) by omega]
          obtain ⟨q0, q1, q2, f0, f1, f2⟩ := hbx.cells
          have hsz := hg1.size
          have hBw := hbx.lt
          go_wp2_with (at_builtin; go_loud (refine append_one_b rfl (.tmp 32) (.tmp 34) 24 rfl w.heap.size 37 i0 _ 3 32 Try.underlying24 hi0 hz0 hz1 hz2 rfl (by omega) (by omega) A' j c' _ rfl hown B hBw hap [.int .i64 v.ty, .int .i64 v.n, .string v.s] _ rfl (by first | rfl | simp) rfl (by simp [Value.oneCell']) hsz (by omega) ?_); intro A2 c2 w2 hown3 hb3 hk3 hap3)
          rw [valCells_app] at hown3
          have hbx3 : Box w2 B v := hk3.trans hbx
          have hc4 := hc1.below' hb3 hp
          have hg4 := grown_below hg1 hb3
          clear hown hc1 hg1 hb3 hsz q0 q1 q2 f0 f1 f2 hbx hap hk3 hBw
          go_wp2
          go_roundw
          case rel => exact ⟨j + 1, k, us ++ [v], A2, c2, by omega, by omega, by go_num, rfl, hown3, Lib.hid (by simp [hL.out]), Lib.hid (ok_snoc hV.out hv), hbx3, hap3, hc4, hg4⟩
          case measure => simp [intOf]
    · go_wp2_with fail
      rw [← hW]
      rw [← hB] at hbx hap hne ⊢
      clear hW hB hb2 hz4 hc4 hgx hown4 hg4
      refine (l3Text_any _ p hcW).mono ?_
      rintro e w5 ⟨v, rfl, hv, hc5, hg5⟩
      replace hbx := hbx.grown hg5 hne
      replace hownW := own_cur hownW hg5 hp
      replace hgW := hgW.trans hg5
      obtain ⟨q0, q1, q2, f0, f1, f2⟩ := hbx.cells
      obtain ⟨w6, hw6⟩ : ∃ w6, w6 = ((w5.setCell ⟨B, 0, none⟩ (.int .i64 v.ty)).setCell ⟨B, 1, none⟩ (.int .i64 v.n)).setCell ⟨B, 2, none⟩ (.string v.s) := ⟨_, rfl⟩
      have hbx6 : Box w6 B v := by rw [hw6]; exact ((hbx.set0 _).set1 _).set2 _
      have hgB : w5.grownBy w6 (some B) := by rw [hw6]; exact ((grown_set _ _ _ _).trans (grown_set _ _ _ _)).trans (grown_set _ _ _ _)
      have hbB : Below w.heap.size w5 w6 := by rw [hw6]; exact below_three (Below.refl _ _) hBz _ _ _
      have hc6 := hc5.below' hbB hp
      have hg6 := grown_below hgW hbB
      have hown6 := hownW.kept hgB (.inr hap)
      clear hcW hg5 hgW hownW hc5 hgB hbB hbx
      go_wp2_with fail
      rw [← hw6]
      clear hw6 q0 q1 q2 f0 f1 f2
      refine (l1Below_any _ p hc6 6 (by omega) (by omega)).mono ?_
      rintro e w7 ⟨n, rfl, hn, hc7, hg7⟩
      have hbx7 := hbx6.grown hg7 hne
      have hown7 := own_cur hown6 hg7 hp
      replace hg7 := hg6.trans hg7
      clear hc6 hg6 hown6 hbx6
      go_wp2
      go_loopw [4, 6] (fun o i wr => ∃ (j k : Nat) (us : List V) (A' : Option Addr) (c' : Nat), j + k ≤ 15 ∧ 0 < j + k ∧ i = .int .i64 ((k : Int) - 1) ∧ o = .slice A' j c' ∧ wr.ownsRow w.heap.size 37 3 (.slice A' j c') j (valCells us) ∧ Hid (us.length = j) ∧ Hid (∀ v ∈ us, v.ok) ∧ Box wr B v ∧ (Value.slice A' j c').ownBlock ≠ some B ∧ Cur wr p ∧ w.grownBy wr (some p)) (fun _ i _ => (intOf i + 1).toNat)
      case atStart => exact ⟨vs.length, n + 1, vs, A, c, by omega, by omega, congrArg (Value.int .i64) (by omega), rfl, hown7, Lib.hid rfl, Lib.hid hvo, hbx7, hap, hc7, hg7⟩
      case round =>
        clear hown7 hbx7 hap hc7 hg7
        obtain ⟨j, k, us, A', c', hjk, hpos, rfl, rfl, hown, hL, hV, hbx, hap, hc1, hg1⟩ := hrel
        rcases (show k = 0 ∨ 0 < k by omega) with rfl | hk
        · have hL' := hL.out
          subst hL'
          clear hbx hap
          rw [show (((0 : Nat) : Int) - 1) = -1 from rfl]
          go_wp2
          go_ret
          exact ⟨_, _, us, rfl, by omega, by omega, hV.out, hown, hc1, hg1⟩
        · obtain ⟨k, rfl⟩ : ∃ k', k = k' + 1 := ⟨k - 1, by omega⟩
          rw [show (((k + 1 : Nat) : Int) - 1) = (k : Int) by omega]
          obtain ⟨q0, q1, q2, f0, f1, f2⟩ := hbx.cells
          have hsz := hg1.size
          have hBw := hbx.lt
          go_wp2_with (at_builtin; go_loud (refine append_one_b rfl (.tmp 32) (.tmp 34) 24 rfl w.heap.size 37 i0 _ 3 32 Try.underlying24 hi0 hz0 hz1 hz2 rfl (by omega) (by omega) A' j c' _ rfl hown B hBw hap [.int .i64 v.ty, .int .i64 v.n, .string v.s] _ rfl (by first | rfl | simp) rfl (by simp [Value.oneCell']) hsz (by omega) ?_); intro A2 c2 w2 hown3 hb3 hk3 hap3)
          rw [valCells_app] at hown3
          have hbx3 : Box w2 B v := hk3.trans hbx
          have hc4 := hc1.below' hb3 hp
          have hg4 := grown_below hg1 hb3
          clear hown hc1 hg1 hb3 hsz q0 q1 q2 f0 f1 f2 hbx hap hk3 hBw
          go_wp2
          go_roundw
          case rel => exact ⟨j + 1, k, us ++ [v], A2, c2, by omega, by omega, by go_num, rfl, hown3, Lib.hid (by simp [hL.out]), Lib.hid (ok_snoc hV.out hv), hbx3, hap3, hc4, hg4⟩
          case measure => simp [intOf]
  · have h0b : ((vs.length : Int) == 0) = false := beq_eq_false_iff_ne.2 (by omega)
    have h1 : 1 ≤ vs.length := by omega
    clear h0
    go_wp2_with fail
    refine (l1Once_any _ p hc2 4 (by omega) (by omega)).mono ?_
    rintro e w3 ⟨b, rfl, hc3, hg3⟩
    have hown3 := own_cur hown2 hg3 hp
    replace hg3 := hg2.trans hg3
    clear hc2 hg2 hown2 h0b
    cases b
    · go_wp2
      go_ret
      exact ⟨_, _, vs, rfl, h1, by omega, hvo, hown3, hc3, hg3⟩
    · go_wp2_with fail
      refine (l3Int_any _ p hc3).mono ?_
      rintro e w4 ⟨v, rfl, hv, hc4, hg4⟩
      have hown4 := own_cur hown3 hg4 hp
      have hgx := hg3.trans hg4
      have hap : (Value.slice A vs.length c).ownBlock ≠ some w4.heap.size := fun h => Nat.lt_irrefl _ (hown4.lt _ h).2
      obtain ⟨W, hW⟩ : ∃ W, W = w4.alloc (.cells #[.int .i64 v.ty, .int .i64 v.n, .string v.s] 37) := ⟨_, rfl⟩
      have hbx : Box W w4.heap.size v := by rw [hW]; exact Box.new w4 v
      have hb2 : Below w4.heap.size w4 W := by rw [hW]; exact (Below.refl _ _).alloc (Nat.le_refl _) _
      have hz4 : w.heap.size ≤ w4.heap.size := hgx.size
      have hcW := hc4.below' hb2 (by omega)
      have hgW := grown_below hgx (hb2.mono hz4)
      have hownW := own_step hown4 hb2
      have hne : w4.heap.size ≠ p := by omega
      obtain ⟨B, hB⟩ : ∃ B, B = w4.heap.size := ⟨_, rfl⟩
      have hBz : w.heap.size ≤ B := by omega
      clear hc3 hg3 hown3
      cases hty2 : (ty == 2)
      · go_wp2_with fail
        rw [← hW]
        rw [← hB] at hbx hap hne ⊢
        clear hW hB hb2 hz4 hc4 hgx hown4 hg4
        have hc6 := hcW
        have hg6 := hgW
        have hown6 := hownW
        have hbx6 := hbx
        clear hcW hgW hownW hbx
        refine (l1Below_any _ p hc6 6 (by omega) (by omega)).mono ?_
        rintro e w7 ⟨n, rfl, hn, hc7, hg7⟩
        have hbx7 := hbx6.grown hg7 hne
        have hown7 := own_cur hown6 hg7 hp
        replace hg7 := hg6.trans hg7
        clear hc6 hg6 hown6 hbx6
        go_wp2
        go_loopw [4, 6] (fun o i wr => ∃ (j k : Nat) (us : List V) (A' : Option Addr) (c' : Nat), j + k ≤ 15 ∧ 0 < j + k ∧ i = .int .i64 ((k : Int) - 1) ∧ o = .slice A' j c' ∧ wr.ownsRow w.heap.size 37 3 (.slice A' j c') j (valCells us) ∧ Hid (us.length = j) ∧ Hid (∀ v ∈ us, v.ok) ∧ Box wr B v ∧ (Value.slice A' j c').ownBlock ≠ some B ∧ Cur wr p ∧ w.grownBy wr (some p)) (fun _ i _ => (intOf i + 1).toNat)
        case atStart => exact ⟨vs.length, n + 1, vs, A, c, by omega, by omega, congrArg (Value.int .i64) (by omega), rfl, hown7, Lib.hid rfl, Lib.hid hvo, hbx7, hap, hc7, hg7⟩
        case round =>
          clear hown7 hbx7 hap hc7 hg7
          obtain ⟨j, k, us, A', c', hjk, hpos, rfl, rfl, hown, hL, hV, hbx, hap, hc1, hg1⟩ := hrel
          rcases (show k = 0 ∨ 0 < k by omega) with rfl | hk
          · have hL' := hL.out
            subst hL'
            clear hbx hap
            rw [show (((0 : Nat) : Int) - 1) = -1 from rfl]
            go_wp2
            go_ret
            exact ⟨_, _, us, rfl, by omega, by omega, hV.out, hown, hc1, hg1⟩
          · obtain ⟨k, rfl⟩ : ∃ k', k = k' + 1 := ⟨k - 1, by omega⟩
            rw [show (((k + 1 : Nat) : Int) - 1) = (k : Int) by omega]
            obtain ⟨q0, q1, q2, f0, f1, f2⟩ := hbx.cells
            have hsz := hg1.size
            have hBw := hbx.lt
            go_wp2_with (at_builtin; go_loud (refine append_one_b rfl (.tmp 32) (.tmp 34) 24 rfl w.heap.size 37 i0 _ 3 32 Try.underlying24 hi0 hz0 hz1 hz2 rfl (by omega) (by omega) A' j c' _ rfl hown B hBw hap [.int .i64 v.ty, .int .i64 v.n, .string v.s] _ rfl (by first | rfl | simp) rfl (by simp [Value.oneCell']) hsz (by omega) ?_); intro A2 c2 w2 hown3 hb3 hk3 hap3)
            rw [valCells_app] at hown3
            have hbx3 : Box w2 B v := hk3.trans hbx
            have hc4 := hc1.below' hb3 hp
            have hg4 := grown_below hg1 hb3
            clear hown hc1 hg1 hb3 hsz q0 q1 q2 f0 f1 f2 hbx hap hk3 hBw
            go_wp2
            go_roundw
            case rel => exact ⟨j + 1, k, us ++ [v], A2, c2, by omega, by omega, by go_num, rfl, hown3, Lib.hid (by simp [hL.out]), Lib.hid (ok_snoc hV.out hv), hbx3, hap3, hc4, hg4⟩
            case measure => simp [intOf]
      · go_wp2_with fail
        rw [← hW]
        rw [← hB] at hbx hap hne ⊢
        clear hW hB hb2 hz4 hc4 hgx hown4 hg4
        refine (l3Text_any _ p hcW).mono ?_
        rintro e w5 ⟨v, rfl, hv, hc5, hg5⟩
        replace hbx := hbx.grown hg5 hne
        replace hownW := own_cur hownW hg5 hp
        replace hgW := hgW.trans hg5
        obtain ⟨q0, q1, q2, f0, f1, f2⟩ := hbx.cells
        obtain ⟨w6, hw6⟩ : ∃ w6, w6 = ((w5.setCell ⟨B, 0, none⟩ (.int .i64 v.ty)).setCell ⟨B, 1, none⟩ (.int .i64 v.n)).setCell ⟨B, 2, none⟩ (.string v.s) := ⟨_, rfl⟩
        have hbx6 : Box w6 B v := by rw [hw6]; exact ((hbx.set0 _).set1 _).set2 _
        have hgB : w5.grownBy w6 (some B) := by rw [hw6]; exact ((grown_set _ _ _ _).trans (grown_set _ _ _ _)).trans (grown_set _ _ _ _)
        have hbB : Below w.heap.size w5 w6 := by rw [hw6]; exact below_three (Below.refl _ _) hBz _ _ _
        have hc6 := hc5.below' hbB hp
        have hg6 := grown_below hgW hbB
        have hown6 := hownW.kept hgB (.inr hap)
        clear hcW hg5 hgW hownW hc5 hgB hbB hbx
        go_wp2_with fail
        rw [← hw6]
        clear hw6 q0 q1 q2 f0 f1 f2
        refine (l1Below_any _ p hc6 6 (by omega) (by omega)).mono ?_
        rintro e w7 ⟨n, rfl, hn, hc7, hg7⟩
        have hbx7 := hbx6.grown hg7 hne
        have hown7 := own_cur hown6 hg7 hp
        replace hg7 := hg6.trans hg7
        clear hc6 hg6 hown6 hbx6
        go_wp2
        go_loopw [4, 6] (fun o i wr => ∃ (j k : Nat) (us : List V) (A' : Option Addr) (c' : Nat), j + k ≤ 15 ∧ 0 < j + k ∧ i = .int .i64 ((k : Int) - 1) ∧ o = .slice A' j c' ∧ wr.ownsRow w.heap.size 37 3 (.slice A' j c') j (valCells us) ∧ Hid (us.length = j) ∧ Hid (∀ v ∈ us, v.ok) ∧ Box wr B v ∧ (Value.slice A' j c').ownBlock ≠ some B ∧ Cur wr p ∧ w.grownBy wr (some p)) (fun _ i _ => (intOf i + 1).toNat)
        case atStart => exact ⟨vs.length, n + 1, vs, A, c, by omega, by omega, congrArg (Value.int .i64) (by omega), rfl, hown7, Lib.hid rfl, Lib.hid hvo, hbx7, hap, hc7, hg7⟩
        case round =>
          clear hown7 hbx7 hap hc7 hg7
          obtain ⟨j, k, us, A', c', hjk, hpos, rfl, rfl, hown, hL, hV, hbx, hap, hc1, hg1⟩ := hrel
          rcases (show k = 0 ∨ 0 < k by omega) with rfl | hk
          · have hL' := hL.out
            subst hL'
            clear hbx hap
            rw [show (((0 : Nat) : Int) - 1) = -1 from rfl]
            go_wp2
            go_ret
            exact ⟨_, _, us, rfl, by omega, by omega, hV.out, hown, hc1, hg1⟩
          · obtain ⟨k, rfl⟩ : ∃ k', k = k' + 1 := ⟨k - 1, by omega⟩
            rw [show (((k + 1 : Nat) : Int) - 1) = (k : Int) by omega]
            obtain ⟨q0, q1, q2, f0, f1, f2⟩ := hbx.cells
            have hsz := hg1.size
            have hBw := hbx.lt
            go_wp2_with (at_builtin; go_loud (refine append_one_b rfl (.tmp 32) (.tmp 34) 24 rfl w.heap.size 37 i0 _ 3 32 Try.underlying24 hi0 hz0 hz1 hz2 rfl (by omega) (by omega) A' j c' _ rfl hown B hBw hap [.int .i64 v.ty, .int .i64 v.n, .string v.s] _ rfl (by first | rfl | simp) rfl (by simp [Value.oneCell']) hsz (by omega) ?_); intro A2 c2 w2 hown3 hb3 hk3 hap3)
            rw [valCells_app] at hown3
            have hbx3 : Box w2 B v := hk3.trans hbx
            have hc4 := hc1.below' hb3 hp
            have hg4 := grown_below hg1 hb3
            clear hown hc1 hg1 hb3 hsz q0 q1 q2 f0 f1 f2 hbx hap hk3 hBw
            go_wp2
            go_roundw
            case rel => exact ⟨j + 1, k, us ++ [v], A2, c2, by omega, by omega, by go_num, rfl, hown3, Lib.hid (by simp [hL.out]), Lib.hid (ok_snoc hV.out hv), hbx3, hap3, hc4, hg4⟩
            case measure => simp [intOf]
set_option maxHeartbeats 1600000 in
theorem l5Any_any (w : World) (p : Nat) (hc : Cur w p) :
    Calls Try.prog 43 #[.pointer (some ⟨p, 0, none⟩)] w fun e w' => ∃ (A : Option Addr) (c : Nat) (vs : List V), e = .returned (.slice A vs.length c) ∧ vs.length ≤ 16 ∧ (∀ v ∈ vs, v.ok) ∧
      w'.ownsRow w.heap.size 37 3 (.slice A vs.length c) vs.length (valCells vs) ∧ Cur w' p ∧ w.grownBy w' (some p) := by
  obtain ⟨i0, hi0, hz0, hz1, hz2⟩ := info_parts info_Val
  have hp := hc.lt
  go_enter Try.func43, Try.ntmps43
  go_wp2_with fail
  refine (l5Draw_any _ p hc).mono ?_
  rintro e w1 ⟨A, c, vs, rfl, hl1, hl2, hvo, hown1, hc1, hg1⟩
  clear hc hl1
  go_wp2_with fail
  refine (l1Below_any _ p hc1 8 (by omega) (by omega)).mono ?_
  rintro e w2 ⟨k, rfl, hk, hc2, hg2⟩
  have hown2 := own_cur hown1 hg2 hp
  replace hg2 := hg1.trans hg2
  clear hc1 hg1 hown1
  rcases (show k = 0 ∨ k = 1 ∨ (k ≠ 0 ∧ k ≠ 1) by omega) with rfl | rfl | ⟨k0, k1⟩
  · go_wp2_with fail
    refine (l3Any_any _ p hc2).mono ?_
    rintro e w3 ⟨v, rfl, hv, hc3, hg3⟩
    have hown3 := own_cur hown2 hg3 hp
    replace hg3 := hg2.trans hg3
    have hsz := hg3.size
    clear hc2 hg2 hown2
    go_wp2_with (at_builtin; go_loud (refine append_one rfl (.tmp 10) (.tmp 13) 24 rfl w.heap.size 37 i0 _ 3 32 Try.underlying24 hi0 hz0 hz1 hz2 rfl (by omega) (by omega) A vs.length c _ rfl hown3 [.int .i64 v.ty, .int .i64 v.n, .string v.s] _ rfl (by first | rfl | simp) rfl (by simp [Value.oneCell']) hsz (by omega) ?_); intro A4 c4 w4 hown4 hb4)
    rw [valCells_app] at hown4
    have hc4 := hc3.below' hb4 hp
    have hg4 := grown_below hg3 hb4
    have hln := Lib.hid (show (vs ++ [v]).length = vs.length + 1 by simp)
    clear hc3 hg3 hown3 hb4 hsz
    go_wp2
    go_ret
    exact ⟨_, _, vs ++ [v], by rw [hln.out]; rfl, by rw [hln.out]; omega, ok_snoc hvo hv, by rw [hln.out]; exact hown4, hc4, hg4⟩
  · have hsz := hg2.size
    go_wp2
    go_ret
    exact ⟨_, _, [], rfl, by simp, by simp, own_empty hsz, hc2.alloc _, hg2.trans (grown_alloc _ _ _)⟩
  · have b0 : ((k : Int) == 0) = false := beq_eq_false_iff_ne.2 (by omega)
    have b1 : ((k : Int) == 1) = false := beq_eq_false_iff_ne.2 (by omega)
    clear k0 k1
    go_wp2
    go_ret
    exact ⟨_, _, vs, rfl, by omega, hvo, hown2, hc2, hg2⟩
theorem DrawRuns_any (w : World) (A : Option Addr) (c : Nat) (cs : List UInt8) (hr : Reads w w.heap.size 1 A cs.length (byteCells cs)) (hl : cs.length ≤ 1099511627776) :
    Calls Try.prog 20 #[.slice A cs.length c] w fun e w' => ∃ (A' : Option Addr) (c' : Nat) (vs : List V), e = .returned (.slice A' vs.length c') ∧ vs.length ≤ 16 ∧ (∀ v ∈ vs, v.ok) ∧
      w'.ownsRow w.heap.size 37 3 (.slice A' vs.length c') vs.length (valCells vs) ∧ Below w.heap.size w w' := by
  go_enter Try.func20, Try.ntmps20
  go_wp2_with fail
  refine (l1New_any _ _ _ _ hr hl).mono ?_
  rintro e w1 ⟨p, rfl, hp, hc1, hb1⟩
  go_wp2_with fail
  refine (l5Any_any _ p hc1).mono ?_
  rintro e w2 ⟨A2, c2, vs, rfl, hvl, hvo, hown2, hc2, hg2⟩
  have hb2 := hb1.grown hg2 hb1.size (fun q hq => by have := Option.some.inj hq; omega)
  have hown3 := own_lower hown2 hb1.size
  go_wp2
  go_ret
  exact ⟨_, _, vs, rfl, hvl, hvo, hown3, hb2⟩
theorem DrawDict_any (w : World) (A : Option Addr) (c : Nat) (cs : List UInt8) (hr : Reads w w.heap.size 1 A cs.length (byteCells cs)) (hl : cs.length ≤ 1099511627776) :
    Calls Try.prog 8 #[.slice A cs.length c] w fun e w' => ∃ (A' : Option Addr) (c' : Nat) (vs : List V), e = .returned (.slice A' vs.length c') ∧ vs.length ≤ 16 ∧ (∀ v ∈ vs, v.ok) ∧
      w'.ownsRow w.heap.size 37 3 (.slice A' vs.length c') vs.length (valCells vs) ∧ Below w.heap.size w w' := by
  go_enter Try.func8, Try.ntmps8
  go_wp2_with fail
  refine (l1New_any _ _ _ _ hr hl).mono ?_
  rintro e w1 ⟨p, rfl, hp, hc1, hb1⟩
  go_wp2_with fail
  refine (l5Any_any _ p hc1).mono ?_
  rintro e w2 ⟨A2, c2, vs, rfl, hvl, hvo, hown2, hc2, hg2⟩
  have hb2 := hb1.grown hg2 hb1.size (fun q hq => by have := Option.some.inj hq; omega)
  have hown3 := own_lower hown2 hb1.size
  go_wp2
  go_ret
  exact ⟨_, _, vs, rfl, hvl, hvo, hown3, hb2⟩

end Go.Proofs.Ytgpimlmolcjeoaa
