/-
  Contracts of FitsCols, in the program and in the reference.
-/
import Derived.Test.YtgpimlmolcjeoaaGreatDoorType
import Derived.Deep.RegionWith
namespace Go.Proofs.YtgpimlmolcjeoaaGreatDoor
open Go.RowKit
set_option linter.unusedVariables false
set_option maxRecDepth 100000

set_option maxHeartbeats 6000000 in
theorem impl_FitsCols (w : World) (Ac : Option Addr) (cc : Nat) (cols : List Int) (hrc : Reads w w.heap.size 1 Ac cols.length (intCells cols)) (hlc : cols.length ≤ 1099511627776) (hic : ∀ x ∈ cols, I64 x)
    (A : Option Addr) (c : Nat) (vs : List V) (hr : Reads w w.heap.size 3 A vs.length (valCells vs)) (hl : vs.length ≤ 1099511627776) (hi : ∀ x ∈ vs, x.ok) :
    Calls Tryz.prog 16 #[.slice Ac cols.length cc, .slice A vs.length c] w fun e w' => e = .returned (.bool (fitsCols cols vs)) ∧ Below w.heap.size w w' := by
  clear hic
  by_cases hn : vs.length = cols.length
  rotate_left
  · have e0 : ((vs.length : Int) != (cols.length : Int)) = true := by rw [bne_iff_ne]; omega
    have e1 : ((cols.length : Int) != (vs.length : Int)) = true := by rw [bne_iff_ne]; omega
    have hz := Lib.hid (fits_len hn)
    clear hn hi
    go_enter Tryz.func16, Tryz.ntmps16
    go_wp2
    go_ret
    exact ⟨ret_bool hz.out.symm, Below.refl _ _⟩
  have HN := Lib.hid hn
  have hle1 : vs.length ≤ cols.length := by omega
  have hle2 : cols.length ≤ vs.length := by omega
  have e0 : ((vs.length : Int) != (cols.length : Int)) = false := by simp; omega
  have e1 : ((cols.length : Int) != (vs.length : Int)) = false := by simp; omega
  have HI := Lib.hid hi
  clear hn hi
  go_enter Tryz.func16, Tryz.ntmps16
  go_wp2
  go_loopw [14] (fun i wr => ∃ k : Nat, k ≤ vs.length ∧ i = .int .i64 k ∧ AllTo (fitGood) (vs.zip cols) k ∧ Below w.heap.size w wr) (fun i _ => vs.length - (intOf i).toNat)
  case atStart => exact ⟨0, Nat.zero_le _, rfl, AllTo.zero _ _, Below.refl _ _⟩
  case round =>
    obtain ⟨k, hk, rfl, hall, hbl⟩ := hrel
    by_cases hlt : k < vs.length
    · skip
      have hkc : k < cols.length := by omega
      obtain ⟨p, off, x, rfl, hb, hx, hc0, hc1, hc2⟩ := hr.v hlt
      obtain ⟨pc, offc, t, rfl, hbc, ht, htc⟩ := hrc.int hkc
      have hzr : wr.cell? ⟨pc, offc + k, none⟩ = some (.int .i64 t) := (hbl.cell (p := ⟨pc, offc + k, none⟩) hbc).trans htc
      clear hrc htc
      have hd0 : wr.cell? ⟨p, off + k * 3, none⟩ = some (.int .i64 x.ty) := (hbl.cell (p := ⟨p, off + k * 3, none⟩) hb).trans hc0
      have hd1 : wr.cell? ⟨p, off + k * 3 + 1, none⟩ = some (.int .i64 x.n) := (hbl.cell (p := ⟨p, off + k * 3 + 1, none⟩) hb).trans hc1
      have hd2 : wr.cell? ⟨p, off + k * 3 + 2, none⟩ = some (.string x.s) := (hbl.cell (p := ⟨p, off + k * 3 + 2, none⟩) hb).trans hc2
      have hxo := HI.out x (List.mem_of_getElem? hx.out)
      clear hr hc0 hc1 hc2
      obtain ⟨W, hW⟩ : ∃ W, W = wr.alloc (.cells #[.int .i64 x.ty, .int .i64 x.n, .string x.s] 49) := ⟨_, rfl⟩
      have f0 : W.cell? ⟨wr.heap.size, 0, none⟩ = some (.int .i64 x.ty) := by rw [hW]; simp [go_sem]
      have f1 : W.cell? ⟨wr.heap.size, 1, none⟩ = some (.int .i64 x.n) := by rw [hW]; simp [go_sem]
      have f2 : W.cell? ⟨wr.heap.size, 2, none⟩ = some (.string x.s) := by rw [hW]; simp [go_sem]
      have hbW : Below w.heap.size w W := by rw [hW]; exact hbl.alloc hbl.size _
      have hzW : W.cell? ⟨pc, offc + k, none⟩ = some (.int .i64 t) := by rw [hW]; exact cell_keep (Below.alloc0 (Below.refl _ _) _) hzr
      have HW := Lib.hid hW
      clear hW
      cases hv : valOk x
      · have hbad := Lib.hid (fits_bad hx.out ht.out (show fitGood (x, t) = false by unfold fitGood; rw [hv]; rfl))
        have hcon := Lib.hid (fun (w : World) => impl_ValOk w x hxo)
        rw [hv] at hcon
        clear hv
        go_wp2_with fail
        rw [← HW.out]
        clear hd0 hd1 hd2 hzr
        refine wp_region_any (by kernel_rfl) ?_
        change wpAny _ _ _ _ _ _ _ (World.drew _)
        have hbD := hbW.drew
        have g0 : W.drew.cell? ⟨wr.heap.size, 0, none⟩ = some (.int .i64 x.ty) := f0
        have g1 : W.drew.cell? ⟨wr.heap.size, 1, none⟩ = some (.int .i64 x.n) := f1
        have g2 : W.drew.cell? ⟨wr.heap.size, 2, none⟩ = some (.string x.s) := f2
        clear f0 f1 f2 hbW hzW HW
        generalize W.drew = W2 at g0 g1 g2 hbD ⊢
        refine wpAny_ready (rs := [0]) (by kernel_rfl) (by simp) ?_
        refine AllReady.cons rfl (fun K hK => ?_) AllReady.nil
        go_simp
        refine hK _ _ ?_
        clear hK K
        refine wpAny_ready (rs := [1]) (by kernel_rfl) (by simp) ?_
        refine AllReady.cons rfl (fun K hK => ?_) AllReady.nil
        go_simp
        go_wp2_with (go_at_call 40; refine (hcon.out _).mono ?_; rintro e w9 ⟨rfl, hb9⟩)
        have hbl9 := hbD.trans (hb9.mono hbD.size)
        clear g0 g1 g2 hbD hb9
        refine wpAny_ready (rs := [2]) (by kernel_rfl) (by simp) ?_
        refine AllReady.cons rfl (fun K hK => ?_) AllReady.nil
        go_simp
        refine hK _ _ ?_
        clear hK K
        refine wpAny_ready (rs := [3]) (by kernel_rfl) (by simp) ?_
        refine AllReady.cons rfl (fun K hK => ?_) AllReady.nil
        go_simp
        refine hK _ _ ?_
        clear hK K
        refine wpAny_take (i := 4) (v := undef) rfl (by kernel_rfl) (by kernel_rfl) (by kernel_rfl) (fun _ _ _ h => h) (Or.inr ⟨by kernel_rfl, rfl⟩) ?_
        refine wpAny_take (i := 5) (v := undef) rfl (by kernel_rfl) (by kernel_rfl) (by kernel_rfl) (fun _ _ _ h => h) (Or.inr ⟨by kernel_rfl, rfl⟩) ?_
        refine wpAny_take (i := 6) (v := undef) rfl (by kernel_rfl) (by kernel_rfl) (by kernel_rfl) (fun _ _ _ h => h) (Or.inr ⟨by kernel_rfl, rfl⟩) ?_
        refine wpAny_take (i := 7) (v := undef) rfl (by kernel_rfl) (by kernel_rfl) (by kernel_rfl) (fun _ _ _ h => h) (Or.inr ⟨by kernel_rfl, rfl⟩) ?_
        refine wpAny_take (i := 8) (v := undef) rfl (by kernel_rfl) (by kernel_rfl) (by kernel_rfl) (fun _ _ _ h => h) (Or.inr ⟨by kernel_rfl, rfl⟩) ?_
        refine wpAny_take (i := 9) (v := undef) rfl (by kernel_rfl) (by kernel_rfl) (by kernel_rfl) (fun _ _ _ h => h) (Or.inr ⟨by kernel_rfl, rfl⟩) ?_
        refine wpAny_take (i := 10) (v := undef) rfl (by kernel_rfl) (by kernel_rfl) (by kernel_rfl) (fun _ _ _ h => h) (Or.inr ⟨by kernel_rfl, rfl⟩) ?_
        refine wpAny_ready (rs := [11]) (by kernel_rfl) (by simp) ?_
        refine AllReady.cons rfl (fun K hK => ?_) AllReady.nil
        go_simp
        refine hK _ _ ?_
        clear hK K
        refine wpAny_done (by kernel_rfl) ?_ _
        go_wp2
        go_ret
        exact ⟨ret_bool hbad.out.symm, hbl9⟩
      · have hcon := Lib.hid (fun (w : World) => impl_ValOk w x hxo)
        rw [hv] at hcon
        have HV := Lib.hid hv
        clear hv
        by_cases hty : x.ty = t
        · have hgood := Lib.hid (hall.succ (zip_at hx.out ht.out) (show fitGood (x, t) = true by unfold fitGood; rw [HV.out, decide_eq_true hty]; rfl))
          have e2 : (x.ty != t) = false := by simpa using hty
          clear hty hall
          go_wp2_with fail
          rw [← HW.out]
          clear hd0 hd1 hd2 hzr
          go_region_held3 (fun w' => w'.cell? ⟨wr.heap.size, 0, none⟩ = some (.int .i64 x.ty) ∧ w'.cell? ⟨wr.heap.size, 1, none⟩ = some (.int .i64 x.n) ∧ w'.cell? ⟨wr.heap.size, 2, none⟩ = some (.string x.s) ∧ w'.cell? ⟨pc, offc + k, none⟩ = some (.int .i64 t) ∧ Below w.heap.size w w')
            (first
              | (exact ⟨f0, f1, f2, hzW, hbW.drew⟩)
              | go_keep
              | (go_split_ands
                 refine ⟨cell_keep hb9 (by assumption), cell_keep hb9 (by assumption), cell_keep hb9 (by assumption), cell_keep hb9 (by assumption), Below.trans (by assumption) (hb9.mono (Below.size (by assumption)))⟩))
            (first | (go_at_call 40; refine (hcon.out _).mono ?_; rintro e w9 ⟨rfl, hb9⟩))
          have hbl9 : Below w.heap.size w w9 := (show _ ∧ _ ∧ _ ∧ _ ∧ Below w.heap.size w w9 by assumption).2.2.2.2
          clear f0 f1 f2 hbW hzW HW hbl hb9
          go_wp2
          go_roundw
          case rel => exact ⟨k + 1, by omega, by go_num, hgood.out, hbl9⟩
          case measure => simp [intOf]; omega
        · have hbad := Lib.hid (fits_bad hx.out ht.out (show fitGood (x, t) = false by unfold fitGood; rw [decide_eq_false hty]; simp))
          have e2 : (x.ty != t) = true := by simpa using hty
          clear hty hall
          go_wp2_with fail
          rw [← HW.out]
          clear hd0 hd1 hd2 hzr
          go_region_held3 (fun w' => w'.cell? ⟨wr.heap.size, 0, none⟩ = some (.int .i64 x.ty) ∧ w'.cell? ⟨wr.heap.size, 1, none⟩ = some (.int .i64 x.n) ∧ w'.cell? ⟨wr.heap.size, 2, none⟩ = some (.string x.s) ∧ w'.cell? ⟨pc, offc + k, none⟩ = some (.int .i64 t) ∧ Below w.heap.size w w')
            (first
              | (exact ⟨f0, f1, f2, hzW, hbW.drew⟩)
              | go_keep
              | (go_split_ands
                 refine ⟨cell_keep hb9 (by assumption), cell_keep hb9 (by assumption), cell_keep hb9 (by assumption), cell_keep hb9 (by assumption), Below.trans (by assumption) (hb9.mono (Below.size (by assumption)))⟩))
            (first | (go_at_call 40; refine (hcon.out _).mono ?_; rintro e w9 ⟨rfl, hb9⟩))
          have hbl9 : Below w.heap.size w w9 := (show _ ∧ _ ∧ _ ∧ _ ∧ Below w.heap.size w w9 by assumption).2.2.2.2
          clear f0 f1 f2 hbW hzW HW hbl hb9
          go_wp2
          go_ret
          exact ⟨ret_bool hbad.out.symm, hbl9⟩
    · have hkn : k = vs.length := by omega
      subst hkn
      have hend := Lib.hid (fits_end HN.out hall)
      go_wp2
      go_ret
      exact ⟨ret_bool hend.out.symm, hbl⟩

set_option maxHeartbeats 6000000 in
theorem spec_FitsCols (w : World) (Ac : Option Addr) (cc : Nat) (cols : List Int) (hrc : Reads w w.heap.size 1 Ac cols.length (intCells cols)) (hlc : cols.length ≤ 1099511627776) (hic : ∀ x ∈ cols, I64 x)
    (A : Option Addr) (c : Nat) (vs : List V) (hr : Reads w w.heap.size 3 A vs.length (valCells vs)) (hl : vs.length ≤ 1099511627776) (hi : ∀ x ∈ vs, x.ok) :
    Calls Tryz.prog 17 #[.slice Ac cols.length cc, .slice A vs.length c] w fun e w' => e = .returned (.bool (fitsCols cols vs)) ∧ Below w.heap.size w w' := by
  clear hic
  by_cases hn : vs.length = cols.length
  rotate_left
  · have e0 : ((vs.length : Int) != (cols.length : Int)) = true := by rw [bne_iff_ne]; omega
    have e1 : ((cols.length : Int) != (vs.length : Int)) = true := by rw [bne_iff_ne]; omega
    have hz := Lib.hid (fits_len hn)
    clear hn hi
    go_enter Tryz.func17, Tryz.ntmps17
    go_wp2
    go_ret
    exact ⟨ret_bool hz.out.symm, Below.refl _ _⟩
  have HN := Lib.hid hn
  have hle1 : vs.length ≤ cols.length := by omega
  have hle2 : cols.length ≤ vs.length := by omega
  have e0 : ((vs.length : Int) != (cols.length : Int)) = false := by simp; omega
  have e1 : ((cols.length : Int) != (vs.length : Int)) = false := by simp; omega
  have HI := Lib.hid hi
  clear hn hi
  go_enter Tryz.func17, Tryz.ntmps17
  go_wp2
  go_loopw [5] (fun i wr => ∃ k : Nat, k ≤ vs.length ∧ i = .int .i64 k ∧ AllTo (fitGood) (vs.zip cols) k ∧ Below w.heap.size w wr) (fun i _ => vs.length - (intOf i).toNat)
  case atStart => exact ⟨0, Nat.zero_le _, rfl, AllTo.zero _ _, Below.refl _ _⟩
  case round =>
    obtain ⟨k, hk, rfl, hall, hbl⟩ := hrel
    by_cases hlt : k < vs.length
    · skip
      have hkc : k < cols.length := by omega
      obtain ⟨p, off, x, rfl, hb, hx, hc0, hc1, hc2⟩ := hr.v hlt
      obtain ⟨pc, offc, t, rfl, hbc, ht, htc⟩ := hrc.int hkc
      have hzr : wr.cell? ⟨pc, offc + k, none⟩ = some (.int .i64 t) := (hbl.cell (p := ⟨pc, offc + k, none⟩) hbc).trans htc
      clear hrc htc
      have hd0 : wr.cell? ⟨p, off + k * 3, none⟩ = some (.int .i64 x.ty) := (hbl.cell (p := ⟨p, off + k * 3, none⟩) hb).trans hc0
      have hd1 : wr.cell? ⟨p, off + k * 3 + 1, none⟩ = some (.int .i64 x.n) := (hbl.cell (p := ⟨p, off + k * 3 + 1, none⟩) hb).trans hc1
      have hd2 : wr.cell? ⟨p, off + k * 3 + 2, none⟩ = some (.string x.s) := (hbl.cell (p := ⟨p, off + k * 3 + 2, none⟩) hb).trans hc2
      have hxo := HI.out x (List.mem_of_getElem? hx.out)
      clear hr hc0 hc1 hc2
      have f0 := hd0
      have f1 := hd1
      have f2 := hd2
      have hbW := hbl
      have hzW := hzr
      cases hv : valOk x
      · have hbad := Lib.hid (fits_bad hx.out ht.out (show fitGood (x, t) = false by unfold fitGood; rw [hv]; rfl))
        have hcon := Lib.hid (fun (w : World) => spec_ValOk w x hxo)
        rw [hv] at hcon
        clear hv
        go_wp2_with fail
        clear hd0 hd1 hd2 hzr
        refine wp_region_any (by kernel_rfl) ?_
        change wpAny _ _ _ _ _ _ _ (World.drew _)
        have hbD := hbW.drew
        have g0 : wr.drew.cell? ⟨p, off + k * 3, none⟩ = some (.int .i64 x.ty) := f0
        have g1 : wr.drew.cell? ⟨p, off + k * 3 + 1, none⟩ = some (.int .i64 x.n) := f1
        have g2 : wr.drew.cell? ⟨p, off + k * 3 + 2, none⟩ = some (.string x.s) := f2
        clear f0 f1 f2 hbW hzW hbl
        generalize wr.drew = W2 at g0 g1 g2 hbD ⊢
        refine wpAny_take (i := 0) (v := .slice (some ⟨p, off, none⟩) vs.length c) rfl (by kernel_rfl) (by kernel_rfl) (by kernel_rfl) (fun _ _ _ h => h) (Or.inl ⟨by kernel_rfl, fun _ => by kernel_rfl⟩) ?_
        refine wpAny_take (i := 1) (v := .int .i64 (k : Int)) rfl (by kernel_rfl) (by kernel_rfl) (by kernel_rfl) (fun _ _ _ h => h) (Or.inl ⟨by kernel_rfl, fun _ => by kernel_rfl⟩) ?_
        refine wpAny_ready (rs := [2]) (by kernel_rfl) (by simp) ?_
        refine AllReady.cons rfl (fun K hK => ?_) AllReady.nil
        go_simp
        refine hK _ _ ?_
        clear hK K
        refine wpAny_ready (rs := [3]) (by kernel_rfl) (by simp) ?_
        refine AllReady.cons rfl (fun K hK => ?_) AllReady.nil
        go_simp
        refine hK _ _ ?_
        clear hK K
        refine wpAny_ready (rs := [4]) (by kernel_rfl) (by simp) ?_
        refine AllReady.cons rfl (fun K hK => ?_) AllReady.nil
        go_simp
        go_wp2_with (go_at_call 41; refine (hcon.out _).mono ?_; rintro e w9 ⟨rfl, hb9⟩)
        have hbl9 := hbD.trans (hb9.mono hbD.size)
        clear g0 g1 g2 hbD hb9
        refine wpAny_ready (rs := [5]) (by kernel_rfl) (by simp) ?_
        refine AllReady.cons rfl (fun K hK => ?_) AllReady.nil
        go_simp
        refine hK _ _ ?_
        clear hK K
        refine wpAny_ready (rs := [6]) (by kernel_rfl) (by simp) ?_
        refine AllReady.cons rfl (fun K hK => ?_) AllReady.nil
        go_simp
        refine hK _ _ ?_
        clear hK K
        refine wpAny_take (i := 7) (v := undef) rfl (by kernel_rfl) (by kernel_rfl) (by kernel_rfl) (fun _ _ _ h => h) (Or.inr ⟨by kernel_rfl, rfl⟩) ?_
        refine wpAny_take (i := 8) (v := undef) rfl (by kernel_rfl) (by kernel_rfl) (by kernel_rfl) (fun _ _ _ h => h) (Or.inr ⟨by kernel_rfl, rfl⟩) ?_
        refine wpAny_take (i := 9) (v := undef) rfl (by kernel_rfl) (by kernel_rfl) (by kernel_rfl) (fun _ _ _ h => h) (Or.inr ⟨by kernel_rfl, rfl⟩) ?_
        refine wpAny_take (i := 10) (v := undef) rfl (by kernel_rfl) (by kernel_rfl) (by kernel_rfl) (fun _ _ _ h => h) (Or.inr ⟨by kernel_rfl, rfl⟩) ?_
        refine wpAny_take (i := 11) (v := undef) rfl (by kernel_rfl) (by kernel_rfl) (by kernel_rfl) (fun _ _ _ h => h) (Or.inr ⟨by kernel_rfl, rfl⟩) ?_
        refine wpAny_take (i := 12) (v := undef) rfl (by kernel_rfl) (by kernel_rfl) (by kernel_rfl) (fun _ _ _ h => h) (Or.inr ⟨by kernel_rfl, rfl⟩) ?_
        refine wpAny_take (i := 13) (v := undef) rfl (by kernel_rfl) (by kernel_rfl) (by kernel_rfl) (fun _ _ _ h => h) (Or.inr ⟨by kernel_rfl, rfl⟩) ?_
        refine wpAny_take (i := 14) (v := undef) rfl (by kernel_rfl) (by kernel_rfl) (by kernel_rfl) (fun _ _ _ h => h) (Or.inr ⟨by kernel_rfl, rfl⟩) ?_
        refine wpAny_take (i := 15) (v := undef) rfl (by kernel_rfl) (by kernel_rfl) (by kernel_rfl) (fun _ _ _ h => h) (Or.inr ⟨by kernel_rfl, rfl⟩) ?_
        refine wpAny_take (i := 16) (v := undef) rfl (by kernel_rfl) (by kernel_rfl) (by kernel_rfl) (fun _ _ _ h => h) (Or.inr ⟨by kernel_rfl, rfl⟩) ?_
        refine wpAny_ready (rs := [17]) (by kernel_rfl) (by simp) ?_
        refine AllReady.cons rfl (fun K hK => ?_) AllReady.nil
        go_simp
        refine hK _ _ ?_
        clear hK K
        refine wpAny_done (by kernel_rfl) ?_ _
        go_wp2
        go_ret
        exact ⟨ret_bool hbad.out.symm, hbl9⟩
      · have hcon := Lib.hid (fun (w : World) => spec_ValOk w x hxo)
        rw [hv] at hcon
        have HV := Lib.hid hv
        clear hv
        by_cases hty : x.ty = t
        · have hgood := Lib.hid (hall.succ (zip_at hx.out ht.out) (show fitGood (x, t) = true by unfold fitGood; rw [HV.out, decide_eq_true hty]; rfl))
          have e2 : (x.ty != t) = false := by simpa using hty
          clear hty hall
          go_wp2_with fail
          clear hd0 hd1 hd2 hzr
          go_region_held3 (fun w' => w'.cell? ⟨p, off + k * 3, none⟩ = some (.int .i64 x.ty) ∧ w'.cell? ⟨p, off + k * 3 + 1, none⟩ = some (.int .i64 x.n) ∧ w'.cell? ⟨p, off + k * 3 + 2, none⟩ = some (.string x.s) ∧ w'.cell? ⟨pc, offc + k, none⟩ = some (.int .i64 t) ∧ Below w.heap.size w w')
            (first
              | (exact ⟨f0, f1, f2, hzW, hbW.drew⟩)
              | go_keep
              | (go_split_ands
                 refine ⟨cell_keep hb9 (by assumption), cell_keep hb9 (by assumption), cell_keep hb9 (by assumption), cell_keep hb9 (by assumption), Below.trans (by assumption) (hb9.mono (Below.size (by assumption)))⟩))
            (first | (go_at_call 41; refine (hcon.out _).mono ?_; rintro e w9 ⟨rfl, hb9⟩))
          have hbl9 : Below w.heap.size w w9 := (show _ ∧ _ ∧ _ ∧ _ ∧ Below w.heap.size w w9 by assumption).2.2.2.2
          clear f0 f1 f2 hbW hzW hbl hb9
          go_wp2
          go_roundw
          case rel => exact ⟨k + 1, by omega, by go_num, hgood.out, hbl9⟩
          case measure => simp [intOf]; omega
        · have hbad := Lib.hid (fits_bad hx.out ht.out (show fitGood (x, t) = false by unfold fitGood; rw [decide_eq_false hty]; simp))
          have e2 : (x.ty != t) = true := by simpa using hty
          clear hty hall
          go_wp2_with fail
          clear hd0 hd1 hd2 hzr
          go_region_held3 (fun w' => w'.cell? ⟨p, off + k * 3, none⟩ = some (.int .i64 x.ty) ∧ w'.cell? ⟨p, off + k * 3 + 1, none⟩ = some (.int .i64 x.n) ∧ w'.cell? ⟨p, off + k * 3 + 2, none⟩ = some (.string x.s) ∧ w'.cell? ⟨pc, offc + k, none⟩ = some (.int .i64 t) ∧ Below w.heap.size w w')
            (first
              | (exact ⟨f0, f1, f2, hzW, hbW.drew⟩)
              | go_keep
              | (go_split_ands
                 refine ⟨cell_keep hb9 (by assumption), cell_keep hb9 (by assumption), cell_keep hb9 (by assumption), cell_keep hb9 (by assumption), Below.trans (by assumption) (hb9.mono (Below.size (by assumption)))⟩))
            (first | (go_at_call 41; refine (hcon.out _).mono ?_; rintro e w9 ⟨rfl, hb9⟩))
          have hbl9 : Below w.heap.size w w9 := (show _ ∧ _ ∧ _ ∧ _ ∧ Below w.heap.size w w9 by assumption).2.2.2.2
          clear f0 f1 f2 hbW hzW hbl hb9
          go_wp2
          go_ret
          exact ⟨ret_bool hbad.out.symm, hbl9⟩
    · have hkn : k = vs.length := by omega
      subst hkn
      have hend := Lib.hid (fits_end HN.out hall)
      go_wp2
      go_ret
      exact ⟨ret_bool hend.out.symm, hbl⟩

end Go.Proofs.YtgpimlmolcjeoaaGreatDoor
