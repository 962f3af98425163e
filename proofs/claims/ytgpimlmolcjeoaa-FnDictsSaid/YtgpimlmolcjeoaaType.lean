/-
  Contracts of TypeOf and FitsCols, in the program and in the reference.
-/
import Derived.Test.YtgpimlmolcjeoaaAppend
import Derived.Test.YtgpimlmolcjeoaaValOk
import Derived.Deep.RegionWith
namespace Go.Proofs.Ytgpimlmolcjeoaa
open Go.RowKit
set_option linter.unusedVariables false
set_option maxRecDepth 100000

def tyGood (t : Int) (v : V) : Bool := valOk v && decide (v.ty = t)
def typeOf (vs : List V) : Int := match vs with | [] => 0 | x :: _ => if vs.length ≤ 64 ∧ vs.all (tyGood x.ty) = true then x.ty else 0
theorem typeOf_len {vs : List V} (h : ¬ (1 ≤ vs.length ∧ vs.length ≤ 64)) : typeOf vs = 0 := by
  unfold typeOf
  cases vs with
  | nil => rfl
  | cons x xs => exact if_neg (by rintro ⟨h1, _⟩; exact h ⟨by simp, h1⟩)
theorem typeOf_bad {vs : List V} {z x : V} {k : Nat} (h0 : vs[0]? = some z) (h : vs[k]? = some x) (hb : tyGood z.ty x = false) : typeOf vs = 0 := by
  cases vs with
  | nil => rfl
  | cons y ys =>
    simp at h0
    subst h0
    unfold typeOf
    exact if_neg (by
      rintro ⟨_, h2⟩
      rw [all_false h hb] at h2
      cases h2)
theorem typeOf_end {vs : List V} {z : V} (h0 : vs[0]? = some z) (hl : vs.length ≤ 64) (h : AllTo (tyGood z.ty) vs vs.length) : typeOf vs = z.ty := by
  cases vs with
  | nil => simp at h0
  | cons y ys =>
    simp at h0
    subst h0
    unfold typeOf
    exact if_pos ⟨hl, h.all⟩

def fitGood (p : V × Int) : Bool := valOk p.1 && decide (p.1.ty = p.2)
def fitsCols (cols : List Int) (vs : List V) : Bool := decide (vs.length = cols.length) && (vs.zip cols).all fitGood
theorem zip_at {cols : List Int} {vs : List V} {k : Nat} {x : V} {t : Int} (h1 : vs[k]? = some x) (h2 : cols[k]? = some t) : (vs.zip cols)[k]? = some (x, t) := by
  simp [List.getElem?_zip_eq_some, h1, h2]
theorem fits_len {cols : List Int} {vs : List V} (h : vs.length ≠ cols.length) : fitsCols cols vs = false := by
  unfold fitsCols; rw [decide_eq_false h]; rfl
theorem fits_bad {cols : List Int} {vs : List V} {k : Nat} {x : V} {t : Int} (h1 : vs[k]? = some x) (h2 : cols[k]? = some t) (hb : fitGood (x, t) = false) : fitsCols cols vs = false := by
  unfold fitsCols; rw [all_false (zip_at h1 h2) hb]; simp
theorem fits_end {cols : List Int} {vs : List V} (hl : vs.length = cols.length) (h : AllTo fitGood (vs.zip cols) vs.length) : fitsCols cols vs = true := by
  have hz : (vs.zip cols).length = vs.length := by simp [hl]
  unfold fitsCols
  rw [← hz] at h
  rw [h.all, decide_eq_true hl]; rfl

set_option maxHeartbeats 6000000 in
theorem impl_TypeOf (w : World) (A : Option Addr) (c : Nat) (vs : List V) (hr : Reads w w.heap.size 3 A vs.length (valCells vs)) (hl : vs.length ≤ 1099511627776) (hi : ∀ x ∈ vs, x.ok) :
    Calls Try.prog 18 #[.slice A vs.length c] w fun e w' => e = .returned (.int .i64 (typeOf vs)) ∧ Below w.heap.size w w' := by
  by_cases hn : 1 ≤ vs.length ∧ vs.length ≤ 64
  rotate_left
  · have hB : inB (vs.length : Int) 1 64 = false := inB_false (by omega)
    have hz := Lib.hid (typeOf_len hn)
    clear hn hi
    go_enter Try.func18, Try.ntmps18
    go_wp2_with (go_at_call 59; refine (within_any _ _ _ _).mono ?_; rintro e w' ⟨rfl, rfl⟩)
    go_ret
    exact ⟨ret_int hz.out.symm, Below.refl _ _⟩
  have hB : inB (vs.length : Int) 1 64 = true := inB_true (by omega)
  obtain ⟨hn1, hn2⟩ := hn
  obtain ⟨p, off, z, rfl, hb, hz, hz0, hz1, hz2⟩ := hr.v (k := 0) (by omega)
  simp only [Nat.zero_mul, Nat.add_zero] at hz0
  have HI := Lib.hid hi
  clear hz1 hz2 hi
  go_enter Try.func18, Try.ntmps18
  go_wp2_with (go_at_call 59; refine (within_any _ _ _ _).mono ?_; rintro e w' ⟨rfl, rfl⟩)
  go_loopw [11] (fun i wr => ∃ k : Nat, k ≤ vs.length ∧ i = .int .i64 k ∧ AllTo (tyGood z.ty) vs k ∧ Below w.heap.size w wr) (fun i _ => vs.length - (intOf i).toNat)
  case atStart => exact ⟨0, Nat.zero_le _, rfl, AllTo.zero _ _, Below.refl _ _⟩
  case round =>
    obtain ⟨k, hk, rfl, hall, hbl⟩ := hrel
    have hzr : wr.cell? ⟨p, off, none⟩ = some (.int .i64 z.ty) := (hbl.cell (p := ⟨p, off, none⟩) hb).trans hz0
    clear hz0
    by_cases hlt : k < vs.length
    · skip
      obtain ⟨p2, off2, x, he, hb2, hx, hc0, hc1, hc2⟩ := hr.v hlt
      obtain ⟨rfl, rfl⟩ : p = p2 ∧ off = off2 := by injection he with he; injection he with h1 h2; exact ⟨h1, h2⟩
      clear he
      have hpos : (0 : Int) < (vs.length : Int) := by omega
      have hposN : 0 < vs.length := by omega
      have hd0 : wr.cell? ⟨p, off + k * 3, none⟩ = some (.int .i64 x.ty) := (hbl.cell (p := ⟨p, off + k * 3, none⟩) hb).trans hc0
      have hd1 : wr.cell? ⟨p, off + k * 3 + 1, none⟩ = some (.int .i64 x.n) := (hbl.cell (p := ⟨p, off + k * 3 + 1, none⟩) hb).trans hc1
      have hd2 : wr.cell? ⟨p, off + k * 3 + 2, none⟩ = some (.string x.s) := (hbl.cell (p := ⟨p, off + k * 3 + 2, none⟩) hb).trans hc2
      have hxo := HI.out x (List.mem_of_getElem? hx.out)
      clear hr hc0 hc1 hc2
      obtain ⟨W, hW⟩ : ∃ W, W = wr.alloc (.cells #[.int .i64 x.ty, .int .i64 x.n, .string x.s] 37) := ⟨_, rfl⟩
      have f0 : W.cell? ⟨wr.heap.size, 0, none⟩ = some (.int .i64 x.ty) := by rw [hW]; simp [go_sem]
      have f1 : W.cell? ⟨wr.heap.size, 1, none⟩ = some (.int .i64 x.n) := by rw [hW]; simp [go_sem]
      have f2 : W.cell? ⟨wr.heap.size, 2, none⟩ = some (.string x.s) := by rw [hW]; simp [go_sem]
      have hbW : Below w.heap.size w W := by rw [hW]; exact hbl.alloc hbl.size _
      have hzW : W.cell? ⟨p, off, none⟩ = some (.int .i64 z.ty) := by rw [hW]; exact cell_keep (Below.alloc0 (Below.refl _ _) _) hzr
      have HW := Lib.hid hW
      clear hW
      cases hv : valOk x
      · have hbad := Lib.hid (typeOf_bad hz.out hx.out (show tyGood z.ty x = false by unfold tyGood; rw [hv]; rfl))
        have hcon := Lib.hid (fun (w : World) => impl_ValOk w x hxo)
        rw [hv] at hcon
        clear hv
        go_wp2_with fail
        rw [← HW.out]
        clear hd0 hd1 hd2 hzr
        refine wp_region_any (by kernel_rfl) ?_
        change wpAny _ _ _ _ _ _ _ (World.drew _)
        have hbD := hbW.drew
        have g0 : W.drew.cell? ⟨wr.heap.size, 0, none⟩ = some (.int .i64 x.ty) := f0
        have g1 : W.drew.cell? ⟨wr.heap.size, 1, none⟩ = some (.int .i64 x.n) := f1
        have g2 : W.drew.cell? ⟨wr.heap.size, 2, none⟩ = some (.string x.s) := f2
        clear f0 f1 f2 hbW hzW HW
        generalize W.drew = W2 at g0 g1 g2 hbD ⊢
        refine wpAny_ready (rs := [0]) (by kernel_rfl) (by simp) ?_
        refine AllReady.cons rfl (fun K hK => ?_) AllReady.nil
        go_simp
        refine hK _ _ ?_
        clear hK K
        refine wpAny_ready (rs := [1]) (by kernel_rfl) (by simp) ?_
        refine AllReady.cons rfl (fun K hK => ?_) AllReady.nil
        go_simp
        go_wp2_with (go_at_call 60; refine (hcon.out _).mono ?_; rintro e w9 ⟨rfl, hb9⟩)
        have hbl9 := hbD.trans (hb9.mono hbD.size)
        clear g0 g1 g2 hbD hb9
        refine wpAny_ready (rs := [2]) (by kernel_rfl) (by simp) ?_
        refine AllReady.cons rfl (fun K hK => ?_) AllReady.nil
        go_simp
        refine hK _ _ ?_
        clear hK K
        refine wpAny_ready (rs := [3]) (by kernel_rfl) (by simp) ?_
        refine AllReady.cons rfl (fun K hK => ?_) AllReady.nil
        go_simp
        refine hK _ _ ?_
        clear hK K
        refine wpAny_take (i := 4) (v := undef) rfl (by kernel_rfl) (by kernel_rfl) (by kernel_rfl) (fun _ _ _ h => h) (Or.inr ⟨by kernel_rfl, rfl⟩) ?_
        refine wpAny_take (i := 5) (v := undef) rfl (by kernel_rfl) (by kernel_rfl) (by kernel_rfl) (fun _ _ _ h => h) (Or.inr ⟨by kernel_rfl, rfl⟩) ?_
        refine wpAny_take (i := 6) (v := undef) rfl (by kernel_rfl) (by kernel_rfl) (by kernel_rfl) (fun _ _ _ h => h) (Or.inr ⟨by kernel_rfl, rfl⟩) ?_
        refine wpAny_take (i := 7) (v := undef) rfl (by kernel_rfl) (by kernel_rfl) (by kernel_rfl) (fun _ _ _ h => h) (Or.inr ⟨by kernel_rfl, rfl⟩) ?_
        refine wpAny_take (i := 8) (v := undef) rfl (by kernel_rfl) (by kernel_rfl) (by kernel_rfl) (fun _ _ _ h => h) (Or.inr ⟨by kernel_rfl, rfl⟩) ?_
        refine wpAny_take (i := 9) (v := undef) rfl (by kernel_rfl) (by kernel_rfl) (by kernel_rfl) (fun _ _ _ h => h) (Or.inr ⟨by kernel_rfl, rfl⟩) ?_
        refine wpAny_take (i := 10) (v := undef) rfl (by kernel_rfl) (by kernel_rfl) (by kernel_rfl) (fun _ _ _ h => h) (Or.inr ⟨by kernel_rfl, rfl⟩) ?_
        refine wpAny_ready (rs := [11]) (by kernel_rfl) (by simp) ?_
        refine AllReady.cons rfl (fun K hK => ?_) AllReady.nil
        go_simp
        refine hK _ _ ?_
        clear hK K
        refine wpAny_done (by kernel_rfl) ?_ _
        go_wp2
        go_ret
        exact ⟨ret_int hbad.out.symm, hbl9⟩
      · have hcon := Lib.hid (fun (w : World) => impl_ValOk w x hxo)
        rw [hv] at hcon
        have HV := Lib.hid hv
        clear hv
        by_cases hty : x.ty = z.ty
        · have hgood := Lib.hid (hall.succ hx.out (show tyGood z.ty x = true by unfold tyGood; rw [HV.out, decide_eq_true hty]; rfl))
          have e2 : (x.ty != z.ty) = false := by simpa using hty
          clear hty hall
          go_wp2_with fail
          rw [← HW.out]
          clear hd0 hd1 hd2 hzr
          go_region_held3 (fun w' => w'.cell? ⟨wr.heap.size, 0, none⟩ = some (.int .i64 x.ty) ∧ w'.cell? ⟨wr.heap.size, 1, none⟩ = some (.int .i64 x.n) ∧ w'.cell? ⟨wr.heap.size, 2, none⟩ = some (.string x.s) ∧ w'.cell? ⟨p, off, none⟩ = some (.int .i64 z.ty) ∧ Below w.heap.size w w')
            (first
              | (exact ⟨f0, f1, f2, hzW, hbW.drew⟩)
              | go_keep
              | (go_split_ands
                 refine ⟨cell_keep hb9 (by assumption), cell_keep hb9 (by assumption), cell_keep hb9 (by assumption), cell_keep hb9 (by assumption), Below.trans (by assumption) (hb9.mono (Below.size (by assumption)))⟩))
            (first | (go_at_call 60; refine (hcon.out _).mono ?_; rintro e w9 ⟨rfl, hb9⟩))
          have hbl9 : Below w.heap.size w w9 := (show _ ∧ _ ∧ _ ∧ _ ∧ Below w.heap.size w w9 by assumption).2.2.2.2
          clear f0 f1 f2 hbW hzW HW hbl hb9
          go_wp2
          go_roundw
          case rel => exact ⟨k + 1, by omega, by go_num, hgood.out, hbl9⟩
          case measure => simp [intOf]; omega
        · have hbad := Lib.hid (typeOf_bad hz.out hx.out (show tyGood z.ty x = false by unfold tyGood; rw [decide_eq_false hty]; simp))
          have e2 : (x.ty != z.ty) = true := by simpa using hty
          clear hty hall
          go_wp2_with fail
          rw [← HW.out]
          clear hd0 hd1 hd2 hzr
          go_region_held3 (fun w' => w'.cell? ⟨wr.heap.size, 0, none⟩ = some (.int .i64 x.ty) ∧ w'.cell? ⟨wr.heap.size, 1, none⟩ = some (.int .i64 x.n) ∧ w'.cell? ⟨wr.heap.size, 2, none⟩ = some (.string x.s) ∧ w'.cell? ⟨p, off, none⟩ = some (.int .i64 z.ty) ∧ Below w.heap.size w w')
            (first
              | (exact ⟨f0, f1, f2, hzW, hbW.drew⟩)
              | go_keep
              | (go_split_ands
                 refine ⟨cell_keep hb9 (by assumption), cell_keep hb9 (by assumption), cell_keep hb9 (by assumption), cell_keep hb9 (by assumption), Below.trans (by assumption) (hb9.mono (Below.size (by assumption)))⟩))
            (first | (go_at_call 60; refine (hcon.out _).mono ?_; rintro e w9 ⟨rfl, hb9⟩))
          have hbl9 : Below w.heap.size w w9 := (show _ ∧ _ ∧ _ ∧ _ ∧ Below w.heap.size w w9 by assumption).2.2.2.2
          clear f0 f1 f2 hbW hzW HW hbl hb9
          go_wp2
          go_ret
          exact ⟨ret_int hbad.out.symm, hbl9⟩
    · have hkn : k = vs.length := by omega
      subst hkn
      have hend := Lib.hid (typeOf_end hz.out hn2 hall)
      go_wp2
      go_ret
      exact ⟨ret_int hend.out.symm, hbl⟩

set_option maxHeartbeats 6000000 in
theorem spec_TypeOf (w : World) (A : Option Addr) (c : Nat) (vs : List V) (hr : Reads w w.heap.size 3 A vs.length (valCells vs)) (hl : vs.length ≤ 1099511627776) (hi : ∀ x ∈ vs, x.ok) :
    Calls Try.prog 52 #[.slice A vs.length c] w fun e w' => e = .returned (.int .i64 (typeOf vs)) ∧ Below w.heap.size w w' := by
  by_cases hn : 1 ≤ vs.length ∧ vs.length ≤ 64
  rotate_left
  · have hB : inB (vs.length : Int) 1 64 = false := inB_false (by omega)
    have hz := Lib.hid (typeOf_len hn)
    clear hn hi
    go_enter Try.func52, Try.ntmps52
    go_wp2_with (go_at_call 71; refine (l1In_any _ _ _ _).mono ?_; rintro e w' ⟨rfl, rfl⟩)
    go_ret
    exact ⟨ret_int hz.out.symm, Below.refl _ _⟩
  have hB : inB (vs.length : Int) 1 64 = true := inB_true (by omega)
  obtain ⟨hn1, hn2⟩ := hn
  obtain ⟨p, off, z, rfl, hb, hz, hz0, hz1, hz2⟩ := hr.v (k := 0) (by omega)
  simp only [Nat.zero_mul, Nat.add_zero] at hz0
  have HI := Lib.hid hi
  clear hz1 hz2 hi
  go_enter Try.func52, Try.ntmps52
  go_wp2_with (go_at_call 71; refine (l1In_any _ _ _ _).mono ?_; rintro e w' ⟨rfl, rfl⟩)
  go_loopw [3] (fun i wr => ∃ k : Nat, k ≤ vs.length ∧ i = .int .i64 k ∧ AllTo (tyGood z.ty) vs k ∧ Below w.heap.size w wr) (fun i _ => vs.length - (intOf i).toNat)
  case atStart => exact ⟨0, Nat.zero_le _, rfl, AllTo.zero _ _, Below.refl _ _⟩
  case round =>
    obtain ⟨k, hk, rfl, hall, hbl⟩ := hrel
    have hzr : wr.cell? ⟨p, off, none⟩ = some (.int .i64 z.ty) := (hbl.cell (p := ⟨p, off, none⟩) hb).trans hz0
    clear hz0
    by_cases hlt : k < vs.length
    · skip
      obtain ⟨p2, off2, x, he, hb2, hx, hc0, hc1, hc2⟩ := hr.v hlt
      obtain ⟨rfl, rfl⟩ : p = p2 ∧ off = off2 := by injection he with he; injection he with h1 h2; exact ⟨h1, h2⟩
      clear he
      have hpos : (0 : Int) < (vs.length : Int) := by omega
      have hposN : 0 < vs.length := by omega
      have hd0 : wr.cell? ⟨p, off + k * 3, none⟩ = some (.int .i64 x.ty) := (hbl.cell (p := ⟨p, off + k * 3, none⟩) hb).trans hc0
      have hd1 : wr.cell? ⟨p, off + k * 3 + 1, none⟩ = some (.int .i64 x.n) := (hbl.cell (p := ⟨p, off + k * 3 + 1, none⟩) hb).trans hc1
      have hd2 : wr.cell? ⟨p, off + k * 3 + 2, none⟩ = some (.string x.s) := (hbl.cell (p := ⟨p, off + k * 3 + 2, none⟩) hb).trans hc2
      have hxo := HI.out x (List.mem_of_getElem? hx.out)
      clear hr hc0 hc1 hc2
      have f0 := hd0
      have f1 := hd1
      have f2 := hd2
      have hbW := hbl
      have hzW := hzr
      cases hv : valOk x
      · have hbad := Lib.hid (typeOf_bad hz.out hx.out (show tyGood z.ty x = false by unfold tyGood; rw [hv]; rfl))
        have hcon := Lib.hid (fun (w : World) => spec_ValOk w x hxo)
        rw [hv] at hcon
        clear hv
        go_wp2_with fail
        clear hd0 hd1 hd2 hzr
        refine wp_region_any (by kernel_rfl) ?_
        change wpAny _ _ _ _ _ _ _ (World.drew _)
        have hbD := hbW.drew
        have g0 : wr.drew.cell? ⟨p, off + k * 3, none⟩ = some (.int .i64 x.ty) := f0
        have g1 : wr.drew.cell? ⟨p, off + k * 3 + 1, none⟩ = some (.int .i64 x.n) := f1
        have g2 : wr.drew.cell? ⟨p, off + k * 3 + 2, none⟩ = some (.string x.s) := f2
        clear f0 f1 f2 hbW hzW hbl
        generalize wr.drew = W2 at g0 g1 g2 hbD ⊢
        refine wpAny_take (i := 0) (v := .slice (some ⟨p, off, none⟩) vs.length c) rfl (by kernel_rfl) (by kernel_rfl) (by kernel_rfl) (fun _ _ _ h => h) (Or.inl ⟨by kernel_rfl, fun _ => by kernel_rfl⟩) ?_
        refine wpAny_take (i := 1) (v := .int .i64 (k : Int)) rfl (by kernel_rfl) (by kernel_rfl) (by kernel_rfl) (fun _ _ _ h => h) (Or.inl ⟨by kernel_rfl, fun _ => by kernel_rfl⟩) ?_
        refine wpAny_ready (rs := [2]) (by kernel_rfl) (by simp) ?_
        refine AllReady.cons rfl (fun K hK => ?_) AllReady.nil
        go_simp
        refine hK _ _ ?_
        clear hK K
        refine wpAny_ready (rs := [3]) (by kernel_rfl) (by simp) ?_
        refine AllReady.cons rfl (fun K hK => ?_) AllReady.nil
        go_simp
        refine hK _ _ ?_
        clear hK K
        refine wpAny_ready (rs := [4]) (by kernel_rfl) (by simp) ?_
        refine AllReady.cons rfl (fun K hK => ?_) AllReady.nil
        go_simp
        go_wp2_with (go_at_call 77; refine (hcon.out _).mono ?_; rintro e w9 ⟨rfl, hb9⟩)
        have hbl9 := hbD.trans (hb9.mono hbD.size)
        clear g0 g1 g2 hbD hb9
        refine wpAny_ready (rs := [5]) (by kernel_rfl) (by simp) ?_
        refine AllReady.cons rfl (fun K hK => ?_) AllReady.nil
        go_simp
        refine hK _ _ ?_
        clear hK K
        refine wpAny_ready (rs := [6]) (by kernel_rfl) (by simp) ?_
        refine AllReady.cons rfl (fun K hK => ?_) AllReady.nil
        go_simp
        refine hK _ _ ?_
        clear hK K
        refine wpAny_take (i := 7) (v := undef) rfl (by kernel_rfl) (by kernel_rfl) (by kernel_rfl) (fun _ _ _ h => h) (Or.inr ⟨by kernel_rfl, rfl⟩) ?_
        refine wpAny_take (i := 8) (v := undef) rfl (by kernel_rfl) (by kernel_rfl) (by kernel_rfl) (fun _ _ _ h => h) (Or.inr ⟨by kernel_rfl, rfl⟩) ?_
        refine wpAny_take (i := 9) (v := undef) rfl (by kernel_rfl) (by kernel_rfl) (by kernel_rfl) (fun _ _ _ h => h) (Or.inr ⟨by kernel_rfl, rfl⟩) ?_
        refine wpAny_take (i := 10) (v := undef) rfl (by kernel_rfl) (by kernel_rfl) (by kernel_rfl) (fun _ _ _ h => h) (Or.inr ⟨by kernel_rfl, rfl⟩) ?_
        refine wpAny_take (i := 11) (v := undef) rfl (by kernel_rfl) (by kernel_rfl) (by kernel_rfl) (fun _ _ _ h => h) (Or.inr ⟨by kernel_rfl, rfl⟩) ?_
        refine wpAny_take (i := 12) (v := undef) rfl (by kernel_rfl) (by kernel_rfl) (by kernel_rfl) (fun _ _ _ h => h) (Or.inr ⟨by kernel_rfl, rfl⟩) ?_
        refine wpAny_take (i := 13) (v := undef) rfl (by kernel_rfl) (by kernel_rfl) (by kernel_rfl) (fun _ _ _ h => h) (Or.inr ⟨by kernel_rfl, rfl⟩) ?_
        refine wpAny_take (i := 14) (v := undef) rfl (by kernel_rfl) (by kernel_rfl) (by kernel_rfl) (fun _ _ _ h => h) (Or.inr ⟨by kernel_rfl, rfl⟩) ?_
        refine wpAny_take (i := 15) (v := undef) rfl (by kernel_rfl) (by kernel_rfl) (by kernel_rfl) (fun _ _ _ h => h) (Or.inr ⟨by kernel_rfl, rfl⟩) ?_
        refine wpAny_take (i := 16) (v := undef) rfl (by kernel_rfl) (by kernel_rfl) (by kernel_rfl) (fun _ _ _ h => h) (Or.inr ⟨by kernel_rfl, rfl⟩) ?_
        refine wpAny_ready (rs := [17]) (by kernel_rfl) (by simp) ?_
        refine AllReady.cons rfl (fun K hK => ?_) AllReady.nil
        go_simp
        refine hK _ _ ?_
        clear hK K
        refine wpAny_done (by kernel_rfl) ?_ _
        go_wp2
        go_ret
        exact ⟨ret_int hbad.out.symm, hbl9⟩
      · have hcon := Lib.hid (fun (w : World) => spec_ValOk w x hxo)
        rw [hv] at hcon
        have HV := Lib.hid hv
        clear hv
        by_cases hty : x.ty = z.ty
        · have hgood := Lib.hid (hall.succ hx.out (show tyGood z.ty x = true by unfold tyGood; rw [HV.out, decide_eq_true hty]; rfl))
          have e2 : (x.ty != z.ty) = false := by simpa using hty
          clear hty hall
          go_wp2_with fail
          clear hd0 hd1 hd2 hzr
          go_region_held3 (fun w' => w'.cell? ⟨p, off + k * 3, none⟩ = some (.int .i64 x.ty) ∧ w'.cell? ⟨p, off + k * 3 + 1, none⟩ = some (.int .i64 x.n) ∧ w'.cell? ⟨p, off + k * 3 + 2, none⟩ = some (.string x.s) ∧ w'.cell? ⟨p, off, none⟩ = some (.int .i64 z.ty) ∧ Below w.heap.size w w')
            (first
              | (exact ⟨f0, f1, f2, hzW, hbW.drew⟩)
              | go_keep
              | (go_split_ands
                 refine ⟨cell_keep hb9 (by assumption), cell_keep hb9 (by assumption), cell_keep hb9 (by assumption), cell_keep hb9 (by assumption), Below.trans (by assumption) (hb9.mono (Below.size (by assumption)))⟩))
            (first | (go_at_call 77; refine (hcon.out _).mono ?_; rintro e w9 ⟨rfl, hb9⟩))
          have hbl9 : Below w.heap.size w w9 := (show _ ∧ _ ∧ _ ∧ _ ∧ Below w.heap.size w w9 by assumption).2.2.2.2
          clear f0 f1 f2 hbW hzW hbl hb9
          go_wp2
          go_roundw
          case rel => exact ⟨k + 1, by omega, by go_num, hgood.out, hbl9⟩
          case measure => simp [intOf]; omega
        · have hbad := Lib.hid (typeOf_bad hz.out hx.out (show tyGood z.ty x = false by unfold tyGood; rw [decide_eq_false hty]; simp))
          have e2 : (x.ty != z.ty) = true := by simpa using hty
          clear hty hall
          go_wp2_with fail
          clear hd0 hd1 hd2 hzr
          go_region_held3 (fun w' => w'.cell? ⟨p, off + k * 3, none⟩ = some (.int .i64 x.ty) ∧ w'.cell? ⟨p, off + k * 3 + 1, none⟩ = some (.int .i64 x.n) ∧ w'.cell? ⟨p, off + k * 3 + 2, none⟩ = some (.string x.s) ∧ w'.cell? ⟨p, off, none⟩ = some (.int .i64 z.ty) ∧ Below w.heap.size w w')
            (first
              | (exact ⟨f0, f1, f2, hzW, hbW.drew⟩)
              | go_keep
              | (go_split_ands
                 refine ⟨cell_keep hb9 (by assumption), cell_keep hb9 (by assumption), cell_keep hb9 (by assumption), cell_keep hb9 (by assumption), Below.trans (by assumption) (hb9.mono (Below.size (by assumption)))⟩))
            (first | (go_at_call 77; refine (hcon.out _).mono ?_; rintro e w9 ⟨rfl, hb9⟩))
          have hbl9 : Below w.heap.size w w9 := (show _ ∧ _ ∧ _ ∧ _ ∧ Below w.heap.size w w9 by assumption).2.2.2.2
          clear f0 f1 f2 hbW hzW hbl hb9
          go_wp2
          go_ret
          exact ⟨ret_int hbad.out.symm, hbl9⟩
    · have hkn : k = vs.length := by omega
      subst hkn
      have hend := Lib.hid (typeOf_end hz.out hn2 hall)
      go_wp2
      go_ret
      exact ⟨ret_int hend.out.symm, hbl⟩

end Go.Proofs.Ytgpimlmolcjeoaa
