/-
  The walk of the law FnRows: the Go function returns true, and leaves what it was handed as it was.
-/
import Derived.Test.YtgpimlmolcjeoaaGreatDoorRdrawn
import Derived.Test.YtgpimlmolcjeoaaGreatDoorSamer
import Derived.Test.YtgpimlmolcjeoaaGreatDoorRowok
import Derived.Test.YtgpimlmolcjeoaaGreatDoorFits
import Derived.Test.YtgpimlmolcjeoaaGreatDoorVal
import Derived.Test.YtgpimlmolcjeoaaGreatDoorPvals
import Derived.Test.YtgpimlmolcjeoaaGreatDoorCol
import Derived.Test.YtgpimlmolcjeoaaGreatDoorRtext
import Derived.BigRegion
namespace Go.Proofs.YtgpimlmolcjeoaaGreatDoor.fnRows
open Go.RowKit Go.Deep
set_option linter.unusedVariables false
set_option maxRecDepth 100000

theorem same_len {rs : List RowV} {n : Nat} (h : ∀ r ∈ rs, r.l.length = n) {q : Nat} (hq : q < n) : (colOf rs (q : Int)).length = rs.length := by
  induction rs with
  | nil => rfl
  | cons r rs ih =>
    have h1 := h r (by simp)
    have h2 := ih fun x hx => h x (by simp [hx])
    have h3 := colOne_in (q := q) (l := r.l) (v := r.l[q]'(by omega)) (by simp)
    simp only [colOf, List.flatMap_cons, List.length_append, List.length_cons, h3, List.length_nil] at h2 ⊢
    omega
theorem col_at {rs : List RowV} {n : Nat} (h : ∀ r ∈ rs, r.l.length = n) {q : Nat} (hq : q < n) {j : Nat} {x : RowV} {y : V} (hx : rs[j]? = some x) (hy : x.l[q]? = some y) : (colOf rs (q : Int))[j]? = some y := by
  induction rs generalizing j with
  | nil => simp at hx
  | cons r rs ih =>
    have h1 := h r (by simp)
    have h3 := colOne_in (q := q) (l := r.l) (v := r.l[q]'(by omega)) (by simp)
    have e : colOf (r :: rs) (q : Int) = r.l[q]'(by omega) :: colOf rs (q : Int) := by
      simp only [colOf, List.flatMap_cons, h3]
      rfl
    rw [e]
    cases j with
    | zero =>
      simp at hx
      subst hx
      simp [List.getElem?_eq_getElem (show q < r.l.length by omega)] at hy
      simp [hy]
    | succ j =>
      simp at hx ⊢
      exact ih (fun x hx => h x (by simp [hx])) hx
theorem rowOk_parts {cols : List Int} {id : Int} {a : List V} (h : rowOk cols id a = true) : 0 ≤ id ∧ a.length = cols.length := by
  simp only [rowOk, fitsCols, Bool.and_eq_true, decide_eq_true_eq] at h
  exact ⟨h.1, h.2.1⟩

set_option maxHeartbeats 6400000 in
theorem walk (w : World) (A0 : Option Addr) (c0 : Nat) (a0 : List UInt8) (hc0 : a0.length ≤ c0) (hm0 : c0 ≤ maxLen) (hr0 : Reads w w.heap.size 1 A0 a0.length (byteCells a0)) (hL : laidMet Tryz.prog Rows.fnRowsRow.laid w) (hM0 : MaxL w) :
    Calls Tryz.prog 3 #[.slice A0 a0.length c0] w fun e w' => e = .returned (.bool true) ∧ Below w.heap.size w w' := by
  have hT0 : Tab w := tab_of hL
  have hE0 : Errs w := errs_of_tail hL.tail.tail.tail.tail
  have hbl0 := Below.refl w.heap.size w
  clear hL
  have hmx : a0.length ≤ maxLen := Nat.le_trans hc0 hm0
  unfold maxLen at hmx
  by_cases hbig : 1048576 < (a0.length : Int)
  · go_enter Tryz.func3, Tryz.ntmps3
    go_wp2_with fail
    refine (big_any _ _ _ _).mono ?_
    rintro e w1 ⟨rfl, rfl⟩
    rw [decide_eq_true hbig]
    go_wp2
    go_ret
    exact ⟨rfl, Below.refl _ _⟩
  have hlen : a0.length ≤ 1048576 := by omega
  go_enter Tryz.func3, Tryz.ntmps3
  go_wp2_with fail
  refine (big_any _ _ _ _).mono ?_
  rintro e w1 ⟨rfl, rfl⟩
  rw [decide_eq_false (show ¬ 1048576 < (a0.length : Int) by omega)]
  clear hbig
  go_wp2_with fail
  refine (DrawRowOk_any _ _ _ _ hr0 (by omega)).mono ?_
  rintro e w1 ⟨Ac, Ar, cc, cr, xs, id, vs, rfl, hx3, hxi, hid1, hid2, hv4, hvo, hoc, hor, hb1⟩
  have hbl1 := hbl0.trans (hb1.mono hbl0.size)
  have hT1 := hT0.below hb1
  have hE1 := hE0.below hb1
  have hM1 := hM0.below hb1
  have hz1 := hb1.size
  clear hb1 hbl0 hT0 hE0 hM0
  have HXI := Lib.hid hxi
  have HVO := Lib.hid hvo
  clear hxi hvo
  obtain ⟨w2, hw2⟩ : ∃ W, W = w1.alloc (.cells #[.int .i64 id, .slice Ar vs.length cr] 27) := ⟨_, rfl⟩
  have hbb2 : Below w1.heap.size w1 w2 := by rw [hw2]; exact Below.alloc0 (Below.refl _ _) _
  have hq0 : w2.cell? ⟨w1.heap.size, 0, none⟩ = some (.int .i64 id) := by rw [hw2]; simp [go_sem]
  have hq1 : w2.cell? ⟨w1.heap.size, 1, none⟩ = some (.slice Ar vs.length cr) := by rw [hw2]; simp [go_sem]
  have hbl2 := hbl1.trans (hbb2.mono hbl1.size)
  have hT2 := hT1.below hbb2
  have hE2 := hE1.below hbb2
  have hM2 := hM1.below hbb2
  replace hoc := own_step hoc hbb2
  replace hor := own_step hor hbb2
  have hz2 := hbb2.size
  clear hbb2 hbl1 hT1 hE1 hM1
  have hrr := (hr0.below hbl2 (Nat.le_refl _)).more hbl2.size
  go_wp2_with fail
  rw [← hw2]
  clear hw2
  refine (DrawFitsCols_any _ _ _ _ hrr (by omega)).mono ?_
  rintro e w3 ⟨Af, Al, cf, cl, ys, ls, rfl, hy3, hyi, hl4, hlo, hof, hol, hb3⟩
  have hbl3 := hbl2.trans (hb3.mono hbl2.size)
  have hT3 := hT2.below hb3
  have hE3 := hE2.below hb3
  have hM3 := hM2.below hb3
  replace hoc := own_step hoc hb3
  replace hor := own_step hor hb3
  replace hq0 := cell_keep hb3 hq0
  replace hq1 := cell_keep hb3 hq1
  have hz3 := hb3.size
  clear hb3 hbl2 hT2 hE2 hM2
  have HYI := Lib.hid hyi
  have HLO := Lib.hid hlo
  clear hyi hlo hrr
  have hrr := (hr0.below hbl3 (Nat.le_refl _)).more hbl3.size
  go_wp2_with fail
  refine (DrawColsOk_any _ _ _ _ hrr (by omega)).mono ?_
  rintro e w4 ⟨Ad, cd, ds, rfl, hd4, hdi, hod, hb4⟩
  have hbl4 := hbl3.trans (hb4.mono hbl3.size)
  have hT4 := hT3.below hb4
  have hE4 := hE3.below hb4
  have hM4 := hM3.below hb4
  replace hoc := own_step hoc hb4
  replace hor := own_step hor hb4
  replace hof := own_step hof hb4
  replace hol := own_step hol hb4
  replace hq0 := cell_keep hb4 hq0
  replace hq1 := cell_keep hb4 hq1
  have hz4 := hb4.size
  clear hb4 hbl3 hT3 hE3 hM3
  have HDI := Lib.hid hdi
  clear hdi hrr
  have hrr := (hr0.below hbl4 (Nat.le_refl _)).more hbl4.size
  go_wp2_with fail
  refine (DrawColumn_any _ _ _ _ hrr (by omega)).mono ?_
  rintro e w5 ⟨Am, cm, n, ms, k, rfl, hm5, hmn, hk1, hk2, hHM, hom, hb5⟩
  have hbl5 := hbl4.trans (hb5.mono hbl4.size)
  have hT5 := hT4.below hb5
  have hE5 := hE4.below hb5
  have hM5 := hM4.below hb5
  replace hoc := own_step hoc hb5
  replace hor := own_step hor hb5
  replace hof := own_step hof hb5
  replace hol := own_step hol hb5
  replace hod := own_step hod hb5
  replace hq0 := cell_keep hb5 hq0
  replace hq1 := cell_keep hb5 hq1
  have hz5 := hb5.size
  clear hb5 hbl4 hT4 hE4 hM4
  have HMN := Lib.hid hmn
  have HM := Lib.hid hHM
  clear hmn hHM hrr
  have hrr := (hr0.below hbl5 (Nat.le_refl _)).more hbl5.size
  go_wp2_with fail
  refine (DrawParseVals_any _ _ _ _ hrr (by omega)).mono ?_
  rintro e w6 ⟨s, rfl, hs, hb6⟩
  have hbl6 := hbl5.trans (hb6.mono hbl5.size)
  have hT6 := hT5.below hb6
  have hE6 := hE5.below hb6
  have hM6 := hM5.below hb6
  replace hoc := own_step hoc hb6
  replace hor := own_step hor hb6
  replace hof := own_step hof hb6
  replace hol := own_step hol hb6
  replace hod := own_step hod hb6
  replace hom := own_step hom hb6
  replace HM := Lib.hid (HM.out.step hb6)
  replace hq0 := cell_keep hb6 hq0
  replace hq1 := cell_keep hb6 hq1
  have hz6 := hb6.size
  clear hb6 hbl5 hT5 hE5 hM5
  clear hrr
  obtain ⟨ps, hps⟩ : ∃ ps, ps = pvsL s := ⟨_, rfl⟩
  obtain ⟨ok, hok⟩ : ∃ ok, ok = pvsOk s := ⟨_, rfl⟩
  have hpl : ps.length ≤ 1001 := by rw [hps]; exact Nat.le_trans (pvsL_len s) (by omega)
  have HPO := Lib.hid (show ∀ v ∈ ps, v.ok by rw [hps]; exact pvsL_ok (by omega))
  have hPI := Lib.hid (impl_ParseVals _ s (by omega) hT6 hE6 hM6)
  have hPS := Lib.hid (fun w : World => spec_ParseVals w s (by omega))
  rw [← hps, ← hok] at hPI
  simp only [← hps, ← hok] at hPS
  clear hps hok
  go_wp2_with fail
  refine (hPI.out).mono ?_
  rintro e w7 ⟨Ax, cx, rfl, hox, hb7⟩
  have hbl7 := hbl6.trans (hb7.mono hbl6.size)
  have hT7 := hT6.below hb7
  have hE7 := hE6.below hb7
  have hM7 := hM6.below hb7
  replace hoc := own_step hoc hb7
  replace hor := own_step hor hb7
  replace hof := own_step hof hb7
  replace hol := own_step hol hb7
  replace hod := own_step hod hb7
  replace hom := own_step hom hb7
  replace HM := Lib.hid (HM.out.step hb7)
  replace hq0 := cell_keep hb7 hq0
  replace hq1 := cell_keep hb7 hq1
  have hz7 := hb7.size
  clear hb7 hbl6 hT6 hE6 hM6
  clear hPI
  go_wp2_with fail
  refine (hPS.out _).mono ?_
  rintro e w8 ⟨Ay, cy, rfl, hoy, hb8⟩
  have hbl8 := hbl7.trans (hb8.mono hbl7.size)
  have hT8 := hT7.below hb8
  have hE8 := hE7.below hb8
  have hM8 := hM7.below hb8
  replace hoc := own_step hoc hb8
  replace hor := own_step hor hb8
  replace hof := own_step hof hb8
  replace hol := own_step hol hb8
  replace hod := own_step hod hb8
  replace hom := own_step hom hb8
  replace hox := own_step hox hb8
  replace HM := Lib.hid (HM.out.step hb8)
  replace hq0 := cell_keep hb8 hq0
  replace hq1 := cell_keep hb8 hq1
  have hz8 := hb8.size
  clear hb8 hbl7 hT7 hE7 hM7
  clear hPS
  obtain ⟨vl, hvl⟩ : ∃ vl, vl = colOf ms k := ⟨_, rfl⟩
  have hvl5 : vl.length ≤ 5 := by rw [hvl]; exact Nat.le_trans (colOf_len ms k) hm5
  have HVLO := Lib.hid (show ∀ v ∈ vl, v.ok by rw [hvl]; exact colOf_ok k HM.out.small)
  have hCI := Lib.hid (impl_Column _ Am cm ms (own_reads hom) HM.out.rowsIn HM.out.small (by omega) k ⟨by omega, by omega⟩)
  have hCS := Lib.hid (fun (w1 : World) (hb : Below w8.heap.size w8 w1) => spec_Column w1 Am cm ms (own_reads (own_step hom hb)) (HM.out.step hb).rowsIn (HM.out.step hb).small (by omega) k ⟨by omega, by omega⟩)
  rw [← hvl] at hCI
  simp only [← hvl] at hCS
  have HVL := Lib.hid hvl
  clear hvl
  have hbc := Below.refl w8.heap.size w8
  go_wp2_with fail
  refine (hCI.out).mono ?_
  rintro e w9 ⟨Av, cv, rfl, hov, hb9⟩
  replace hbc := hbc.trans (hb9.mono hbc.size)
  have hbl9 := hbl8.trans (hb9.mono hbl8.size)
  have hT9 := hT8.below hb9
  have hE9 := hE8.below hb9
  have hM9 := hM8.below hb9
  replace hoc := own_step hoc hb9
  replace hor := own_step hor hb9
  replace hof := own_step hof hb9
  replace hol := own_step hol hb9
  replace hod := own_step hod hb9
  replace hom := own_step hom hb9
  replace hox := own_step hox hb9
  replace hoy := own_step hoy hb9
  replace HM := Lib.hid (HM.out.step hb9)
  replace hq0 := cell_keep hb9 hq0
  replace hq1 := cell_keep hb9 hq1
  have hz9 := hb9.size
  clear hb9 hbl8 hT8 hE8 hM8
  clear hCI
  have hrr := (hr0.below hbl9 (Nat.le_refl _)).more hbl9.size
  go_wp2_with fail
  refine (DrawSameRows_any _ _ _ _ hrr (by omega)).mono ?_
  rintro e w10 ⟨Aa, Ab, ca, cb, ra, rb, rfl, hra, hrb, hHA, hHB, hoa, hob, hb10⟩
  replace hbc := hbc.trans (hb10.mono hbc.size)
  have hbl10 := hbl9.trans (hb10.mono hbl9.size)
  have hT10 := hT9.below hb10
  have hE10 := hE9.below hb10
  have hM10 := hM9.below hb10
  replace hoc := own_step hoc hb10
  replace hor := own_step hor hb10
  replace hof := own_step hof hb10
  replace hol := own_step hol hb10
  replace hod := own_step hod hb10
  replace hom := own_step hom hb10
  replace hox := own_step hox hb10
  replace hoy := own_step hoy hb10
  replace hov := own_step hov hb10
  replace HM := Lib.hid (HM.out.step hb10)
  replace hq0 := cell_keep hb10 hq0
  replace hq1 := cell_keep hb10 hq1
  have hz10 := hb10.size
  clear hb10 hbl9 hT9 hE9 hM9
  have HA := Lib.hid hHA
  have HB := Lib.hid hHB
  clear hHA hHB hrr hr0
  obtain ⟨ro, h_ro⟩ : ∃ b, b = rowOk xs id vs := ⟨_, rfl⟩
  obtain ⟨fc, h_fc⟩ : ∃ b, b = fitsCols ys ls := ⟨_, rfl⟩
  obtain ⟨co, h_co⟩ : ∃ b, b = colsOk ds := ⟨_, rfl⟩
  obtain ⟨sr, h_sr⟩ : ∃ b, b = sameRows ra rb := ⟨_, rfl⟩
  obtain ⟨rt, h_rt⟩ : ∃ b, b = rowText id vs := ⟨_, rfl⟩
  have hRI : ∀ w : World, Below w10.heap.size w10 w → Calls Tryz.prog 14 #[.slice Ac xs.length cc, .agg #[.int .i64 id, .slice Ar vs.length cr]] w fun e w' => e = .returned (.bool ro) ∧ Below w.heap.size w w' := fun w hb => by rw [h_ro]; exact impl_RowOk w Ac cc xs (own_reads (own_step hoc hb)) (by omega) HXI.out id Ar cr vs (own_reads (own_step hor hb)) (by omega) HVO.out
  have hFI : ∀ w : World, Below w10.heap.size w10 w → Calls Tryz.prog 16 #[.slice Af ys.length cf, .slice Al ls.length cl] w fun e w' => e = .returned (.bool fc) ∧ Below w.heap.size w w' := fun w hb => by rw [h_fc]; exact impl_FitsCols w Af cf ys (own_reads (own_step hof hb)) (by omega) HYI.out Al cl ls (own_reads (own_step hol hb)) (by omega) HLO.out
  have hDI : ∀ w : World, Below w10.heap.size w10 w → Calls Tryz.prog 18 #[.slice Ad ds.length cd] w fun e w' => e = .returned (.bool co) ∧ Below w.heap.size w w' := fun w hb => by rw [h_co]; exact impl_ColsOk w Ad cd ds (own_reads (own_step hod hb)) (by omega) HDI.out
  have hXI : ∀ w : World, Below w10.heap.size w10 w → Calls Tryz.prog 24 #[.agg #[.int .i64 id, .slice Ar vs.length cr]] w fun e w' => e = .returned (.string rt) ∧ Below w.heap.size w w' := fun w hb => by rw [h_rt]; exact impl_RowText w id Ar cr vs (own_reads (own_step hor hb)) (by omega) HVO.out ⟨by omega, by omega⟩ (hT10.below hb)
  have hRS : ∀ w : World, Below w10.heap.size w10 w → Calls Tryz.prog 15 #[.slice Ac xs.length cc, .agg #[.int .i64 id, .slice Ar vs.length cr]] w fun e w' => e = .returned (.bool ro) ∧ Below w.heap.size w w' := fun w hb => by rw [h_ro]; exact spec_RowOk w Ac cc xs (own_reads (own_step hoc hb)) (by omega) HXI.out id Ar cr vs (own_reads (own_step hor hb)) (by omega) HVO.out
  have hFS : ∀ w : World, Below w10.heap.size w10 w → Calls Tryz.prog 17 #[.slice Af ys.length cf, .slice Al ls.length cl] w fun e w' => e = .returned (.bool fc) ∧ Below w.heap.size w w' := fun w hb => by rw [h_fc]; exact spec_FitsCols w Af cf ys (own_reads (own_step hof hb)) (by omega) HYI.out Al cl ls (own_reads (own_step hol hb)) (by omega) HLO.out
  have hDS : ∀ w : World, Below w10.heap.size w10 w → Calls Tryz.prog 19 #[.slice Ad ds.length cd] w fun e w' => e = .returned (.bool co) ∧ Below w.heap.size w w' := fun w hb => by rw [h_co]; exact spec_ColsOk w Ad cd ds (own_reads (own_step hod hb)) (by omega) HDI.out
  have hXS : ∀ w : World, Below w10.heap.size w10 w → Calls Tryz.prog 25 #[.agg #[.int .i64 id, .slice Ar vs.length cr]] w fun e w' => e = .returned (.string rt) ∧ Below w.heap.size w w' := fun w hb => by rw [h_rt]; exact spec_RowText w id Ar cr vs (own_reads (own_step hor hb)) (by omega) HVO.out ⟨by omega, by omega⟩
  have hSI : ∀ w : World, Below w10.heap.size w10 w → Calls Tryz.prog 22 #[.slice Aa ra.length ca, .slice Ab rb.length cb] w fun e w' => e = .returned (.bool sr) ∧ Below w.heap.size w w' := fun w hb => by rw [h_sr]; exact impl_SameRows w Aa ca ra.length ra rfl (own_reads (own_step hoa hb)) (HA.out.step hb).rowsIn (HA.out.step hb).small (by omega) Ab cb rb.length rb rfl (own_reads (own_step hob hb)) (HB.out.step hb).rowsIn (HB.out.step hb).small (by omega)
  have hSL : ∀ w : World, Below w10.heap.size w10 w → Calls Tryz.prog 23 #[.slice Aa ra.length ca, .slice Ab rb.length cb] w fun e w' => e = .returned (.bool sr) ∧ Below w.heap.size w w' := fun w hb => by rw [h_sr]; exact laws_sameRows w Aa ca ra.length ra rfl (own_reads (own_step hoa hb)) (HA.out.step hb).rowsIn (HA.out.step hb).small (by omega) Ab cb rb.length rb rfl (own_reads (own_step hob hb)) (HB.out.step hb).rowsIn (HB.out.step hb).small (by omega)
  have hSV : ∀ (w : World), Below w10.heap.size w10 w → ∀ (p q : Value), ((p = .slice Av vl.length cv ∧ ∃ (A' : Option Addr) (c' b' : Nat), q = .slice A' vl.length c' ∧ w.ownsRow b' 49 3 (.slice A' vl.length c') vl.length (valCells vl)) ∨ (p = .slice Ax ps.length cx ∧ q = .slice Ay ps.length cy)) →
      Calls Tryz.prog 20 #[p, q] w fun e w' => e = .returned (.bool true) ∧ Below w.heap.size w w' := by
    intro w hb p q h
    rcases h with ⟨rfl, A', c', b', rfl, h⟩ | ⟨rfl, rfl⟩
    · exact laws_sameVals_self w Av cv vl A' c' (own_reads (own_step hov hb)) (own_reads h) (by omega) HVLO.out
    · exact laws_sameVals_self w Ax cx ps Ay cy (own_reads (own_step hox hb)) (own_reads (own_step hoy hb)) (by omega) HPO.out
  replace hCS := Lib.hid (fun (w1 : World) (hb : Below w10.heap.size w10 w1) => hCS.out w1 (hbc.trans (hb.mono hbc.size)))
  have HRO := Lib.hid h_ro
  clear h_ro h_fc h_co h_sr h_rt hbc
  clear hof hol hod hox hoy hoa hob HA HB HXI HYI HLO HDI HPO hs hpl hE10 hM10
  go_wp2_with fail
  go_region_held3 (fun w' => w'.cell? ⟨w1.heap.size, 0, none⟩ = some (.int .i64 id) ∧ w'.cell? ⟨w1.heap.size, 1, none⟩ = some (.slice Ar vs.length cr) ∧ Below w10.heap.size w10 w')
    (first
      | (exact ⟨hq0, hq1, (Below.refl _ _).drew⟩)
      | (go_split_ands; exact ⟨cell_keep hbm22 (by assumption), cell_keep hbm22 (by assumption), Below.trans (by assumption) (hbm22.mono (Below.size (by assumption)))⟩)
      | (go_split_ands; exact ⟨cell_keep hbm21 (by assumption), cell_keep hbm21 (by assumption), Below.trans (by assumption) (hbm21.mono (Below.size (by assumption)))⟩)
      | (go_split_ands; exact ⟨cell_keep hbm20 (by assumption), cell_keep hbm20 (by assumption), Below.trans (by assumption) (hbm20.mono (Below.size (by assumption)))⟩)
      | (go_split_ands; exact ⟨cell_keep hbm19 (by assumption), cell_keep hbm19 (by assumption), Below.trans (by assumption) (hbm19.mono (Below.size (by assumption)))⟩)
      | (go_split_ands; exact ⟨cell_keep hbm18 (by assumption), cell_keep hbm18 (by assumption), Below.trans (by assumption) (hbm18.mono (Below.size (by assumption)))⟩)
      | (go_split_ands; exact ⟨cell_keep hbm17 (by assumption), cell_keep hbm17 (by assumption), Below.trans (by assumption) (hbm17.mono (Below.size (by assumption)))⟩)
      | (go_split_ands; exact ⟨cell_keep hbm16 (by assumption), cell_keep hbm16 (by assumption), Below.trans (by assumption) (hbm16.mono (Below.size (by assumption)))⟩)
      | (go_split_ands; exact ⟨cell_keep hbm15 (by assumption), cell_keep hbm15 (by assumption), Below.trans (by assumption) (hbm15.mono (Below.size (by assumption)))⟩)
      | (go_split_ands; exact ⟨cell_keep hbm14 (by assumption), cell_keep hbm14 (by assumption), Below.trans (by assumption) (hbm14.mono (Below.size (by assumption)))⟩)
      | (go_split_ands; exact ⟨cell_keep hbm13 (by assumption), cell_keep hbm13 (by assumption), Below.trans (by assumption) (hbm13.mono (Below.size (by assumption)))⟩)
      | (go_split_ands; exact ⟨cell_keep hbm12 (by assumption), cell_keep hbm12 (by assumption), Below.trans (by assumption) (hbm12.mono (Below.size (by assumption)))⟩)
      | (go_split_ands; exact ⟨cell_keep hbm11 (by assumption), cell_keep hbm11 (by assumption), Below.trans (by assumption) (hbm11.mono (Below.size (by assumption)))⟩))
    (first
      | (go_at_call 14; refine (hRI _ (show _ ∧ _ ∧ Below w10.heap.size w10 _ by assumption).2.2).mono ?_; rintro e w11 ⟨rfl, hbm11⟩)
      | (go_at_call 15; refine (hRS _ (show _ ∧ _ ∧ Below w10.heap.size w10 _ by assumption).2.2).mono ?_; rintro e w12 ⟨rfl, hbm12⟩)
      | (go_at_call 16; refine (hFI _ (show _ ∧ _ ∧ Below w10.heap.size w10 _ by assumption).2.2).mono ?_; rintro e w13 ⟨rfl, hbm13⟩)
      | (go_at_call 17; refine (hFS _ (show _ ∧ _ ∧ Below w10.heap.size w10 _ by assumption).2.2).mono ?_; rintro e w14 ⟨rfl, hbm14⟩)
      | (go_at_call 18; refine (hDI _ (show _ ∧ _ ∧ Below w10.heap.size w10 _ by assumption).2.2).mono ?_; rintro e w15 ⟨rfl, hbm15⟩)
      | (go_at_call 19; refine (hDS _ (show _ ∧ _ ∧ Below w10.heap.size w10 _ by assumption).2.2).mono ?_; rintro e w16 ⟨rfl, hbm16⟩)
      | (go_at_call 21; refine (hCS.out _ (show _ ∧ _ ∧ Below w10.heap.size w10 _ by assumption).2.2).mono ?_; rintro e w17 ⟨AC, cC, rfl, hoC, hbm17⟩)
      | (go_at_call 20; refine (hSV _ (show _ ∧ _ ∧ Below w10.heap.size w10 _ by assumption).2.2 _ _ (by first | exact Or.inl ⟨rfl, _, _, _, rfl, hoC⟩ | exact Or.inr ⟨rfl, rfl⟩)).mono ?_; rintro e w18 ⟨rfl, hbm18⟩)
      | (go_at_call 22; refine (hSI _ (show _ ∧ _ ∧ Below w10.heap.size w10 _ by assumption).2.2).mono ?_; rintro e w19 ⟨rfl, hbm19⟩)
      | (go_at_call 23; refine (hSL _ (show _ ∧ _ ∧ Below w10.heap.size w10 _ by assumption).2.2).mono ?_; rintro e w20 ⟨rfl, hbm20⟩)
      | (go_at_call 24; refine (hXI _ (show _ ∧ _ ∧ Below w10.heap.size w10 _ by assumption).2.2).mono ?_; rintro e w21 ⟨rfl, hbm21⟩)
      | (go_at_call 25; refine (hXS _ (show _ ∧ _ ∧ Below w10.heap.size w10 _ by assumption).2.2).mono ?_; rintro e w22 ⟨rfl, hbm22⟩))
  have hBR : Below w10.heap.size w10 w22 := (show _ ∧ _ ∧ Below w10.heap.size w10 w22 by assumption).2.2
  have hblL := hbl10.trans (hBR.mono hbl10.size)
  replace hom := own_step hom hBR
  replace hov := own_step hov hBR
  replace hoc := own_step hoc hBR
  replace hor := own_step hor hBR
  replace HM := Lib.hid (HM.out.step hBR)
  replace hq0 := cell_keep hBR hq0
  replace hq1 := cell_keep hBR hq1
  have hBR0 := hBR
  clear hBR hRS hFI hFS hDI hDS hSI hSL hXI hXS hSV hCS hoC hT10 hbl10 hbm11 hbm12 hbm13 hbm14 hbm15 hbm16 hbm17 hbm18 hbm19 hbm20 hbm21 hbm22
  have hgt := eqGuard_Val
  have hrm := own_reads hom
  have hrv := own_reads hov
  clear hom hov
  go_wp2
  go_loopw [18] (fun i wr => ∃ j : Nat, j ≤ ms.length ∧ i = .int .i64 (j : Int) ∧ Below w22.heap.size w22 wr) (fun i _ => ms.length - (intOf i).toNat)
  case atStart => exact ⟨0, Nat.zero_le _, rfl, Below.refl _ _⟩
  case round =>
    obtain ⟨j, hj, rfl, hbl⟩ := hrel
    by_cases hlt : j < ms.length
    · obtain ⟨b, off, x, rfl, hb, hx, hc0, hc1⟩ := hrm.row hlt
      have hxm := List.mem_of_getElem? hx.out
      have hd1 : wr.cell? ⟨b, off + j * 2 + 1, none⟩ = some (.slice x.A x.l.length x.c) := (hbl.cell (p := ⟨b, off + j * 2 + 1, none⟩) hb).trans hc1
      have hxr := ((own_reads (HM.out x hxm).1).below hbl (Nat.le_refl _)).more hbl.size
      have HXN := Lib.hid (HMN.out x hxm)
      clear hc0 hc1 hxm hrm
      rcases (show k < 0 ∨ (0 ≤ k ∧ (x.l.length : Int) ≤ k) ∨ (0 ≤ k ∧ k < (x.l.length : Int)) by omega) with h1 | ⟨h1, h2⟩ | ⟨h1, h2⟩
      · have g1 : decide (0 ≤ k) = false := by simp; omega
        clear hrv hxr h1
        go_wp2_with fail
        go_quiet (fail)
        all_goals go_wp2
        go_roundw
        case rel => exact ⟨j + 1, by omega, by go_num, below_drewN hbl _⟩
        case measure => simp [intOf]; omega
      · have g2 : decide (k < (x.l.length : Int)) = false := by simp; omega
        clear hrv hxr h2
        go_wp2_with fail
        go_quiet (fail)
        all_goals go_wp2
        go_roundw
        case rel => exact ⟨j + 1, by omega, by go_num, below_drewN hbl _⟩
        case measure => simp [intOf]; omega
      · obtain ⟨q, rfl⟩ := Int.eq_ofNat_of_zero_le h1
        have hqx : q < x.l.length := by omega
        have hqn : q < n := by rw [← HXN.out]; exact hqx
        have hvn : vl.length = ms.length := by rw [HVL.out]; exact same_len HMN.out hqn
        have hjv : j < vl.length := by omega
        obtain ⟨b2, off2, y, hxA, hb2, hy, he0, he1, he2⟩ := hxr.v hqx
        obtain ⟨b3, off3, z, rfl, hb3, hz, hf0, hf1, hf2⟩ := hrv.v hjv
        have hzy : z = y := by
          have := col_at HMN.out hqn hx.out hy.out
          rw [← HVL.out, hz.out] at this
          exact Option.some.inj this
        subst hzy
        rw [hxA] at hd1
        replace hf0 : wr.cell? ⟨b3, off3 + j * 3, none⟩ = some (.int .i64 z.ty) := (hbl.cell (p := ⟨b3, off3 + j * 3, none⟩) hb3).trans hf0
        replace hf1 : wr.cell? ⟨b3, off3 + j * 3 + 1, none⟩ = some (.int .i64 z.n) := (hbl.cell (p := ⟨b3, off3 + j * 3 + 1, none⟩) hb3).trans hf1
        replace hf2 : wr.cell? ⟨b3, off3 + j * 3 + 2, none⟩ = some (.string z.s) := (hbl.cell (p := ⟨b3, off3 + j * 3 + 2, none⟩) hb3).trans hf2
        have heq := equalIn_Val z z
        rw [veq_self] at heq
        have hjm : j < ms.length := hlt
        have hle1 : vl.length ≤ ms.length := by omega
        have hle2 : ms.length ≤ vl.length := by omega
        have g3 : ¬ (vl.length : Int) ≤ (j : Int) := by omega
        clear hvn hrv hxr hx hy hz HXN hxA
        go_wp2_with fail
        go_quiet (fail)
        all_goals go_wp2
        go_roundw
        case rel => exact ⟨j + 1, by omega, by go_num, below_drewN hbl _⟩
        case measure => simp [intOf]; omega
    · replace hq0 := cell_keep hbl hq0
      replace hq1 := cell_keep hbl hq1
      replace hblL := hblL.trans (hbl.mono hblL.size)
      replace hRI := fun (w1 : World) (hb : Below wr.heap.size wr w1) => hRI w1 ((hBR0.trans (hbl.mono hBR0.size)).trans (hb.mono (hBR0.trans (hbl.mono hBR0.size)).size))
      clear hrm hrv hBR0
      cases ro
      · go_wp2_with fail
        refine (hRI _ (Below.refl _ _)).mono ?_
        rintro e wz ⟨rfl, hbx⟩
        replace hq0 := cell_keep hbx hq0
        replace hq1 := cell_keep hbx hq1
        have hblz := hblL.trans (hbx.mono hblL.size)
        clear hbx hblL hRI
        go_wp2
        go_ret
        exact ⟨rfl, hblz⟩
      · obtain ⟨hi0, hli⟩ := rowOk_parts HRO.out.symm
        have g4 : decide (0 ≤ id) = true := by simp; omega
        have g5 : ((vs.length : Int) == (xs.length : Int)) = true := by simp; omega
        clear hi0 hli
        go_wp2_with fail
        refine (hRI _ (Below.refl _ _)).mono ?_
        rintro e wz ⟨rfl, hbx⟩
        replace hq0 := cell_keep hbx hq0
        replace hq1 := cell_keep hbx hq1
        have hblz := hblL.trans (hbx.mono hblL.size)
        clear hbx hblL hRI
        go_wp2
        go_ret
        exact ⟨rfl, hblz⟩
  

end Go.Proofs.YtgpimlmolcjeoaaGreatDoor.fnRows
