/-
  The walk of the law FnVals: the Go function returns true, and leaves what it was handed as it was.
-/
import Derived.Test.YtgpimlmolcjeoaaDoorVndraw
import Derived.Test.YtgpimlmolcjeoaaDoorPval
import Derived.Test.YtgpimlmolcjeoaaDoorSamev
import Derived.Test.YtgpimlmolcjeoaaDoorDictp
namespace Go.Proofs.YtgpimlmolcjeoaaDoor.fnVals
open Go.RowKit
set_option linter.unusedVariables false
set_option maxRecDepth 100000
set_option maxHeartbeats 4000000 in
theorem walk (w : World) (A0 : Option Addr) (c0 : Nat) (a0 : List UInt8) (hc0 : a0.length ≤ c0) (hm0 : c0 ≤ maxLen) (hr0 : Reads w w.heap.size 1 A0 a0.length (byteCells a0)) (hL : laidMet Tryd.prog Rows.fnValsRow.laid w) :
    Calls Tryd.prog 9 #[.slice A0 a0.length c0] w fun e w' => e = .returned (.bool true) ∧ Below w.heap.size w w' := by
  have hT0 : Tab w := tab_of hL
  have hE0 : Errs w := errs_of hL
  have hbl0 := Below.refl w.heap.size w
  clear hL
  have hmx : a0.length ≤ maxLen := Nat.le_trans hc0 hm0
  unfold maxLen at hmx
  by_cases hbig : 1048576 < (a0.length : Int)
  · go_enter Tryd.func9, Tryd.ntmps9
    go_wp2_with fail
    refine (big_any _ _ _ _).mono ?_
    rintro e w1 ⟨rfl, rfl⟩
    rw [decide_eq_true hbig]
    go_wp2
    go_ret
    exact ⟨rfl, Below.refl _ _⟩
  have hlen : a0.length ≤ 1048576 := by omega
  go_enter Tryd.func9, Tryd.ntmps9
  go_wp2_with fail
  refine (big_any _ _ _ _).mono ?_
  rintro e w1 ⟨rfl, rfl⟩
  rw [decide_eq_false (show ¬ 1048576 < (a0.length : Int) by omega)]
  clear hbig
  have hgt := eqGuard_Val
  go_wp2_with fail
  refine (DrawValText_any _ _ _ _ hr0 (by omega)).mono ?_
  rintro e w1 ⟨v, rfl, hv, hb1⟩
  have hbl1 := hbl0.trans (hb1.mono hbl0.size)
  have hT1 := hT0.below hb1
  have hE1 := hE0.below hb1
  have hz1 := hb1.size
  clear hb1 hbl0 hT0 hE0
  obtain ⟨w2, hw2⟩ : ∃ W, W = w1.alloc (.cells #[.int .i64 v.ty, .int .i64 v.n, .string v.s] 28) := ⟨_, rfl⟩
  have hbb2 : Below w1.heap.size w1 w2 := by rw [hw2]; exact Below.alloc0 (Below.refl _ _) _
  have bv : Box w2 w1.heap.size v := by rw [hw2]; exact Box.new w1 v
  have hbl2 := hbl1.trans (hbb2.mono hbl1.size)
  have hT2 := hT1.below hbb2
  have hE2 := hE1.below hbb2
  have hz2 := hbb2.size
  clear hbb2 hbl1 hT1 hE1
  go_wp2_with fail
  rw [← hw2]
  clear hw2
  have hr2 := (hr0.below hbl2 (Nat.le_refl _)).more hbl2.size
  refine (DrawParseVal_any _ _ _ _ hr2 (by omega)).mono ?_
  rintro e w3 ⟨s, rfl, hs, hb3⟩
  have hbl3 := hbl2.trans (hb3.mono hbl2.size)
  have hT3 := hT2.below hb3
  have hE3 := hE2.below hb3
  replace bv := bv.below hb3
  have hz3 := hb3.size
  clear hb3 hbl2 hT2 hE2
  have hr3 := (hr0.below hbl3 (Nat.le_refl _)).more hbl3.size
  clear hr2
  go_wp2_with fail
  refine (DrawLessVal_any _ _ _ _ hr3 (by omega)).mono ?_
  rintro e w4 ⟨a, b, rfl, ha, hbk, hb4⟩
  have hbl4 := hbl3.trans (hb4.mono hbl3.size)
  have hT4 := hT3.below hb4
  have hE4 := hE3.below hb4
  replace bv := bv.below hb4
  have hz4 := hb4.size
  clear hb4 hbl3 hT3 hE3
  clear hr3
  obtain ⟨w5, hw5⟩ : ∃ W, W = (w4.alloc (.cells #[.int .i64 a.ty, .int .i64 a.n, .string a.s] 28)).alloc (.cells #[.int .i64 b.ty, .int .i64 b.n, .string b.s] 28) := ⟨_, rfl⟩
  have hbb5 : Below w4.heap.size w4 w5 := by rw [hw5]; exact Below.alloc0 (Below.alloc0 (Below.refl _ _) _) _
  have ba : Box w5 w4.heap.size a := by rw [hw5]; exact (Box.new w4 a).below ((Below.refl _ _).alloc (Nat.le_refl _) _)
  have bb : Box w5 (w4.heap.size + 1) b := box_snd w4 a b w5 hw5
  have hbl5 := hbl4.trans (hbb5.mono hbl4.size)
  have hT5 := hT4.below hbb5
  have hE5 := hE4.below hbb5
  replace bv := bv.below hbb5
  have hz5 := hbb5.size
  clear hbb5 hbl4 hT4 hE4
  obtain ⟨p0, p1, p2, -, -, -⟩ := (show Box ((w4.alloc (.cells #[.int .i64 a.ty, .int .i64 a.n, .string a.s] 28)).alloc (.cells #[.int .i64 b.ty, .int .i64 b.n, .string b.s] 28)) w1.heap.size v by rw [← hw5]; exact bv).cells
  go_wp2_with fail
  rw [← hw5]
  clear hw5
  clear p0 p1 p2
  refine (impl_ValText _ v hv hT5).mono ?_
  rintro e w6 ⟨rfl, hb6⟩
  have hbl6 := hbl5.trans (hb6.mono hbl5.size)
  have hT6 := hT5.below hb6
  have hE6 := hE5.below hb6
  replace bv := bv.below hb6
  replace ba := ba.below hb6
  replace bb := bb.below hb6
  have hz6 := hb6.size
  clear hb6 hbl5 hT5 hE5
  have hvs := valText_size hv
  obtain ⟨x, ok, hX, hXP⟩ : ∃ (x : V) (ok : Bool), Hid (pvT (valText v) = .tuple #[.agg #[.int .i64 x.ty, .int .i64 x.n, .string x.s], .bool ok]) ∧ Hid (x = pvV (valText v) ∧ ok = pvB (valText v)) := ⟨_, _, Lib.hid rfl, Lib.hid ⟨rfl, rfl⟩⟩
  obtain ⟨y, is_, hY, hYP⟩ : ∃ (y : V) (is_ : Bool), Hid (pvT s = .tuple #[.agg #[.int .i64 y.ty, .int .i64 y.n, .string y.s], .bool is_]) ∧ Hid (y = pvV s ∧ is_ = pvB s) := ⟨_, _, Lib.hid rfl, Lib.hid ⟨rfl, rfl⟩⟩
  obtain ⟨tv, htv⟩ : ∃ tv, tv = valText v := ⟨_, rfl⟩
  rw [← htv] at hvs hX hXP ⊢
  have HTV := Lib.hid htv
  clear htv
  go_wp2_with fail
  refine (impl_ParseVal _ tv (by omega) hT6 hE6).mono ?_
  rintro e w7 ⟨rfl, hb7⟩
  have hbl7 := hbl6.trans (hb7.mono hbl6.size)
  have hT7 := hT6.below hb7
  have hE7 := hE6.below hb7
  replace bv := bv.below hb7
  replace ba := ba.below hb7
  replace bb := bb.below hb7
  have hz7 := hb7.size
  clear hb7 hbl6 hT6 hE6
  rw [hX.out]
  obtain ⟨w8, hw8⟩ : ∃ W, W = w7.alloc (.cells #[.int .i64 x.ty, .int .i64 x.n, .string x.s] 28) := ⟨_, rfl⟩
  have hbb8 : Below w7.heap.size w7 w8 := by rw [hw8]; exact Below.alloc0 (Below.refl _ _) _
  have bx : Box w8 w7.heap.size x := by rw [hw8]; exact Box.new w7 x
  have hbl8 := hbl7.trans (hbb8.mono hbl7.size)
  have hT8 := hT7.below hbb8
  have hE8 := hE7.below hbb8
  replace bv := bv.below hbb8
  replace ba := ba.below hbb8
  replace bb := bb.below hbb8
  have hz8 := hbb8.size
  clear hbb8 hbl7 hT7 hE7
  go_wp2_with fail
  rw [← hw8]
  clear hw8
  refine (impl_ParseVal _ s (by omega) hT8 hE8).mono ?_
  rintro e w9 ⟨rfl, hb9⟩
  have hbl9 := hbl8.trans (hb9.mono hbl8.size)
  have hT9 := hT8.below hb9
  have hE9 := hE8.below hb9
  replace bv := bv.below hb9
  replace ba := ba.below hb9
  replace bb := bb.below hb9
  replace bx := bx.below hb9
  have hz9 := hb9.size
  clear hb9 hbl8 hT8 hE8
  rw [hY.out]
  obtain ⟨w10, hw10⟩ : ∃ W, W = w9.alloc (.cells #[.int .i64 y.ty, .int .i64 y.n, .string y.s] 28) := ⟨_, rfl⟩
  have hbb10 : Below w9.heap.size w9 w10 := by rw [hw10]; exact Below.alloc0 (Below.refl _ _) _
  have by1 : Box w10 w9.heap.size y := by rw [hw10]; exact Box.new w9 y
  have hbl10 := hbl9.trans (hbb10.mono hbl9.size)
  have hT10 := hT9.below hbb10
  have hE10 := hE9.below hbb10
  replace bv := bv.below hbb10
  replace ba := ba.below hbb10
  replace bb := bb.below hbb10
  replace bx := bx.below hbb10
  have hz10 := hbb10.size
  clear hbb10 hbl9 hT9 hE9
  go_wp2_with fail
  rw [← hw10]
  clear hw10
  refine (spec_ParseVal _ s (by omega)).mono ?_
  rintro e w11 ⟨rfl, hb11⟩
  have hbl11 := hbl10.trans (hb11.mono hbl10.size)
  have hT11 := hT10.below hb11
  have hE11 := hE10.below hb11
  replace bv := bv.below hb11
  replace ba := ba.below hb11
  replace bb := bb.below hb11
  replace bx := bx.below hb11
  replace by1 := by1.below hb11
  have hz11 := hb11.size
  clear hb11 hbl10 hT10 hE10
  rw [hY.out]
  obtain ⟨w12, hw12⟩ : ∃ W, W = w11.alloc (.cells #[.int .i64 y.ty, .int .i64 y.n, .string y.s] 28) := ⟨_, rfl⟩
  have hbb12 : Below w11.heap.size w11 w12 := by rw [hw12]; exact Below.alloc0 (Below.refl _ _) _
  have by2 : Box w12 w11.heap.size y := by rw [hw12]; exact Box.new w11 y
  have hbl12 := hbl11.trans (hbb12.mono hbl11.size)
  have hT12 := hT11.below hbb12
  have hE12 := hE11.below hbb12
  replace bv := bv.below hbb12
  replace ba := ba.below hbb12
  replace bb := bb.below hbb12
  replace bx := bx.below hbb12
  replace by1 := by1.below hbb12
  have hz12 := hbb12.size
  clear hbb12 hbl11 hT11 hE11
  go_wp2_with fail
  rw [← hw12]
  clear hw12
  have hr9 := (hr0.below hbl12 (Nat.le_refl _)).more hbl12.size
  refine (DrawSameVals_any _ _ _ _ hr9 (by omega)).mono ?_
  rintro e w13 ⟨A1, A2, c1, c2, p, q, rfl, hpl, hql, hpo, hqo, hop, hoq, hb13⟩
  have hbl13 := hbl12.trans (hb13.mono hbl12.size)
  have hT13 := hT12.below hb13
  have hE13 := hE12.below hb13
  replace bv := bv.below hb13
  replace ba := ba.below hb13
  replace bb := bb.below hb13
  replace bx := bx.below hb13
  replace by1 := by1.below hb13
  replace by2 := by2.below hb13
  have hz13 := hb13.size
  clear hb13 hbl12 hT12 hE12
  clear hr9 hr0 hX hY
  obtain ⟨pv0, pv1, pv2, -, -, -⟩ := bv.cells
  obtain ⟨pa0, pa1, pa2, -, -, -⟩ := ba.cells
  obtain ⟨pb0, pb1, pb2, -, -, -⟩ := bb.cells
  obtain ⟨px0, px1, px2, -, -, -⟩ := bx.cells
  obtain ⟨py0, py1, py2, -, -, -⟩ := by1.cells
  obtain ⟨pz0, pz1, pz2, -, -, -⟩ := by2.cells
  have heq := equalIn_Val y y
  rw [veq_self] at heq
  have hvT : ∀ w : World, Tab w → Calls Tryd.prog 15 #[.agg #[.int .i64 v.ty, .int .i64 v.n, .string v.s]] w fun e w' => e = .returned (.string tv) ∧ Below w.heap.size w w' := fun w h => by rw [HTV.out]; exact impl_ValText w v hv h
  have hvS : ∀ w : World, Calls Tryd.prog 13 #[.agg #[.int .i64 v.ty, .int .i64 v.n, .string v.s]] w fun e w' => e = .returned (.string tv) ∧ Below w.heap.size w w' := fun w => by rw [HTV.out]; exact spec_ValText w v hv
  obtain ⟨vo, hvo⟩ : ∃ vo, vo = valOk v := ⟨_, rfl⟩
  obtain ⟨lv, hlv⟩ : ∃ lv, lv = lessV a b := ⟨_, rfl⟩
  obtain ⟨sv, hsv⟩ : ∃ sv, sv = sameVals p q := ⟨_, rfl⟩
  have hoI : ∀ w : World, Calls Tryd.prog 33 #[.agg #[.int .i64 v.ty, .int .i64 v.n, .string v.s]] w fun e w' => e = .returned (.bool vo) ∧ Below w.heap.size w w' := fun w => by rw [hvo]; exact impl_ValOk w v hv
  have hoS : ∀ w : World, Calls Tryd.prog 34 #[.agg #[.int .i64 v.ty, .int .i64 v.n, .string v.s]] w fun e w' => e = .returned (.bool vo) ∧ Below w.heap.size w w' := fun w => by rw [hvo]; exact spec_ValOk w v hv
  have hlI : ∀ w : World, Calls Tryd.prog 35 #[.agg #[.int .i64 a.ty, .int .i64 a.n, .string a.s], .agg #[.int .i64 b.ty, .int .i64 b.n, .string b.s]] w fun e w' => e = .returned (.bool lv) ∧ Below w.heap.size w w' := fun w => by rw [hlv]; exact impl_LessVal w a b
  have hlS : ∀ w : World, Calls Tryd.prog 36 #[.agg #[.int .i64 a.ty, .int .i64 a.n, .string a.s], .agg #[.int .i64 b.ty, .int .i64 b.n, .string b.s]] w fun e w' => e = .returned (.bool lv) ∧ Below w.heap.size w w' := fun w => by rw [hlv]; exact spec_LessVal w a b
  have hsI : ∀ w : World, w.ownsRow w12.heap.size 28 3 (.slice A1 p.length c1) p.length (valCells p) → w.ownsRow w12.heap.size 28 3 (.slice A2 q.length c2) q.length (valCells q) → Calls Tryd.prog 37 #[.slice A1 p.length c1, .slice A2 q.length c2] w fun e w' => e = .returned (.bool sv) ∧ Below w.heap.size w w' := fun w h1 h2 => by rw [hsv]; exact impl_SameVals w _ _ p (own_reads h1) (by omega) hpo _ _ q (own_reads h2) (by omega) hqo
  have hsS : ∀ w : World, w.ownsRow w12.heap.size 28 3 (.slice A1 p.length c1) p.length (valCells p) → w.ownsRow w12.heap.size 28 3 (.slice A2 q.length c2) q.length (valCells q) → Calls Tryd.prog 38 #[.slice A1 p.length c1, .slice A2 q.length c2] w fun e w' => e = .returned (.bool sv) ∧ Below w.heap.size w w' := fun w h1 h2 => by rw [hsv]; exact laws_sameVals w _ _ p (own_reads h1) (by omega) hpo _ _ q (own_reads h2) (by omega) hqo
  have HVO := Lib.hid hvo
  have HLV := Lib.hid hlv
  clear hvo hlv hsv
  clear bv ba bb bx by1 by2
  go_wp2_with fail
  go_region_held3 (fun w' => w'.cell? ⟨w1.heap.size, 0, none⟩ = some (.int .i64 v.ty) ∧ w'.cell? ⟨w1.heap.size, 1, none⟩ = some (.int .i64 v.n) ∧ w'.cell? ⟨w1.heap.size, 2, none⟩ = some (.string v.s) ∧ w'.cell? ⟨w4.heap.size, 0, none⟩ = some (.int .i64 a.ty) ∧ w'.cell? ⟨w4.heap.size, 1, none⟩ = some (.int .i64 a.n) ∧ w'.cell? ⟨w4.heap.size, 2, none⟩ = some (.string a.s) ∧ w'.cell? ⟨w4.heap.size + 1, 0, none⟩ = some (.int .i64 b.ty) ∧ w'.cell? ⟨w4.heap.size + 1, 1, none⟩ = some (.int .i64 b.n) ∧ w'.cell? ⟨w4.heap.size + 1, 2, none⟩ = some (.string b.s) ∧ w'.cell? ⟨w7.heap.size, 0, none⟩ = some (.int .i64 x.ty) ∧ w'.cell? ⟨w7.heap.size, 1, none⟩ = some (.int .i64 x.n) ∧ w'.cell? ⟨w7.heap.size, 2, none⟩ = some (.string x.s) ∧ w'.cell? ⟨w9.heap.size, 0, none⟩ = some (.int .i64 y.ty) ∧ w'.cell? ⟨w9.heap.size, 1, none⟩ = some (.int .i64 y.n) ∧ w'.cell? ⟨w9.heap.size, 2, none⟩ = some (.string y.s) ∧ w'.cell? ⟨w11.heap.size, 0, none⟩ = some (.int .i64 y.ty) ∧ w'.cell? ⟨w11.heap.size, 1, none⟩ = some (.int .i64 y.n) ∧ w'.cell? ⟨w11.heap.size, 2, none⟩ = some (.string y.s) ∧ Below w13.heap.size w13 w')
    (first
      | (exact ⟨pv0, pv1, pv2, pa0, pa1, pa2, pb0, pb1, pb2, px0, px1, px2, py0, py1, py2, pz0, pz1, pz2, (Below.refl _ _).drew⟩)
      | (go_split_ands; exact ⟨cell_keep hbm21 (by assumption), cell_keep hbm21 (by assumption), cell_keep hbm21 (by assumption), cell_keep hbm21 (by assumption), cell_keep hbm21 (by assumption), cell_keep hbm21 (by assumption), cell_keep hbm21 (by assumption), cell_keep hbm21 (by assumption), cell_keep hbm21 (by assumption), cell_keep hbm21 (by assumption), cell_keep hbm21 (by assumption), cell_keep hbm21 (by assumption), cell_keep hbm21 (by assumption), cell_keep hbm21 (by assumption), cell_keep hbm21 (by assumption), cell_keep hbm21 (by assumption), cell_keep hbm21 (by assumption), cell_keep hbm21 (by assumption), Below.trans (by assumption) (hbm21.mono (Below.size (by assumption)))⟩)
      | (go_split_ands; exact ⟨cell_keep hbm20 (by assumption), cell_keep hbm20 (by assumption), cell_keep hbm20 (by assumption), cell_keep hbm20 (by assumption), cell_keep hbm20 (by assumption), cell_keep hbm20 (by assumption), cell_keep hbm20 (by assumption), cell_keep hbm20 (by assumption), cell_keep hbm20 (by assumption), cell_keep hbm20 (by assumption), cell_keep hbm20 (by assumption), cell_keep hbm20 (by assumption), cell_keep hbm20 (by assumption), cell_keep hbm20 (by assumption), cell_keep hbm20 (by assumption), cell_keep hbm20 (by assumption), cell_keep hbm20 (by assumption), cell_keep hbm20 (by assumption), Below.trans (by assumption) (hbm20.mono (Below.size (by assumption)))⟩)
      | (go_split_ands; exact ⟨cell_keep hbm19 (by assumption), cell_keep hbm19 (by assumption), cell_keep hbm19 (by assumption), cell_keep hbm19 (by assumption), cell_keep hbm19 (by assumption), cell_keep hbm19 (by assumption), cell_keep hbm19 (by assumption), cell_keep hbm19 (by assumption), cell_keep hbm19 (by assumption), cell_keep hbm19 (by assumption), cell_keep hbm19 (by assumption), cell_keep hbm19 (by assumption), cell_keep hbm19 (by assumption), cell_keep hbm19 (by assumption), cell_keep hbm19 (by assumption), cell_keep hbm19 (by assumption), cell_keep hbm19 (by assumption), cell_keep hbm19 (by assumption), Below.trans (by assumption) (hbm19.mono (Below.size (by assumption)))⟩)
      | (go_split_ands; exact ⟨cell_keep hbm18 (by assumption), cell_keep hbm18 (by assumption), cell_keep hbm18 (by assumption), cell_keep hbm18 (by assumption), cell_keep hbm18 (by assumption), cell_keep hbm18 (by assumption), cell_keep hbm18 (by assumption), cell_keep hbm18 (by assumption), cell_keep hbm18 (by assumption), cell_keep hbm18 (by assumption), cell_keep hbm18 (by assumption), cell_keep hbm18 (by assumption), cell_keep hbm18 (by assumption), cell_keep hbm18 (by assumption), cell_keep hbm18 (by assumption), cell_keep hbm18 (by assumption), cell_keep hbm18 (by assumption), cell_keep hbm18 (by assumption), Below.trans (by assumption) (hbm18.mono (Below.size (by assumption)))⟩)
      | (go_split_ands; exact ⟨cell_keep hbm17 (by assumption), cell_keep hbm17 (by assumption), cell_keep hbm17 (by assumption), cell_keep hbm17 (by assumption), cell_keep hbm17 (by assumption), cell_keep hbm17 (by assumption), cell_keep hbm17 (by assumption), cell_keep hbm17 (by assumption), cell_keep hbm17 (by assumption), cell_keep hbm17 (by assumption), cell_keep hbm17 (by assumption), cell_keep hbm17 (by assumption), cell_keep hbm17 (by assumption), cell_keep hbm17 (by assumption), cell_keep hbm17 (by assumption), cell_keep hbm17 (by assumption), cell_keep hbm17 (by assumption), cell_keep hbm17 (by assumption), Below.trans (by assumption) (hbm17.mono (Below.size (by assumption)))⟩)
      | (go_split_ands; exact ⟨cell_keep hbm16 (by assumption), cell_keep hbm16 (by assumption), cell_keep hbm16 (by assumption), cell_keep hbm16 (by assumption), cell_keep hbm16 (by assumption), cell_keep hbm16 (by assumption), cell_keep hbm16 (by assumption), cell_keep hbm16 (by assumption), cell_keep hbm16 (by assumption), cell_keep hbm16 (by assumption), cell_keep hbm16 (by assumption), cell_keep hbm16 (by assumption), cell_keep hbm16 (by assumption), cell_keep hbm16 (by assumption), cell_keep hbm16 (by assumption), cell_keep hbm16 (by assumption), cell_keep hbm16 (by assumption), cell_keep hbm16 (by assumption), Below.trans (by assumption) (hbm16.mono (Below.size (by assumption)))⟩)
      | (go_split_ands; exact ⟨cell_keep hbm15 (by assumption), cell_keep hbm15 (by assumption), cell_keep hbm15 (by assumption), cell_keep hbm15 (by assumption), cell_keep hbm15 (by assumption), cell_keep hbm15 (by assumption), cell_keep hbm15 (by assumption), cell_keep hbm15 (by assumption), cell_keep hbm15 (by assumption), cell_keep hbm15 (by assumption), cell_keep hbm15 (by assumption), cell_keep hbm15 (by assumption), cell_keep hbm15 (by assumption), cell_keep hbm15 (by assumption), cell_keep hbm15 (by assumption), cell_keep hbm15 (by assumption), cell_keep hbm15 (by assumption), cell_keep hbm15 (by assumption), Below.trans (by assumption) (hbm15.mono (Below.size (by assumption)))⟩)
      | (go_split_ands; exact ⟨cell_keep hbm14 (by assumption), cell_keep hbm14 (by assumption), cell_keep hbm14 (by assumption), cell_keep hbm14 (by assumption), cell_keep hbm14 (by assumption), cell_keep hbm14 (by assumption), cell_keep hbm14 (by assumption), cell_keep hbm14 (by assumption), cell_keep hbm14 (by assumption), cell_keep hbm14 (by assumption), cell_keep hbm14 (by assumption), cell_keep hbm14 (by assumption), cell_keep hbm14 (by assumption), cell_keep hbm14 (by assumption), cell_keep hbm14 (by assumption), cell_keep hbm14 (by assumption), cell_keep hbm14 (by assumption), cell_keep hbm14 (by assumption), Below.trans (by assumption) (hbm14.mono (Below.size (by assumption)))⟩)
      | (go_split_ands; exact ⟨by assumption, by assumption, by assumption, by assumption, by assumption, by assumption, by assumption, by assumption, by assumption, by assumption, by assumption, by assumption, by assumption, by assumption, by assumption, by assumption, by assumption, by assumption, by assumption⟩))
    (first
      | (go_at_call 15; refine (hvT _ (hT13.below (show _ ∧ _ ∧ _ ∧ _ ∧ _ ∧ _ ∧ _ ∧ _ ∧ _ ∧ _ ∧ _ ∧ _ ∧ _ ∧ _ ∧ _ ∧ _ ∧ _ ∧ _ ∧ Below w13.heap.size w13 _ by assumption).2.2.2.2.2.2.2.2.2.2.2.2.2.2.2.2.2.2)).mono ?_; rintro e w14 ⟨rfl, hbm14⟩)
      | (go_at_call 13; refine (hvS _).mono ?_; rintro e w15 ⟨rfl, hbm15⟩)
      | (go_at_call 33; refine (hoI _).mono ?_; rintro e w16 ⟨rfl, hbm16⟩)
      | (go_at_call 34; refine (hoS _).mono ?_; rintro e w17 ⟨rfl, hbm17⟩)
      | (go_at_call 35; refine (hlI _).mono ?_; rintro e w18 ⟨rfl, hbm18⟩)
      | (go_at_call 36; refine (hlS _).mono ?_; rintro e w19 ⟨rfl, hbm19⟩)
      | (go_at_call 37; refine (hsI _ (own_step hop (show _ ∧ _ ∧ _ ∧ _ ∧ _ ∧ _ ∧ _ ∧ _ ∧ _ ∧ _ ∧ _ ∧ _ ∧ _ ∧ _ ∧ _ ∧ _ ∧ _ ∧ _ ∧ Below w13.heap.size w13 _ by assumption).2.2.2.2.2.2.2.2.2.2.2.2.2.2.2.2.2.2) (own_step hoq (show _ ∧ _ ∧ _ ∧ _ ∧ _ ∧ _ ∧ _ ∧ _ ∧ _ ∧ _ ∧ _ ∧ _ ∧ _ ∧ _ ∧ _ ∧ _ ∧ _ ∧ _ ∧ Below w13.heap.size w13 _ by assumption).2.2.2.2.2.2.2.2.2.2.2.2.2.2.2.2.2.2)).mono ?_; rintro e w20 ⟨rfl, hbm20⟩)
      | (go_at_call 38; refine (hsS _ (own_step hop (show _ ∧ _ ∧ _ ∧ _ ∧ _ ∧ _ ∧ _ ∧ _ ∧ _ ∧ _ ∧ _ ∧ _ ∧ _ ∧ _ ∧ _ ∧ _ ∧ _ ∧ _ ∧ Below w13.heap.size w13 _ by assumption).2.2.2.2.2.2.2.2.2.2.2.2.2.2.2.2.2.2) (own_step hoq (show _ ∧ _ ∧ _ ∧ _ ∧ _ ∧ _ ∧ _ ∧ _ ∧ _ ∧ _ ∧ _ ∧ _ ∧ _ ∧ _ ∧ _ ∧ _ ∧ _ ∧ _ ∧ Below w13.heap.size w13 _ by assumption).2.2.2.2.2.2.2.2.2.2.2.2.2.2.2.2.2.2)).mono ?_; rintro e w21 ⟨rfl, hbm21⟩))
  have hBR : Below w13.heap.size w13 w21 := (show _ ∧ _ ∧ _ ∧ _ ∧ _ ∧ _ ∧ _ ∧ _ ∧ _ ∧ _ ∧ _ ∧ _ ∧ _ ∧ _ ∧ _ ∧ _ ∧ _ ∧ _ ∧ Below w13.heap.size w13 w21 by assumption).2.2.2.2.2.2.2.2.2.2.2.2.2.2.2.2.2.2
  have hbl21 := hbl13.trans (hBR.mono hbl13.size)
  have hT21 := hT13.below hBR
  replace pv0 := cell_keep hBR pv0
  replace pv1 := cell_keep hBR pv1
  replace pv2 := cell_keep hBR pv2
  replace pa0 := cell_keep hBR pa0
  replace pa1 := cell_keep hBR pa1
  replace pa2 := cell_keep hBR pa2
  replace pb0 := cell_keep hBR pb0
  replace pb1 := cell_keep hBR pb1
  replace pb2 := cell_keep hBR pb2
  replace px0 := cell_keep hBR px0
  replace px1 := cell_keep hBR px1
  replace px2 := cell_keep hBR px2
  have hy0 := cell_keep hBR py0
  have hy1 := cell_keep hBR py1
  have hy2 := cell_keep hBR py2
  clear hBR py0 py1 py2 pz0 pz1 pz2 hop hoq hpo hqo hvT hvS hoS hlI hlS hsI hsS heq hE13 hT13 hbl13 hbm14 hbm15 hbm16 hbm17 hbm18 hbm19 hbm20 hbm21
  by_cases hab : a = b
  · subst hab
    have hlAA : ∀ w : World, Calls Tryd.prog 35 #[.agg #[.int .i64 a.ty, .int .i64 a.n, .string a.s], .agg #[.int .i64 a.ty, .int .i64 a.n, .string a.s]] w fun e w' => e = .returned (.bool false) ∧ Below w.heap.size w w' := fun w => by have := impl_LessVal w a a; rw [lessV_irrefl] at this; exact this
    have heqA := equalIn_Val a a
    rw [veq_self] at heqA
    clear HLV
    go_wp2_with fail
    refine (hlAA _).mono ?_
    rintro e w22 ⟨rfl, hb22⟩
    replace pv0 := cell_keep hb22 pv0
    replace pv1 := cell_keep hb22 pv1
    replace pv2 := cell_keep hb22 pv2
    replace pa0 := cell_keep hb22 pa0
    replace pa1 := cell_keep hb22 pa1
    replace pa2 := cell_keep hb22 pa2
    replace pb0 := cell_keep hb22 pb0
    replace pb1 := cell_keep hb22 pb1
    replace pb2 := cell_keep hb22 pb2
    replace px0 := cell_keep hb22 px0
    replace px1 := cell_keep hb22 px1
    replace px2 := cell_keep hb22 px2
    replace hy0 := cell_keep hb22 hy0
    replace hy1 := cell_keep hb22 hy1
    replace hy2 := cell_keep hb22 hy2
    have hbl22 := hbl21.trans (hb22.mono hbl21.size)
    have hT22 := hT21.below hb22
    clear hb22 hbl21 hT21
    go_wp2_with fail
    refine (hlAA _).mono ?_
    rintro e w23 ⟨rfl, hb23⟩
    replace pv0 := cell_keep hb23 pv0
    replace pv1 := cell_keep hb23 pv1
    replace pv2 := cell_keep hb23 pv2
    replace pa0 := cell_keep hb23 pa0
    replace pa1 := cell_keep hb23 pa1
    replace pa2 := cell_keep hb23 pa2
    replace pb0 := cell_keep hb23 pb0
    replace pb1 := cell_keep hb23 pb1
    replace pb2 := cell_keep hb23 pb2
    replace px0 := cell_keep hb23 px0
    replace px1 := cell_keep hb23 px1
    replace px2 := cell_keep hb23 px2
    replace hy0 := cell_keep hb23 hy0
    replace hy1 := cell_keep hb23 hy1
    replace hy2 := cell_keep hb23 hy2
    have hbl23 := hbl22.trans (hb23.mono hbl22.size)
    have hT23 := hT22.below hb23
    clear hb23 hbl22 hT22
    clear hlAA heqA
    cases hvo : vo
    · have hv0 : valOk v = false := HVO.out.symm.trans hvo
      subst hvo
      have hxv : pvOf tv = none := by rw [HTV.out]; exact pv_back_bad hv0
      obtain rfl : ok = false := by obtain ⟨e1, e2⟩ := hXP.out; rw [e2]; simp [pvB, hxv]
      clear hxv hv0 HTV HVO hXP
      cases his : is_
      · subst his
        clear hYP
        go_wp2_with fail
        refine (hoI _).mono ?_
        rintro e w24 ⟨rfl, hb24⟩
        replace pv0 := cell_keep hb24 pv0
        replace pv1 := cell_keep hb24 pv1
        replace pv2 := cell_keep hb24 pv2
        replace pa0 := cell_keep hb24 pa0
        replace pa1 := cell_keep hb24 pa1
        replace pa2 := cell_keep hb24 pa2
        replace pb0 := cell_keep hb24 pb0
        replace pb1 := cell_keep hb24 pb1
        replace pb2 := cell_keep hb24 pb2
        replace px0 := cell_keep hb24 px0
        replace px1 := cell_keep hb24 px1
        replace px2 := cell_keep hb24 px2
        replace hy0 := cell_keep hb24 hy0
        replace hy1 := cell_keep hb24 hy1
        replace hy2 := cell_keep hb24 hy2
        have hbl24 := hbl23.trans (hb24.mono hbl23.size)
        have hT24 := hT23.below hb24
        clear hb24 hbl23 hT23
        go_wp2
        go_ret
        exact ⟨rfl, hbl24⟩
      · subst his
        have hyv : valText y = s := by obtain ⟨e1, e2⟩ := hYP.out; cases hpv : pvOf s with | none => (rw [pvB, hpv] at e2; cases e2) | some z => (rw [e1, pvV, hpv]; exact pv_text_of hpv)
        have hyo : y.ok := by rw [hYP.out.1]; exact pvV_ok (by omega)
        have het : ((valText y).toList == s.toList) = true := by rw [hyv]; exact beq_self_eq_true _
        clear hyv
        clear hYP
        go_wp2_with fail
        refine (hoI _).mono ?_
        rintro e w24 ⟨rfl, hb24⟩
        replace pv0 := cell_keep hb24 pv0
        replace pv1 := cell_keep hb24 pv1
        replace pv2 := cell_keep hb24 pv2
        replace pa0 := cell_keep hb24 pa0
        replace pa1 := cell_keep hb24 pa1
        replace pa2 := cell_keep hb24 pa2
        replace pb0 := cell_keep hb24 pb0
        replace pb1 := cell_keep hb24 pb1
        replace pb2 := cell_keep hb24 pb2
        replace px0 := cell_keep hb24 px0
        replace px1 := cell_keep hb24 px1
        replace px2 := cell_keep hb24 px2
        replace hy0 := cell_keep hb24 hy0
        replace hy1 := cell_keep hb24 hy1
        replace hy2 := cell_keep hb24 hy2
        have hbl24 := hbl23.trans (hb24.mono hbl23.size)
        have hT24 := hT23.below hb24
        clear hb24 hbl23 hT23
        go_wp2_with fail
        refine (impl_ValText _ y hyo hT24).mono ?_
        rintro e w25 ⟨rfl, hb25⟩
        replace pv0 := cell_keep hb25 pv0
        replace pv1 := cell_keep hb25 pv1
        replace pv2 := cell_keep hb25 pv2
        replace pa0 := cell_keep hb25 pa0
        replace pa1 := cell_keep hb25 pa1
        replace pa2 := cell_keep hb25 pa2
        replace pb0 := cell_keep hb25 pb0
        replace pb1 := cell_keep hb25 pb1
        replace pb2 := cell_keep hb25 pb2
        replace px0 := cell_keep hb25 px0
        replace px1 := cell_keep hb25 px1
        replace px2 := cell_keep hb25 px2
        replace hy0 := cell_keep hb25 hy0
        replace hy1 := cell_keep hb25 hy1
        replace hy2 := cell_keep hb25 hy2
        have hbl25 := hbl24.trans (hb25.mono hbl24.size)
        have hT25 := hT24.below hb25
        clear hb25 hbl24 hT24
        go_wp2
        go_ret
        exact ⟨rfl, hbl25⟩
    · have hv0 : valOk v = true := HVO.out.symm.trans hvo
      subst hvo
      have hxv : pvOf tv = some v := by rw [HTV.out]; exact pv_back hv0
      obtain ⟨rfl, rfl⟩ : x = v ∧ ok = true := by obtain ⟨e1, e2⟩ := hXP.out; rw [e1, e2]; simp [pvV, pvB, hxv]
      have heq := equalIn_Val x x
      rw [veq_self] at heq
      clear hxv hv0 HTV HVO hXP
      cases his : is_
      · subst his
        clear hYP
        go_wp2_with fail
        refine (hoI _).mono ?_
        rintro e w24 ⟨rfl, hb24⟩
        replace pv0 := cell_keep hb24 pv0
        replace pv1 := cell_keep hb24 pv1
        replace pv2 := cell_keep hb24 pv2
        replace pa0 := cell_keep hb24 pa0
        replace pa1 := cell_keep hb24 pa1
        replace pa2 := cell_keep hb24 pa2
        replace pb0 := cell_keep hb24 pb0
        replace pb1 := cell_keep hb24 pb1
        replace pb2 := cell_keep hb24 pb2
        replace px0 := cell_keep hb24 px0
        replace px1 := cell_keep hb24 px1
        replace px2 := cell_keep hb24 px2
        replace hy0 := cell_keep hb24 hy0
        replace hy1 := cell_keep hb24 hy1
        replace hy2 := cell_keep hb24 hy2
        have hbl24 := hbl23.trans (hb24.mono hbl23.size)
        have hT24 := hT23.below hb24
        clear hb24 hbl23 hT23
        go_wp2
        go_ret
        exact ⟨rfl, hbl24⟩
      · subst his
        have hyv : valText y = s := by obtain ⟨e1, e2⟩ := hYP.out; cases hpv : pvOf s with | none => (rw [pvB, hpv] at e2; cases e2) | some z => (rw [e1, pvV, hpv]; exact pv_text_of hpv)
        have hyo : y.ok := by rw [hYP.out.1]; exact pvV_ok (by omega)
        have het : ((valText y).toList == s.toList) = true := by rw [hyv]; exact beq_self_eq_true _
        clear hyv
        clear hYP
        go_wp2_with fail
        refine (hoI _).mono ?_
        rintro e w24 ⟨rfl, hb24⟩
        replace pv0 := cell_keep hb24 pv0
        replace pv1 := cell_keep hb24 pv1
        replace pv2 := cell_keep hb24 pv2
        replace pa0 := cell_keep hb24 pa0
        replace pa1 := cell_keep hb24 pa1
        replace pa2 := cell_keep hb24 pa2
        replace pb0 := cell_keep hb24 pb0
        replace pb1 := cell_keep hb24 pb1
        replace pb2 := cell_keep hb24 pb2
        replace px0 := cell_keep hb24 px0
        replace px1 := cell_keep hb24 px1
        replace px2 := cell_keep hb24 px2
        replace hy0 := cell_keep hb24 hy0
        replace hy1 := cell_keep hb24 hy1
        replace hy2 := cell_keep hb24 hy2
        have hbl24 := hbl23.trans (hb24.mono hbl23.size)
        have hT24 := hT23.below hb24
        clear hb24 hbl23 hT23
        go_wp2_with fail
        refine (impl_ValText _ y hyo hT24).mono ?_
        rintro e w25 ⟨rfl, hb25⟩
        replace pv0 := cell_keep hb25 pv0
        replace pv1 := cell_keep hb25 pv1
        replace pv2 := cell_keep hb25 pv2
        replace pa0 := cell_keep hb25 pa0
        replace pa1 := cell_keep hb25 pa1
        replace pa2 := cell_keep hb25 pa2
        replace pb0 := cell_keep hb25 pb0
        replace pb1 := cell_keep hb25 pb1
        replace pb2 := cell_keep hb25 pb2
        replace px0 := cell_keep hb25 px0
        replace px1 := cell_keep hb25 px1
        replace px2 := cell_keep hb25 px2
        replace hy0 := cell_keep hb25 hy0
        replace hy1 := cell_keep hb25 hy1
        replace hy2 := cell_keep hb25 hy2
        have hbl25 := hbl24.trans (hb25.mono hbl24.size)
        have hT25 := hT24.below hb25
        clear hb25 hbl24 hT24
        go_wp2
        go_ret
        exact ⟨rfl, hbl25⟩
  have heqA := equalIn_Val a b
  have hveq : veq a b = false := by cases h : veq a b; rfl; exact absurd (veq_iff.1 h) hab
  rw [hveq] at heqA
  clear hveq
  cases hl1 : lessV a b
  · have hl2 : lessV b a = true := by cases h : lessV b a; exact absurd (lessV_total hl1 h) hab; rfl
    have hlAB : ∀ w : World, Calls Tryd.prog 35 #[.agg #[.int .i64 a.ty, .int .i64 a.n, .string a.s], .agg #[.int .i64 b.ty, .int .i64 b.n, .string b.s]] w fun e w' => e = .returned (.bool false) ∧ Below w.heap.size w w' := fun w => by have := impl_LessVal w a b; rw [hl1] at this; exact this
    have hlBA : ∀ w : World, Calls Tryd.prog 35 #[.agg #[.int .i64 b.ty, .int .i64 b.n, .string b.s], .agg #[.int .i64 a.ty, .int .i64 a.n, .string a.s]] w fun e w' => e = .returned (.bool true) ∧ Below w.heap.size w w' := fun w => by have := impl_LessVal w b a; rw [hl2] at this; exact this
    clear HLV hl1 hl2 hab
    go_wp2_with fail
    refine (hlAB _).mono ?_
    rintro e w22 ⟨rfl, hb22⟩
    replace pv0 := cell_keep hb22 pv0
    replace pv1 := cell_keep hb22 pv1
    replace pv2 := cell_keep hb22 pv2
    replace pa0 := cell_keep hb22 pa0
    replace pa1 := cell_keep hb22 pa1
    replace pa2 := cell_keep hb22 pa2
    replace pb0 := cell_keep hb22 pb0
    replace pb1 := cell_keep hb22 pb1
    replace pb2 := cell_keep hb22 pb2
    replace px0 := cell_keep hb22 px0
    replace px1 := cell_keep hb22 px1
    replace px2 := cell_keep hb22 px2
    replace hy0 := cell_keep hb22 hy0
    replace hy1 := cell_keep hb22 hy1
    replace hy2 := cell_keep hb22 hy2
    have hbl22 := hbl21.trans (hb22.mono hbl21.size)
    have hT22 := hT21.below hb22
    clear hb22 hbl21 hT21
    go_wp2_with fail
    refine (hlAB _).mono ?_
    rintro e w23 ⟨rfl, hb23⟩
    replace pv0 := cell_keep hb23 pv0
    replace pv1 := cell_keep hb23 pv1
    replace pv2 := cell_keep hb23 pv2
    replace pa0 := cell_keep hb23 pa0
    replace pa1 := cell_keep hb23 pa1
    replace pa2 := cell_keep hb23 pa2
    replace pb0 := cell_keep hb23 pb0
    replace pb1 := cell_keep hb23 pb1
    replace pb2 := cell_keep hb23 pb2
    replace px0 := cell_keep hb23 px0
    replace px1 := cell_keep hb23 px1
    replace px2 := cell_keep hb23 px2
    replace hy0 := cell_keep hb23 hy0
    replace hy1 := cell_keep hb23 hy1
    replace hy2 := cell_keep hb23 hy2
    have hbl23 := hbl22.trans (hb23.mono hbl22.size)
    have hT23 := hT22.below hb23
    clear hb23 hbl22 hT22
    go_wp2_with fail
    refine (hlBA _).mono ?_
    rintro e w24 ⟨rfl, hb24⟩
    replace pv0 := cell_keep hb24 pv0
    replace pv1 := cell_keep hb24 pv1
    replace pv2 := cell_keep hb24 pv2
    replace pa0 := cell_keep hb24 pa0
    replace pa1 := cell_keep hb24 pa1
    replace pa2 := cell_keep hb24 pa2
    replace pb0 := cell_keep hb24 pb0
    replace pb1 := cell_keep hb24 pb1
    replace pb2 := cell_keep hb24 pb2
    replace px0 := cell_keep hb24 px0
    replace px1 := cell_keep hb24 px1
    replace px2 := cell_keep hb24 px2
    replace hy0 := cell_keep hb24 hy0
    replace hy1 := cell_keep hb24 hy1
    replace hy2 := cell_keep hb24 hy2
    have hbl24 := hbl23.trans (hb24.mono hbl23.size)
    have hT24 := hT23.below hb24
    clear hb24 hbl23 hT23
    clear hlAB hlBA
    cases hvo : vo
    · have hv0 : valOk v = false := HVO.out.symm.trans hvo
      subst hvo
      have hxv : pvOf tv = none := by rw [HTV.out]; exact pv_back_bad hv0
      obtain rfl : ok = false := by obtain ⟨e1, e2⟩ := hXP.out; rw [e2]; simp [pvB, hxv]
      clear hxv hv0 HTV HVO hXP
      cases his : is_
      · subst his
        clear hYP
        go_wp2_with fail
        refine (hoI _).mono ?_
        rintro e w25 ⟨rfl, hb25⟩
        replace pv0 := cell_keep hb25 pv0
        replace pv1 := cell_keep hb25 pv1
        replace pv2 := cell_keep hb25 pv2
        replace pa0 := cell_keep hb25 pa0
        replace pa1 := cell_keep hb25 pa1
        replace pa2 := cell_keep hb25 pa2
        replace pb0 := cell_keep hb25 pb0
        replace pb1 := cell_keep hb25 pb1
        replace pb2 := cell_keep hb25 pb2
        replace px0 := cell_keep hb25 px0
        replace px1 := cell_keep hb25 px1
        replace px2 := cell_keep hb25 px2
        replace hy0 := cell_keep hb25 hy0
        replace hy1 := cell_keep hb25 hy1
        replace hy2 := cell_keep hb25 hy2
        have hbl25 := hbl24.trans (hb25.mono hbl24.size)
        have hT25 := hT24.below hb25
        clear hb25 hbl24 hT24
        go_wp2
        go_ret
        exact ⟨rfl, hbl25⟩
      · subst his
        have hyv : valText y = s := by obtain ⟨e1, e2⟩ := hYP.out; cases hpv : pvOf s with | none => (rw [pvB, hpv] at e2; cases e2) | some z => (rw [e1, pvV, hpv]; exact pv_text_of hpv)
        have hyo : y.ok := by rw [hYP.out.1]; exact pvV_ok (by omega)
        have het : ((valText y).toList == s.toList) = true := by rw [hyv]; exact beq_self_eq_true _
        clear hyv
        clear hYP
        go_wp2_with fail
        refine (hoI _).mono ?_
        rintro e w25 ⟨rfl, hb25⟩
        replace pv0 := cell_keep hb25 pv0
        replace pv1 := cell_keep hb25 pv1
        replace pv2 := cell_keep hb25 pv2
        replace pa0 := cell_keep hb25 pa0
        replace pa1 := cell_keep hb25 pa1
        replace pa2 := cell_keep hb25 pa2
        replace pb0 := cell_keep hb25 pb0
        replace pb1 := cell_keep hb25 pb1
        replace pb2 := cell_keep hb25 pb2
        replace px0 := cell_keep hb25 px0
        replace px1 := cell_keep hb25 px1
        replace px2 := cell_keep hb25 px2
        replace hy0 := cell_keep hb25 hy0
        replace hy1 := cell_keep hb25 hy1
        replace hy2 := cell_keep hb25 hy2
        have hbl25 := hbl24.trans (hb25.mono hbl24.size)
        have hT25 := hT24.below hb25
        clear hb25 hbl24 hT24
        go_wp2_with fail
        refine (impl_ValText _ y hyo hT25).mono ?_
        rintro e w26 ⟨rfl, hb26⟩
        replace pv0 := cell_keep hb26 pv0
        replace pv1 := cell_keep hb26 pv1
        replace pv2 := cell_keep hb26 pv2
        replace pa0 := cell_keep hb26 pa0
        replace pa1 := cell_keep hb26 pa1
        replace pa2 := cell_keep hb26 pa2
        replace pb0 := cell_keep hb26 pb0
        replace pb1 := cell_keep hb26 pb1
        replace pb2 := cell_keep hb26 pb2
        replace px0 := cell_keep hb26 px0
        replace px1 := cell_keep hb26 px1
        replace px2 := cell_keep hb26 px2
        replace hy0 := cell_keep hb26 hy0
        replace hy1 := cell_keep hb26 hy1
        replace hy2 := cell_keep hb26 hy2
        have hbl26 := hbl25.trans (hb26.mono hbl25.size)
        have hT26 := hT25.below hb26
        clear hb26 hbl25 hT25
        go_wp2
        go_ret
        exact ⟨rfl, hbl26⟩
    · have hv0 : valOk v = true := HVO.out.symm.trans hvo
      subst hvo
      have hxv : pvOf tv = some v := by rw [HTV.out]; exact pv_back hv0
      obtain ⟨rfl, rfl⟩ : x = v ∧ ok = true := by obtain ⟨e1, e2⟩ := hXP.out; rw [e1, e2]; simp [pvV, pvB, hxv]
      have heq := equalIn_Val x x
      rw [veq_self] at heq
      clear hxv hv0 HTV HVO hXP
      cases his : is_
      · subst his
        clear hYP
        go_wp2_with fail
        refine (hoI _).mono ?_
        rintro e w25 ⟨rfl, hb25⟩
        replace pv0 := cell_keep hb25 pv0
        replace pv1 := cell_keep hb25 pv1
        replace pv2 := cell_keep hb25 pv2
        replace pa0 := cell_keep hb25 pa0
        replace pa1 := cell_keep hb25 pa1
        replace pa2 := cell_keep hb25 pa2
        replace pb0 := cell_keep hb25 pb0
        replace pb1 := cell_keep hb25 pb1
        replace pb2 := cell_keep hb25 pb2
        replace px0 := cell_keep hb25 px0
        replace px1 := cell_keep hb25 px1
        replace px2 := cell_keep hb25 px2
        replace hy0 := cell_keep hb25 hy0
        replace hy1 := cell_keep hb25 hy1
        replace hy2 := cell_keep hb25 hy2
        have hbl25 := hbl24.trans (hb25.mono hbl24.size)
        have hT25 := hT24.below hb25
        clear hb25 hbl24 hT24
        go_wp2
        go_ret
        exact ⟨rfl, hbl25⟩
      · subst his
        have hyv : valText y = s := by obtain ⟨e1, e2⟩ := hYP.out; cases hpv : pvOf s with | none => (rw [pvB, hpv] at e2; cases e2) | some z => (rw [e1, pvV, hpv]; exact pv_text_of hpv)
        have hyo : y.ok := by rw [hYP.out.1]; exact pvV_ok (by omega)
        have het : ((valText y).toList == s.toList) = true := by rw [hyv]; exact beq_self_eq_true _
        clear hyv
        clear hYP
        go_wp2_with fail
        refine (hoI _).mono ?_
        rintro e w25 ⟨rfl, hb25⟩
        replace pv0 := cell_keep hb25 pv0
        replace pv1 := cell_keep hb25 pv1
        replace pv2 := cell_keep hb25 pv2
        replace pa0 := cell_keep hb25 pa0
        replace pa1 := cell_keep hb25 pa1
        replace pa2 := cell_keep hb25 pa2
        replace pb0 := cell_keep hb25 pb0
        replace pb1 := cell_keep hb25 pb1
        replace pb2 := cell_keep hb25 pb2
        replace px0 := cell_keep hb25 px0
        replace px1 := cell_keep hb25 px1
        replace px2 := cell_keep hb25 px2
        replace hy0 := cell_keep hb25 hy0
        replace hy1 := cell_keep hb25 hy1
        replace hy2 := cell_keep hb25 hy2
        have hbl25 := hbl24.trans (hb25.mono hbl24.size)
        have hT25 := hT24.below hb25
        clear hb25 hbl24 hT24
        go_wp2_with fail
        refine (impl_ValText _ y hyo hT25).mono ?_
        rintro e w26 ⟨rfl, hb26⟩
        replace pv0 := cell_keep hb26 pv0
        replace pv1 := cell_keep hb26 pv1
        replace pv2 := cell_keep hb26 pv2
        replace pa0 := cell_keep hb26 pa0
        replace pa1 := cell_keep hb26 pa1
        replace pa2 := cell_keep hb26 pa2
        replace pb0 := cell_keep hb26 pb0
        replace pb1 := cell_keep hb26 pb1
        replace pb2 := cell_keep hb26 pb2
        replace px0 := cell_keep hb26 px0
        replace px1 := cell_keep hb26 px1
        replace px2 := cell_keep hb26 px2
        replace hy0 := cell_keep hb26 hy0
        replace hy1 := cell_keep hb26 hy1
        replace hy2 := cell_keep hb26 hy2
        have hbl26 := hbl25.trans (hb26.mono hbl25.size)
        have hT26 := hT25.below hb26
        clear hb26 hbl25 hT25
        go_wp2
        go_ret
        exact ⟨rfl, hbl26⟩
  · have hl2 : lessV b a = false := lessV_asymm hl1
    have hlAB : ∀ w : World, Calls Tryd.prog 35 #[.agg #[.int .i64 a.ty, .int .i64 a.n, .string a.s], .agg #[.int .i64 b.ty, .int .i64 b.n, .string b.s]] w fun e w' => e = .returned (.bool true) ∧ Below w.heap.size w w' := fun w => by have := impl_LessVal w a b; rw [hl1] at this; exact this
    have hlBA : ∀ w : World, Calls Tryd.prog 35 #[.agg #[.int .i64 b.ty, .int .i64 b.n, .string b.s], .agg #[.int .i64 a.ty, .int .i64 a.n, .string a.s]] w fun e w' => e = .returned (.bool false) ∧ Below w.heap.size w w' := fun w => by have := impl_LessVal w b a; rw [hl2] at this; exact this
    clear HLV hl1 hl2 hab
    go_wp2_with fail
    refine (hlAB _).mono ?_
    rintro e w22 ⟨rfl, hb22⟩
    replace pv0 := cell_keep hb22 pv0
    replace pv1 := cell_keep hb22 pv1
    replace pv2 := cell_keep hb22 pv2
    replace pa0 := cell_keep hb22 pa0
    replace pa1 := cell_keep hb22 pa1
    replace pa2 := cell_keep hb22 pa2
    replace pb0 := cell_keep hb22 pb0
    replace pb1 := cell_keep hb22 pb1
    replace pb2 := cell_keep hb22 pb2
    replace px0 := cell_keep hb22 px0
    replace px1 := cell_keep hb22 px1
    replace px2 := cell_keep hb22 px2
    replace hy0 := cell_keep hb22 hy0
    replace hy1 := cell_keep hb22 hy1
    replace hy2 := cell_keep hb22 hy2
    have hbl22 := hbl21.trans (hb22.mono hbl21.size)
    have hT22 := hT21.below hb22
    clear hb22 hbl21 hT21
    go_wp2_with fail
    refine (hlBA _).mono ?_
    rintro e w23 ⟨rfl, hb23⟩
    replace pv0 := cell_keep hb23 pv0
    replace pv1 := cell_keep hb23 pv1
    replace pv2 := cell_keep hb23 pv2
    replace pa0 := cell_keep hb23 pa0
    replace pa1 := cell_keep hb23 pa1
    replace pa2 := cell_keep hb23 pa2
    replace pb0 := cell_keep hb23 pb0
    replace pb1 := cell_keep hb23 pb1
    replace pb2 := cell_keep hb23 pb2
    replace px0 := cell_keep hb23 px0
    replace px1 := cell_keep hb23 px1
    replace px2 := cell_keep hb23 px2
    replace hy0 := cell_keep hb23 hy0
    replace hy1 := cell_keep hb23 hy1
    replace hy2 := cell_keep hb23 hy2
    have hbl23 := hbl22.trans (hb23.mono hbl22.size)
    have hT23 := hT22.below hb23
    clear hb23 hbl22 hT22
    go_wp2_with fail
    refine (hlAB _).mono ?_
    rintro e w24 ⟨rfl, hb24⟩
    replace pv0 := cell_keep hb24 pv0
    replace pv1 := cell_keep hb24 pv1
    replace pv2 := cell_keep hb24 pv2
    replace pa0 := cell_keep hb24 pa0
    replace pa1 := cell_keep hb24 pa1
    replace pa2 := cell_keep hb24 pa2
    replace pb0 := cell_keep hb24 pb0
    replace pb1 := cell_keep hb24 pb1
    replace pb2 := cell_keep hb24 pb2
    replace px0 := cell_keep hb24 px0
    replace px1 := cell_keep hb24 px1
    replace px2 := cell_keep hb24 px2
    replace hy0 := cell_keep hb24 hy0
    replace hy1 := cell_keep hb24 hy1
    replace hy2 := cell_keep hb24 hy2
    have hbl24 := hbl23.trans (hb24.mono hbl23.size)
    have hT24 := hT23.below hb24
    clear hb24 hbl23 hT23
    clear hlAB hlBA
    cases hvo : vo
    · have hv0 : valOk v = false := HVO.out.symm.trans hvo
      subst hvo
      have hxv : pvOf tv = none := by rw [HTV.out]; exact pv_back_bad hv0
      obtain rfl : ok = false := by obtain ⟨e1, e2⟩ := hXP.out; rw [e2]; simp [pvB, hxv]
      clear hxv hv0 HTV HVO hXP
      cases his : is_
      · subst his
        clear hYP
        go_wp2_with fail
        refine (hoI _).mono ?_
        rintro e w25 ⟨rfl, hb25⟩
        replace pv0 := cell_keep hb25 pv0
        replace pv1 := cell_keep hb25 pv1
        replace pv2 := cell_keep hb25 pv2
        replace pa0 := cell_keep hb25 pa0
        replace pa1 := cell_keep hb25 pa1
        replace pa2 := cell_keep hb25 pa2
        replace pb0 := cell_keep hb25 pb0
        replace pb1 := cell_keep hb25 pb1
        replace pb2 := cell_keep hb25 pb2
        replace px0 := cell_keep hb25 px0
        replace px1 := cell_keep hb25 px1
        replace px2 := cell_keep hb25 px2
        replace hy0 := cell_keep hb25 hy0
        replace hy1 := cell_keep hb25 hy1
        replace hy2 := cell_keep hb25 hy2
        have hbl25 := hbl24.trans (hb25.mono hbl24.size)
        have hT25 := hT24.below hb25
        clear hb25 hbl24 hT24
        go_wp2
        go_ret
        exact ⟨rfl, hbl25⟩
      · subst his
        have hyv : valText y = s := by obtain ⟨e1, e2⟩ := hYP.out; cases hpv : pvOf s with | none => (rw [pvB, hpv] at e2; cases e2) | some z => (rw [e1, pvV, hpv]; exact pv_text_of hpv)
        have hyo : y.ok := by rw [hYP.out.1]; exact pvV_ok (by omega)
        have het : ((valText y).toList == s.toList) = true := by rw [hyv]; exact beq_self_eq_true _
        clear hyv
        clear hYP
        go_wp2_with fail
        refine (hoI _).mono ?_
        rintro e w25 ⟨rfl, hb25⟩
        replace pv0 := cell_keep hb25 pv0
        replace pv1 := cell_keep hb25 pv1
        replace pv2 := cell_keep hb25 pv2
        replace pa0 := cell_keep hb25 pa0
        replace pa1 := cell_keep hb25 pa1
        replace pa2 := cell_keep hb25 pa2
        replace pb0 := cell_keep hb25 pb0
        replace pb1 := cell_keep hb25 pb1
        replace pb2 := cell_keep hb25 pb2
        replace px0 := cell_keep hb25 px0
        replace px1 := cell_keep hb25 px1
        replace px2 := cell_keep hb25 px2
        replace hy0 := cell_keep hb25 hy0
        replace hy1 := cell_keep hb25 hy1
        replace hy2 := cell_keep hb25 hy2
        have hbl25 := hbl24.trans (hb25.mono hbl24.size)
        have hT25 := hT24.below hb25
        clear hb25 hbl24 hT24
        go_wp2_with fail
        refine (impl_ValText _ y hyo hT25).mono ?_
        rintro e w26 ⟨rfl, hb26⟩
        replace pv0 := cell_keep hb26 pv0
        replace pv1 := cell_keep hb26 pv1
        replace pv2 := cell_keep hb26 pv2
        replace pa0 := cell_keep hb26 pa0
        replace pa1 := cell_keep hb26 pa1
        replace pa2 := cell_keep hb26 pa2
        replace pb0 := cell_keep hb26 pb0
        replace pb1 := cell_keep hb26 pb1
        replace pb2 := cell_keep hb26 pb2
        replace px0 := cell_keep hb26 px0
        replace px1 := cell_keep hb26 px1
        replace px2 := cell_keep hb26 px2
        replace hy0 := cell_keep hb26 hy0
        replace hy1 := cell_keep hb26 hy1
        replace hy2 := cell_keep hb26 hy2
        have hbl26 := hbl25.trans (hb26.mono hbl25.size)
        have hT26 := hT25.below hb26
        clear hb26 hbl25 hT25
        go_wp2
        go_ret
        exact ⟨rfl, hbl26⟩
    · have hv0 : valOk v = true := HVO.out.symm.trans hvo
      subst hvo
      have hxv : pvOf tv = some v := by rw [HTV.out]; exact pv_back hv0
      obtain ⟨rfl, rfl⟩ : x = v ∧ ok = true := by obtain ⟨e1, e2⟩ := hXP.out; rw [e1, e2]; simp [pvV, pvB, hxv]
      have heq := equalIn_Val x x
      rw [veq_self] at heq
      clear hxv hv0 HTV HVO hXP
      cases his : is_
      · subst his
        clear hYP
        go_wp2_with fail
        refine (hoI _).mono ?_
        rintro e w25 ⟨rfl, hb25⟩
        replace pv0 := cell_keep hb25 pv0
        replace pv1 := cell_keep hb25 pv1
        replace pv2 := cell_keep hb25 pv2
        replace pa0 := cell_keep hb25 pa0
        replace pa1 := cell_keep hb25 pa1
        replace pa2 := cell_keep hb25 pa2
        replace pb0 := cell_keep hb25 pb0
        replace pb1 := cell_keep hb25 pb1
        replace pb2 := cell_keep hb25 pb2
        replace px0 := cell_keep hb25 px0
        replace px1 := cell_keep hb25 px1
        replace px2 := cell_keep hb25 px2
        replace hy0 := cell_keep hb25 hy0
        replace hy1 := cell_keep hb25 hy1
        replace hy2 := cell_keep hb25 hy2
        have hbl25 := hbl24.trans (hb25.mono hbl24.size)
        have hT25 := hT24.below hb25
        clear hb25 hbl24 hT24
        go_wp2
        go_ret
        exact ⟨rfl, hbl25⟩
      · subst his
        have hyv : valText y = s := by obtain ⟨e1, e2⟩ := hYP.out; cases hpv : pvOf s with | none => (rw [pvB, hpv] at e2; cases e2) | some z => (rw [e1, pvV, hpv]; exact pv_text_of hpv)
        have hyo : y.ok := by rw [hYP.out.1]; exact pvV_ok (by omega)
        have het : ((valText y).toList == s.toList) = true := by rw [hyv]; exact beq_self_eq_true _
        clear hyv
        clear hYP
        go_wp2_with fail
        refine (hoI _).mono ?_
        rintro e w25 ⟨rfl, hb25⟩
        replace pv0 := cell_keep hb25 pv0
        replace pv1 := cell_keep hb25 pv1
        replace pv2 := cell_keep hb25 pv2
        replace pa0 := cell_keep hb25 pa0
        replace pa1 := cell_keep hb25 pa1
        replace pa2 := cell_keep hb25 pa2
        replace pb0 := cell_keep hb25 pb0
        replace pb1 := cell_keep hb25 pb1
        replace pb2 := cell_keep hb25 pb2
        replace px0 := cell_keep hb25 px0
        replace px1 := cell_keep hb25 px1
        replace px2 := cell_keep hb25 px2
        replace hy0 := cell_keep hb25 hy0
        replace hy1 := cell_keep hb25 hy1
        replace hy2 := cell_keep hb25 hy2
        have hbl25 := hbl24.trans (hb25.mono hbl24.size)
        have hT25 := hT24.below hb25
        clear hb25 hbl24 hT24
        go_wp2_with fail
        refine (impl_ValText _ y hyo hT25).mono ?_
        rintro e w26 ⟨rfl, hb26⟩
        replace pv0 := cell_keep hb26 pv0
        replace pv1 := cell_keep hb26 pv1
        replace pv2 := cell_keep hb26 pv2
        replace pa0 := cell_keep hb26 pa0
        replace pa1 := cell_keep hb26 pa1
        replace pa2 := cell_keep hb26 pa2
        replace pb0 := cell_keep hb26 pb0
        replace pb1 := cell_keep hb26 pb1
        replace pb2 := cell_keep hb26 pb2
        replace px0 := cell_keep hb26 px0
        replace px1 := cell_keep hb26 px1
        replace px2 := cell_keep hb26 px2
        replace hy0 := cell_keep hb26 hy0
        replace hy1 := cell_keep hb26 hy1
        replace hy2 := cell_keep hb26 hy2
        have hbl26 := hbl25.trans (hb26.mono hbl25.size)
        have hT26 := hT25.below hb26
        clear hb26 hbl25 hT25
        go_wp2
        go_ret
        exact ⟨rfl, hbl26⟩
end Go.Proofs.YtgpimlmolcjeoaaDoor.fnVals
