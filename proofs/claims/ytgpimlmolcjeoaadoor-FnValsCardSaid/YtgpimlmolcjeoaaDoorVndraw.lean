/-
  What the reference draws for the law on values: DrawValText, DrawParseVal, DrawLessVal, DrawSameVals.
-/
import Derived.Test.YtgpimlmolcjeoaaDoorNdraw
import Derived.Test.YtgpimlmolcjeoaaDoorVtext
import Derived.BigRegion
namespace Go.Proofs.YtgpimlmolcjeoaaDoor
open Go.RowKit
set_option linter.unusedVariables false
set_option maxRecDepth 100000

theorem vcells_one (vs : List V) : ∀ u ∈ valCells vs, u.oneCell' = true := by
  intro u hu
  obtain ⟨v, _, hv⟩ := List.mem_flatMap.1 hu
  simp only [V.enc, List.mem_cons, List.not_mem_nil, or_false] at hv
  rcases hv with rfl | rfl | rfl <;> rfl
theorem box_snd (w : World) (u v : V) (W : World) (hW : W = (w.alloc (.cells #[.int .i64 u.ty, .int .i64 u.n, .string u.s] 28)).alloc (.cells #[.int .i64 v.ty, .int .i64 v.n, .string v.s] 28)) : Box W (w.heap.size + 1) v := by
  have h := Box.new (w.alloc (.cells #[.int .i64 u.ty, .int .i64 u.n, .string u.s] 28)) v
  have e : (w.alloc (.cells #[.int .i64 u.ty, .int .i64 u.n, .string u.s] 28)).heap.size = w.heap.size + 1 := by simp
  rw [e] at h
  rw [hW]
  exact h
theorem DrawValText_any (w : World) (A : Option Addr) (c : Nat) (cs : List UInt8) (hr : Reads w w.heap.size 1 A cs.length (byteCells cs)) (hl : cs.length ≤ 1099511627776) :
    Calls Tryd.prog 29 #[.slice A cs.length c] w fun e w' => ∃ v : V, e = .returned (.agg #[.int .i64 v.ty, .int .i64 v.n, .string v.s]) ∧ v.ok ∧ Below w.heap.size w w' := by
  obtain ⟨W, hW⟩ : ∃ W, W = w.alloc (.cells #[.int .i64 0, .int .i64 0, .string ⟨#[]⟩] 28) := ⟨_, rfl⟩
  have hbx : Box W w.heap.size V0 := by rw [hW]; exact Box.zero w
  have hbW : Below w.heap.size w W := by rw [hW]; exact (Below.refl _ _).alloc (Nat.le_refl _) _
  have hrW := (hr.below hbW (Nat.le_refl _)).more hbW.size
  have hsW : W.heap.size = w.heap.size + 1 := by rw [hW]; simp
  go_enter Tryd.func29, Tryd.ntmps29
  go_wp2_with fail
  rw [← hW]
  clear hW hr
  refine (l1New_any W _ _ _ hrW hl).mono ?_
  rintro e w1 ⟨p, rfl, hp, hc1, hb1⟩
  have hne : w.heap.size ≠ p := by omega
  replace hbx := hbx.below hb1
  replace hb1 := hbW.trans (hb1.mono hbW.size)
  clear hbW hrW
  go_wp2_with fail
  refine (l3Any_any _ p hc1).mono ?_
  rintro e w4 ⟨v, rfl, hv, hc4, hg4⟩
  have hb4 := hb1.grown hg4 hb1.size (fun q hq => by have := Option.some.inj hq; omega)
  obtain ⟨q0, q1, q2, f0, f1, f2⟩ := (hbx.grown hg4 hne).cells
  obtain ⟨r0, r1, r2⟩ := three_set q0 q1 q2 (.int .i64 v.ty) (.int .i64 v.n) (.string v.s)
  have hb5 := below_three hb4 (Nat.le_refl w.heap.size) (.int .i64 v.ty) (.int .i64 v.n) (.string v.s)
  clear hbx hg4 hc1 hc4 hb1 hb4
  go_wp2_with fail
  exact bodyPost_ret (v := .agg #[.int .i64 v.ty, .int .i64 v.n, .string v.s]) (by simp [results, Tryd.results29, go_sem, r0, r1, r2]) rfl ⟨v, rfl, hv, hb5⟩
def dpvS : List ByteArray := [⟨#[]⟩, ⟨#[39]⟩, ⟨#[39, 97]⟩, ⟨#[39, 97, 32, 98]⟩, ⟨#[39, 115, 101, 118, 101, 110, 55, 55]⟩, ⟨#[55]⟩, ⟨#[45, 55]⟩, ⟨#[48, 48, 55]⟩, ⟨#[97]⟩, ⟨#[39, 39]⟩, ⟨#[49, 48, 48, 48, 48, 48, 48, 48, 48, 49]⟩]
theorem dpvS_size : ∀ x ∈ dpvS, x.size ≤ 1000 := by
  intro x hx
  simp only [dpvS, List.mem_cons, List.not_mem_nil, or_false] at hx
  rcases hx with rfl | rfl | rfl | rfl | rfl | rfl | rfl | rfl | rfl | rfl | rfl <;> decide
set_option maxHeartbeats 1600000 in
theorem DrawParseVal_any (w : World) (A : Option Addr) (c : Nat) (cs : List UInt8) (hr : Reads w w.heap.size 1 A cs.length (byteCells cs)) (hl : cs.length ≤ 1099511627776) :
    Calls Tryd.prog 30 #[.slice A cs.length c] w fun e w' => ∃ s : ByteArray, e = .returned (.string s) ∧ s.size ≤ 1000 ∧ Below w.heap.size w w' := by
  go_enter Tryd.func30, Tryd.ntmps30
  go_wp2_with fail
  refine (l1New_any _ _ _ _ hr hl).mono ?_
  rintro e w1 ⟨p, rfl, hp, hc1, hb1⟩
  go_wp2_with fail
  refine (l1Once_any _ p hc1 2 (by omega) (by omega)).mono ?_
  rintro e w2 ⟨b, rfl, hc2, hg2⟩
  have hb2 := hb1.grown hg2 hb1.size (fun q hq => by have := Option.some.inj hq; omega)
  clear hb1 hg2 hc1
  cases b
  · go_wp2_with fail
    refine (l3Draw_any _ p hc2).mono ?_
    rintro e w3 ⟨v, rfl, hv, hc3, hg3⟩
    have hb3 := hb2.grown hg3 hb2.size (fun q hq => by have := Option.some.inj hq; omega)
    clear hb2 hg3 hc2 hc3
    go_wp2_with fail
    refine (spec_ValText _ v hv).mono ?_
    rintro e w4 ⟨rfl, hb4⟩
    have hb5 := hb3.trans (hb4.mono hb3.size)
    go_wp2
    go_ret
    exact ⟨_, rfl, Nat.le_trans (valText_size hv) (by omega), hb5⟩
  · go_wp2_with fail
    refine (l1Str_lit2 _ p hc2 9 11 dpvS rfl (by omega) (by omega) dpvS_size).mono ?_
    rintro e w3 ⟨x, rfl, hx, hc3, hg3⟩
    have hb3 := hb2.grown hg3 hb2.size (fun q hq => by have := Option.some.inj hq; omega)
    go_wp2
    go_ret
    exact ⟨x, rfl, hx, hb3⟩
set_option maxHeartbeats 1600000 in
theorem DrawSameVals_any (w : World) (A : Option Addr) (c : Nat) (cs : List UInt8) (hr : Reads w w.heap.size 1 A cs.length (byteCells cs)) (hl : cs.length ≤ 1099511627776) :
    Calls Tryd.prog 32 #[.slice A cs.length c] w fun e w' => ∃ (A1 A2 : Option Addr) (c1 c2 : Nat) (p q : List V), e = .returned (.tuple #[.slice A1 p.length c1, .slice A2 q.length c2]) ∧ p.length ≤ 3 ∧ q.length ≤ 3 ∧ (∀ v ∈ p, v.ok) ∧ (∀ v ∈ q, v.ok) ∧
      w'.ownsRow w.heap.size 28 3 (.slice A1 p.length c1) p.length (valCells p) ∧ w'.ownsRow w.heap.size 28 3 (.slice A2 q.length c2) q.length (valCells q) ∧ Below w.heap.size w w' := by
  obtain ⟨i0, hi0, hz0, hz1, hz2⟩ := info_parts info_Val
  go_enter Tryd.func32, Tryd.ntmps32
  go_wp2_with fail
  refine (l1New_any _ _ _ _ hr hl).mono ?_
  rintro e w1 ⟨p, rfl, hp, hc1, hb1⟩
  clear hr
  go_wp2_with fail
  refine (l1Below_any _ p hc1 2 (by omega) (by omega)).mono ?_
  rintro e w2 ⟨k, rfl, hk, hc2, hg2⟩
  have hb2 := hb1.grown hg2 hb1.size (fun q hq => by have := Option.some.inj hq; omega)
  clear hb1 hg2 hc1
  go_wp2_with fail
  refine (l3List_any _ p hc2 _ 3 (by omega)).mono ?_
  rintro e w3 ⟨A3, c3, vs, rfl, hvl, hvo, hown3, hc3, hg3⟩
  have hb3 := hb2.grown hg3 hb2.size (fun q hq => by have := Option.some.inj hq; omega)
  have hp3 := hc2.lt
  clear hg3 hc2
  go_wp2_with fail
  refine (l1Once_any _ p hc3 2 (by omega) (by omega)).mono ?_
  rintro e w4 ⟨b, rfl, hc4, hg4⟩
  have hb4 := hb3.grown hg4 hb3.size (fun q hq => by have := Option.some.inj hq; omega)
  have hown4 := own_cur hown3 hg4 hp3
  have hs2 := hb2.size
  clear hg4 hc3 hown3 hb3 hb2
  cases b
  · go_wp2_with fail
    refine (l1Below_any _ p hc4 2 (by omega) (by omega)).mono ?_
    rintro e w5 ⟨k2, rfl, hk2, hc5, hg5⟩
    have hb5 := hb4.grown hg5 hb4.size (fun q hq => by have := Option.some.inj hq; omega)
    have hown5 := own_cur hown4 hg5 hp3
    clear hg5 hc4 hown4 hb4
    go_wp2_with fail
    refine (l3List_any _ p hc5 _ 3 (by omega)).mono ?_
    rintro e w6 ⟨A6, c6, us, rfl, hul, huo, hown6, hc6, hg6⟩
    have hb6 := hb5.grown hg6 hb5.size (fun q hq => by have := Option.some.inj hq; omega)
    have hown7 := own_cur hown5 hg6 hp3
    have hown8 := own_lower (base' := w.heap.size) hown6 hb5.size
    replace hown7 := own_lower (base' := w.heap.size) hown7 hs2
    clear hg6 hc5 hown5 hb5 hown6 hc6
    go_wp2
    go_ret2
    exact ⟨_, _, _, _, vs, us, rfl, hvl, hul, hvo, huo, hown7, hown8, hb6⟩
  · have hr4 := own_reads hown4
    have hnil := own_nil hown4
    go_wp2_with (at_builtin; refine append_slice rfl (.tmp 16) (.tmp 17) 36 rfl w4.heap.size 28 i0 _ 3 32 Tryd.underlying36 hi0 hz0 hz1 hz2 rfl (by omega) (by omega) (some ⟨w4.heap.size, 0, none⟩) 0 0 _ rfl (own_empty (Nat.le_refl _)) w4.heap.size vs.length c3 A3 _ rfl hnil (hr4.alloc (Nat.le_refl _) _) (vcells_one _) (by simp) (by omega) (by omega) ?_; intro A5 c5 w5 hown5 hbl5)
    rw [Nat.zero_add, List.nil_append] at hown5
    have hbl6 : Below w4.heap.size w4 w5 := ((Below.refl _ _).alloc (Nat.le_refl _) _).trans hbl5
    have hb5 := hb4.trans (hbl6.mono hb4.size)
    have hown6 := own_lower (base' := w.heap.size) (own_step hown4 hbl6) hs2
    replace hown5 := own_lower (base' := w.heap.size) hown5 hb4.size
    clear hown4 hr4 hnil hbl5 hbl6 hb4 hc4
    go_wp2
    go_ret2
    exact ⟨_, _, _, _, vs, vs, rfl, hvl, hvl, hvo, hvo, hown6, hown5, hb5⟩
set_option maxHeartbeats 1600000 in
theorem DrawLessVal_any (w : World) (A : Option Addr) (c : Nat) (cs : List UInt8) (hr : Reads w w.heap.size 1 A cs.length (byteCells cs)) (hl : cs.length ≤ 1099511627776) :
    Calls Tryd.prog 31 #[.slice A cs.length c] w fun e w' => ∃ a b : V, e = .returned (.tuple #[.agg #[.int .i64 a.ty, .int .i64 a.n, .string a.s], .agg #[.int .i64 b.ty, .int .i64 b.n, .string b.s]]) ∧ a.ok ∧ b.ok ∧ Below w.heap.size w w' := by
  obtain ⟨W, hW⟩ : ∃ W, W = (w.alloc (.cells #[.int .i64 0, .int .i64 0, .string ⟨#[]⟩] 28)).alloc (.cells #[.int .i64 0, .int .i64 0, .string ⟨#[]⟩] 28) := ⟨_, rfl⟩
  have hbW : Below w.heap.size w W := by rw [hW]; exact Below.alloc0 (Below.alloc0 (Below.refl _ _) _) _
  have hR1 : Box W w.heap.size V0 := by rw [hW]; exact (Box.zero w).below ((Below.refl _ _).alloc (Nat.le_refl _) _)
  have hR2 : Box W (w.heap.size + 1) V0 := by
    rw [hW]
    have h := Box.zero (w.alloc (.cells #[.int .i64 0, .int .i64 0, .string ⟨#[]⟩] 28))
    have e : (w.alloc (.cells #[.int .i64 0, .int .i64 0, .string ⟨#[]⟩] 28)).heap.size = w.heap.size + 1 := by simp
    rw [e] at h
    exact h
  have hrW := (hr.below hbW (Nat.le_refl _)).more hbW.size
  have hsW : W.heap.size = w.heap.size + 2 := by rw [hW]; simp
  go_enter Tryd.func31, Tryd.ntmps31
  go_wp2_with fail
  rw [← hW]
  clear hW hr
  refine (l1New_any W _ _ _ hrW hl).mono ?_
  rintro e w1 ⟨p, rfl, hp, hc1, hb1⟩
  replace hR1 := hR1.below hb1
  replace hR2 := hR2.below hb1
  replace hb1 := hbW.trans (hb1.mono hbW.size)
  clear hbW hrW
  go_wp2_with fail
  refine (l3Any_any _ p hc1).mono ?_
  rintro e w2 ⟨a, rfl, ha, hc2, hg2⟩
  have hb2 := hb1.grown hg2 hb1.size (fun q hq => by have := Option.some.inj hq; omega)
  replace hR1 := hR1.grown hg2 (by omega)
  replace hR2 := hR2.grown hg2 (by omega)
  have hp2 := hc2.lt
  clear hg2 hc1 hb1
  obtain ⟨W2, hW2⟩ : ∃ W2, W2 = w2.alloc (.cells #[.int .i64 a.ty, .int .i64 a.n, .string a.s] 28) := ⟨_, rfl⟩
  have hbW2 : Below w2.heap.size w2 W2 := by rw [hW2]; exact (Below.refl _ _).alloc (Nat.le_refl _) _
  have hA : Box W2 w2.heap.size a := by rw [hW2]; exact Box.new w2 a
  replace hR1 := hR1.below hbW2
  replace hR2 := hR2.below hbW2
  have hcW := hc2.below hbW2
  replace hb2 := hb2.trans (hbW2.mono hb2.size)
  have hsW2 : W2.heap.size = w2.heap.size + 1 := by rw [hW2]; simp
  clear hbW2 hc2
  go_wp2_with fail
  rw [← hW2]
  clear hW2
  refine (l3Any_any _ p hcW).mono ?_
  rintro e w3 ⟨b, rfl, hb, hc3, hg3⟩
  have hb3 := hb2.grown hg3 hb2.size (fun q hq => by have := Option.some.inj hq; omega)
  replace hR1 := hR1.grown hg3 (by omega)
  replace hR2 := hR2.grown hg3 (by omega)
  replace hA := hA.grown hg3 (by omega)
  have hsz3 := hg3.size
  clear hg3 hcW hb2
  obtain ⟨W3, hW3⟩ : ∃ W3, W3 = w3.alloc (.cells #[.int .i64 b.ty, .int .i64 b.n, .string b.s] 28) := ⟨_, rfl⟩
  have hbW3 : Below w3.heap.size w3 W3 := by rw [hW3]; exact (Below.refl _ _).alloc (Nat.le_refl _) _
  have hB : Box W3 w3.heap.size b := by rw [hW3]; exact Box.new w3 b
  replace hR1 := hR1.below hbW3
  replace hR2 := hR2.below hbW3
  replace hA := hA.below hbW3
  have hcW := hc3.below hbW3
  replace hb3 := hb3.trans (hbW3.mono hb3.size)
  clear hbW3 hc3
  go_wp2_with fail
  rw [← hW3]
  clear hW3
  refine (l1Once_any _ p hcW 3 (by omega) (by omega)).mono ?_
  rintro e w4 ⟨t, rfl, hc4, hg4⟩
  have hb4 := hb3.grown hg4 hb3.size (fun q hq => by have := Option.some.inj hq; omega)
  replace hR1 := hR1.grown hg4 (by omega)
  replace hR2 := hR2.grown hg4 (by omega)
  replace hA := hA.grown hg4 (by omega)
  replace hB := hB.grown hg4 (by omega)
  clear hg4 hcW hb3 hc4
  cases t
  · go_wp2_with fail
    obtain ⟨p0, p1, p2, -, -, -⟩ := hA.cells
    obtain ⟨q0, q1, q2, -, -, -⟩ := hB.cells
    obtain ⟨x0, x1, x2, f0, f1, f2⟩ := hR1.cells
    obtain ⟨y0, y1, y2, g0, g1, g2⟩ := hR2.cells
    have hR1d : Box w4 w.heap.size V0 := hR1
    have hR2d : Box w4 (w.heap.size + 1) V0 := hR2
    have hRA := ((hR1d.set0 a.ty).set1 a.n).set2 a.s
    have hR2A := ((hR2d.grown (grown_set w4 w.heap.size 0 (.int .i64 a.ty)) (by omega)).grown (grown_set _ w.heap.size 1 (.int .i64 a.n)) (by omega)).grown (grown_set _ w.heap.size 2 (.string a.s)) (by omega)
    have hRB := ((hR2A.set0 b.ty).set1 b.n).set2 b.s
    have hRA2 := ((hRA.grown (grown_set _ (w.heap.size + 1) 0 (.int .i64 b.ty)) (by omega)).grown (grown_set _ (w.heap.size + 1) 1 (.int .i64 b.n)) (by omega)).grown (grown_set _ (w.heap.size + 1) 2 (.string b.s)) (by omega)
    have hbE := below_three (below_three hb4 (Nat.le_refl w.heap.size) (.int .i64 a.ty) (.int .i64 a.n) (.string a.s)) (b := w.heap.size + 1) (by omega) (.int .i64 b.ty) (.int .i64 b.n) (.string b.s)
    replace hbE := hbE.drew
    clear hA hB hR1 hR2 hR1d hR2d hRA hR2A hb4
    have n1 : w3.heap.size ≠ w.heap.size := by omega
    have n2 : w2.heap.size ≠ w.heap.size := by omega
    go_region
    go_wp2_with fail
    obtain ⟨r0, r1, r2, -, -, -⟩ := hRA2.cells
    obtain ⟨s0, s1, s2, -, -, -⟩ := hRB.cells
    exact bodyPost_ret (v := .tuple #[.agg #[.int .i64 a.ty, .int .i64 a.n, .string a.s], .agg #[.int .i64 b.ty, .int .i64 b.n, .string b.s]]) (by simp [results, Tryd.results31, go_sem, r0, r1, r2, s0, s1, s2]) rfl ⟨a, b, rfl, ha, hb, hbE⟩
  · obtain ⟨p0, p1, p2, -, -, -⟩ := hA.cells
    obtain ⟨q0, q1, q2, e0, e1, e2⟩ := hB.cells
    have hAc : Box ((w4.setCell ⟨w3.heap.size, 0, none⟩ (.int .i64 a.ty)).setCell ⟨w3.heap.size, 1, none⟩ (.int .i64 a.n)) w2.heap.size a := (hA.grown (grown_set _ _ _ _) (by omega)).grown (grown_set _ _ _ _) (by omega)
    obtain ⟨W5, hW5⟩ : ∃ W5, W5 = (w4.setCell ⟨w3.heap.size, 0, none⟩ (.int .i64 a.ty)).setCell ⟨w3.heap.size, 1, none⟩ (.int .i64 a.n) := ⟨_, rfl⟩
    have hlt3 : w.heap.size + 1 < w3.heap.size := by omega
    have hB5 : Box W5 w3.heap.size ⟨a.ty, a.n, b.s⟩ := by rw [hW5]; exact (hB.set0 a.ty).set1 a.n
    have hA5 : Box W5 w2.heap.size a := by rw [hW5]; exact hAc
    have hR15 : Box W5 w.heap.size V0 := by rw [hW5]; exact (hR1.grown (grown_set _ _ _ _) (by omega)).grown (grown_set _ _ _ _) (by omega)
    have hR25 : Box W5 (w.heap.size + 1) V0 := by rw [hW5]; exact (hR2.grown (grown_set _ _ _ _) (by omega)).grown (grown_set _ _ _ _) (by omega)
    have hb5 : Below w.heap.size w W5 := by rw [hW5]; exact (hb4.setCell (p := ⟨w3.heap.size, 0, none⟩) (by simp; omega) _).setCell (p := ⟨w3.heap.size, 1, none⟩) (by simp; omega) _
    clear hAc
    go_wp2_with fail
    rw [← hW5]
    clear hW5 p0 p1 p2 q0 q1 q2 e0 e1 e2 hA hB hR1 hR2
    have hA := hA5
    have hB := hB5
    have hR1 := hR15
    have hR2 := hR25
    clear hA5 hB5 hR15 hR25
    obtain ⟨p0, p1, p2, -, -, -⟩ := hA.cells
    obtain ⟨q0, q1, q2, -, -, -⟩ := hB.cells
    obtain ⟨x0, x1, x2, f0, f1, f2⟩ := hR1.cells
    obtain ⟨y0, y1, y2, g0, g1, g2⟩ := hR2.cells
    have hR1d : Box W5 w.heap.size V0 := hR1
    have hR2d : Box W5 (w.heap.size + 1) V0 := hR2
    have hRA := ((hR1d.set0 a.ty).set1 a.n).set2 a.s
    have hR2A := ((hR2d.grown (grown_set W5 w.heap.size 0 (.int .i64 a.ty)) (by omega)).grown (grown_set _ w.heap.size 1 (.int .i64 a.n)) (by omega)).grown (grown_set _ w.heap.size 2 (.string a.s)) (by omega)
    have hRB := ((hR2A.set0 a.ty).set1 a.n).set2 b.s
    have hRA2 := ((hRA.grown (grown_set _ (w.heap.size + 1) 0 (.int .i64 a.ty)) (by omega)).grown (grown_set _ (w.heap.size + 1) 1 (.int .i64 a.n)) (by omega)).grown (grown_set _ (w.heap.size + 1) 2 (.string b.s)) (by omega)
    have hbE := below_three (below_three hb5 (Nat.le_refl w.heap.size) (.int .i64 a.ty) (.int .i64 a.n) (.string a.s)) (b := w.heap.size + 1) (by omega) (.int .i64 a.ty) (.int .i64 a.n) (.string b.s)
    replace hbE := hbE.drew
    clear hA hB hR1 hR2 hR1d hR2d hRA hR2A hb5
    have n1 : w3.heap.size ≠ w.heap.size := by omega
    have n2 : w2.heap.size ≠ w.heap.size := by omega
    go_region
    go_wp2_with fail
    obtain ⟨r0, r1, r2, -, -, -⟩ := hRA2.cells
    obtain ⟨s0, s1, s2, -, -, -⟩ := hRB.cells
    exact bodyPost_ret (v := .tuple #[.agg #[.int .i64 a.ty, .int .i64 a.n, .string a.s], .agg #[.int .i64 a.ty, .int .i64 a.n, .string b.s]]) (by simp [results, Tryd.results31, go_sem, r0, r1, r2, s0, s1, s2]) rfl ⟨a, ⟨a.ty, a.n, b.s⟩, rfl, ha, ⟨ha.1, ha.2.1, hb.2.2⟩, hbE⟩
end Go.Proofs.YtgpimlmolcjeoaaDoor
