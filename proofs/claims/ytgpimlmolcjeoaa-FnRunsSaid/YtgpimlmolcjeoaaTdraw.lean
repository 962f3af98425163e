/-
  Contracts of the draws of bytes and their types and counts.
-/
import Derived.Test.YtgpimlmolcjeoaaLdraw
import Derived.Test.YtgpimlmolcjeoaaBent
import Derived.Test.YtgpimlmolcjeoaaEncr
namespace Go.Proofs.Ytgpimlmolcjeoaa
open Go.RowKit
set_option linter.unusedVariables false
set_option maxRecDepth 100000

theorem l5Type_any (w : World) (p : Nat) (hc : Cur w p) (A : Option Addr) (c : Nat) (vs : List V) (hr : Reads w w.heap.size 3 A vs.length (valCells vs)) (h1 : 1 ≤ vs.length) (h2 : vs.length ≤ 1000) (hvo : ∀ v ∈ vs, v.ok) :
    Calls Try.prog 68 #[.pointer (some ⟨p, 0, none⟩), .slice A vs.length c] w fun e w' => ∃ ty k : Int, e = .returned (.tuple #[.int .i64 ty, .int .i64 k]) ∧ I64 ty ∧ I64 k ∧ Cur w' p ∧ w.grownBy w' (some p) := by
  obtain ⟨b, off, x, rfl, hb, hx, hc0, hc1, hc2⟩ := hr.v (k := 0) (by omega)
  have hxo := hvo x (List.mem_of_getElem? hx.out)
  rw [show off + 0 * 3 = off by omega] at hc0
  clear hr hc1 hc2 hvo hx
  go_enter Try.func68, Try.ntmps68
  go_wp2_with fail
  refine (l1Below_any _ p hc 8 (by omega) (by omega)).mono ?_
  rintro e w1 ⟨k, rfl, hk, hc1, hg1⟩
  clear hc hc0
  rcases (show k = 0 ∨ k = 1 ∨ (k ≠ 0 ∧ k ≠ 1) by omega) with rfl | rfl | ⟨k0, k1⟩
  · go_wp2_with fail
    refine (l1Below_any _ p hc1 4 (by omega) (by omega)).mono ?_
    rintro e w2 ⟨t, rfl, ht, hc2, hg2⟩
    go_wp2
    go_ret2
    exact ⟨_, _, rfl, ⟨by omega, by omega⟩, ⟨by omega, by omega⟩, hc2, hg1.trans hg2⟩
  · go_wp2_with fail
    refine (l1Int_lit w1 p hc1 3 5 [0, (vs.length : Int) + 1, (vs.length : Int) - 1, 65, -1] rfl (by omega) (by omega) ?_).mono ?_
    · intro y hy
      simp only [List.mem_cons, List.not_mem_nil, or_false] at hy
      unfold I64
      omega
    rintro e w2 ⟨t, rfl, ht, hc2, hg2⟩
    go_wp2
    go_ret2
    exact ⟨_, _, rfl, hxo.1, ht, hc2, hg1.trans hg2⟩
  · have b0 : ((k : Int) == 0) = false := beq_eq_false_iff_ne.2 (by omega)
    have b1 : ((k : Int) == 1) = false := beq_eq_false_iff_ne.2 (by omega)
    clear k0 k1
    go_wp2
    go_ret2
    exact ⟨_, _, rfl, hxo.1, ⟨by omega, by omega⟩, hc1, hg1⟩
theorem DrawDecPlain_any (w : World) (A : Option Addr) (c : Nat) (cs : List UInt8) (hr : Reads w w.heap.size 1 A cs.length (byteCells cs)) (hl : cs.length ≤ 1099511627776) :
    Calls Try.prog 30 #[.slice A cs.length c] w fun e w' => ∃ (A' : Option Addr) (c' : Nat) (bs : List UInt8) (ty k : Int), e = .returned (.tuple #[.slice A' bs.length c', .int .i64 ty, .int .i64 k]) ∧ bs.length ≤ 100000 ∧ I64 ty ∧ I64 k ∧
      w'.ownsRow w.heap.size 5 1 (.slice A' bs.length c') bs.length (byteCells bs) ∧ Below w.heap.size w w' := by
  go_enter Try.func30, Try.ntmps30
  go_wp2_with fail
  refine (l1New_any _ _ _ _ hr hl).mono ?_
  rintro e w1 ⟨p, rfl, hp, hc1, hb1⟩
  go_wp2_with fail
  refine (l5Draw_any _ p hc1).mono ?_
  rintro e w2 ⟨A2, c2, vs, rfl, hl1, hl2, hvo, hown2, hc2, hg2⟩
  have hb2 := hb1.grown hg2 hb1.size (fun q hq => by have := Option.some.inj hq; omega)
  have hp1 := hc1.lt
  clear hr hc1 hb1 hg2
  go_wp2_with fail
  refine (l5Type_any _ p hc2 _ _ vs (own_reads hown2) hl1 (by omega) hvo).mono ?_
  rintro e w3 ⟨ty, k, rfl, hty, hk, hc3, hg3⟩
  have hb3 := hb2.grown hg3 hb2.size (fun q hq => by have := Option.some.inj hq; omega)
  have hown3 := own_cur hown2 hg3 hp1
  clear hc2 hb2 hg3 hown2
  go_wp2_with fail
  refine (spec_EncPlain _ _ _ vs (own_reads hown3) (by omega) hvo).mono ?_
  rintro e w4 ⟨A4, c4, rfl, hown4, hb_4⟩
  have hc4 := hc3.below hb_4
  have hb4 := hb3.trans (hb_4.mono hb3.size)
  have hel := encPlain_len vs
  clear hb_4 hc3 hb3 hown3
  go_wp2_with fail
  refine (l1Bent_any _ p hc4 _ _ (encPlain vs) (own_reads hown4) (own_nil hown4) (by omega)).mono ?_
  rintro e w5 ⟨A5, c5, qs, rfl, hql, hown5, hc5, hg5⟩
  have hb5 := hb4.grown hg5 hb4.size (fun q hq => by have := Option.some.inj hq; omega)
  have hown6 := own_lower hown5 hb4.size
  clear hc4 hg5 hown4 hown5
  go_wp2
  go_ret3
  exact ⟨_, _, qs, ty, k, rfl, by omega, hty, hk, hown6, hb5⟩
theorem DrawDecRuns_any (w : World) (A : Option Addr) (c : Nat) (cs : List UInt8) (hr : Reads w w.heap.size 1 A cs.length (byteCells cs)) (hl : cs.length ≤ 1099511627776) :
    Calls Try.prog 38 #[.slice A cs.length c] w fun e w' => ∃ (A' : Option Addr) (c' : Nat) (bs : List UInt8) (ty k : Int), e = .returned (.tuple #[.slice A' bs.length c', .int .i64 ty, .int .i64 k]) ∧ bs.length ≤ 100000 ∧ I64 ty ∧ I64 k ∧
      w'.ownsRow w.heap.size 5 1 (.slice A' bs.length c') bs.length (byteCells bs) ∧ Below w.heap.size w w' := by
  go_enter Try.func38, Try.ntmps38
  go_wp2_with fail
  refine (l1New_any _ _ _ _ hr hl).mono ?_
  rintro e w1 ⟨p, rfl, hp, hc1, hb1⟩
  go_wp2_with fail
  refine (l5Draw_any _ p hc1).mono ?_
  rintro e w2 ⟨A2, c2, vs, rfl, hl1, hl2, hvo, hown2, hc2, hg2⟩
  have hb2 := hb1.grown hg2 hb1.size (fun q hq => by have := Option.some.inj hq; omega)
  have hp1 := hc1.lt
  clear hr hc1 hb1 hg2
  go_wp2_with fail
  refine (l5Type_any _ p hc2 _ _ vs (own_reads hown2) hl1 (by omega) hvo).mono ?_
  rintro e w3 ⟨ty, k, rfl, hty, hk, hc3, hg3⟩
  have hb3 := hb2.grown hg3 hb2.size (fun q hq => by have := Option.some.inj hq; omega)
  have hown3 := own_cur hown2 hg3 hp1
  clear hc2 hb2 hg3 hown2
  go_wp2_with fail
  refine (spec_EncRuns _ _ _ vs (own_reads hown3) (by omega) hvo).mono ?_
  rintro e w4 ⟨A4, c4, rfl, hown4, hb_4⟩
  have hc4 := hc3.below hb_4
  have hb4 := hb3.trans (hb_4.mono hb3.size)
  have hel := encRuns_len vs
  clear hb_4 hc3 hb3 hown3
  go_wp2_with fail
  refine (l1Bent_any _ p hc4 _ _ (encRuns vs) (own_reads hown4) (own_nil hown4) (by omega)).mono ?_
  rintro e w5 ⟨A5, c5, qs, rfl, hql, hown5, hc5, hg5⟩
  have hb5 := hb4.grown hg5 hb4.size (fun q hq => by have := Option.some.inj hq; omega)
  have hown6 := own_lower hown5 hb4.size
  clear hc4 hg5 hown4 hown5
  go_wp2
  go_ret3
  exact ⟨_, _, qs, ty, k, rfl, by omega, hty, hk, hown6, hb5⟩
theorem DrawGetVal_any (w : World) (A : Option Addr) (c : Nat) (cs : List UInt8) (hr : Reads w w.heap.size 1 A cs.length (byteCells cs)) (hl : cs.length ≤ 1099511627776) :
    Calls Try.prog 33 #[.slice A cs.length c] w fun e w' => ∃ (A' : Option Addr) (c' : Nat) (bs : List UInt8) (i ty : Int), e = .returned (.tuple #[.slice A' bs.length c', .int .i64 i, .int .i64 ty]) ∧ bs.length ≤ 1000 ∧ I64 i ∧ I64 ty ∧
      w'.ownsRow w.heap.size 5 1 (.slice A' bs.length c') bs.length (byteCells bs) ∧ Below w.heap.size w w' := by
  go_enter Try.func33, Try.ntmps33
  go_wp2_with fail
  refine (l1New_any _ _ _ _ hr hl).mono ?_
  rintro e w1 ⟨p, rfl, hp, hc1, hb1⟩
  go_wp2_with fail
  refine (l3Draw_any _ p hc1).mono ?_
  rintro e w2 ⟨v, rfl, hv, hc2, hg2⟩
  have hb2 := hb1.grown hg2 hb1.size (fun q hq => by have := Option.some.inj hq; omega)
  have hp2 := hc2.lt
  clear hr hc1 hb1 hg2
  obtain ⟨W, hW⟩ : ∃ W, W = w2.alloc (.cells #[.int .i64 v.ty, .int .i64 v.n, .string v.s] 37) := ⟨_, rfl⟩
  have hbx : Box W w2.heap.size v := by rw [hW]; exact Box.new w2 v
  have hcW : Cur W p := by rw [hW]; exact hc2.alloc _
  have hbW : Below w.heap.size w W := by rw [hW]; exact hb2.alloc hb2.size _
  have hne : w2.heap.size ≠ p := by omega
  obtain ⟨B, hB⟩ : ∃ B, B = w2.heap.size := ⟨_, rfl⟩
  have hBw : w.heap.size ≤ B := by have := hb2.size; omega
  obtain ⟨q0, q1, q2, f0, f1, f2⟩ := hbx.cells
  go_wp2_with fail
  rw [← hW]
  rw [← hB] at hbx hne ⊢
  clear hW hc2 hb2 q0 q1 q2 f0 f1 f2 hB
  refine (l1Once_any _ p hcW 6 (by omega) (by omega)).mono ?_
  rintro e w3 ⟨b, rfl, hc3, hg3⟩
  replace hbx := hbx.grown hg3 hne
  have hb3 := hbW.grown hg3 hbW.size (fun q hq => by have := Option.some.inj hq; omega)
  clear hcW hg3 hbW
  cases b
  · have hty := hv.1
    have hc4 := hc3
    have hb4 := hb3
    have hbx4 := hbx
    clear hc3 hb3 hbx
    have hownE := own_empty (w := w3) (base := w.heap.size) (e := 5) (size := 1) hb4.size
    obtain ⟨q0, q1, q2, f0, f1, f2⟩ := (hbx4.below ((Below.refl _ w3).alloc (Nat.le_refl _) (.cells #[] 5))).cells
    have hc4a := hc4.alloc (.cells #[] 5)
    have hb4a := hb4.alloc hb4.size (.cells #[] 5)
    go_wp2_with fail
    refine (spec_PutVal _ _ _ [] (own_reads hownE) (own_nil hownE) (by simp) v hv).mono ?_
    rintro e w5 ⟨A5, c5, rfl, hown5, hb_5⟩
    have hc5 := hc4a.below hb_5
    have hb5 := hb4a.trans (hb_5.mono hb4a.size)
    have hpl := putVal_len [] v
    clear hb_5 hb4 hb4a hc4 hc4a hownE q0 q1 q2 f0 f1 f2 hbx4
    go_wp2_with fail
    refine (l1Bent_any _ p hc5 _ _ (putVal [] v) (own_reads hown5) (own_nil hown5) (by simp at hpl; omega)).mono ?_
    rintro e w6 ⟨A6, c6, qs, rfl, hql, hown6, hc6, hg6⟩
    have hb6 := hb5.grown hg6 hb5.size (fun q hq => by have := Option.some.inj hq; omega)
    have hp5 := hc5.lt
    clear hg6 hc5 hown5
    go_wp2_with fail
    refine (l1Int_lit w6 p hc6 3 7 [0, 0, 0, 0, 1, -1, 9] rfl (by omega) (by omega) (by simp [I64])).mono ?_
    rintro e w7 ⟨i, rfl, hi, hc7, hg7⟩
    have hb7 := hb6.grown hg7 hb6.size (fun q hq => by have := Option.some.inj hq; omega)
    have hown7 := own_lower (own_cur hown6 hg7 hp5) hb5.size
    go_wp2
    go_ret3
    exact ⟨_, _, qs, i, v.ty, rfl, by simp at hpl; omega, hi, hty, hown7, hb7⟩
  · go_wp2_with fail
    refine (l1Below_any _ p hc3 4 (by omega) (by omega)).mono ?_
    rintro e w4 ⟨t, rfl, ht, hc4, hg4⟩
    have hbx4 := hbx.grown hg4 hne
    have hb4 := hb3.grown hg4 hb3.size (fun q hq => by have := Option.some.inj hq; omega)
    have hty : I64 (t : Int) := ⟨by omega, by omega⟩
    clear hc3 hg4 hb3 hbx
    have hownE := own_empty (w := w4) (base := w.heap.size) (e := 5) (size := 1) hb4.size
    obtain ⟨q0, q1, q2, f0, f1, f2⟩ := (hbx4.below ((Below.refl _ w4).alloc (Nat.le_refl _) (.cells #[] 5))).cells
    have hc4a := hc4.alloc (.cells #[] 5)
    have hb4a := hb4.alloc hb4.size (.cells #[] 5)
    go_wp2_with fail
    refine (spec_PutVal _ _ _ [] (own_reads hownE) (own_nil hownE) (by simp) v hv).mono ?_
    rintro e w5 ⟨A5, c5, rfl, hown5, hb_5⟩
    have hc5 := hc4a.below hb_5
    have hb5 := hb4a.trans (hb_5.mono hb4a.size)
    have hpl := putVal_len [] v
    clear hb_5 hb4 hb4a hc4 hc4a hownE q0 q1 q2 f0 f1 f2 hbx4
    go_wp2_with fail
    refine (l1Bent_any _ p hc5 _ _ (putVal [] v) (own_reads hown5) (own_nil hown5) (by simp at hpl; omega)).mono ?_
    rintro e w6 ⟨A6, c6, qs, rfl, hql, hown6, hc6, hg6⟩
    have hb6 := hb5.grown hg6 hb5.size (fun q hq => by have := Option.some.inj hq; omega)
    have hp5 := hc5.lt
    clear hg6 hc5 hown5
    go_wp2_with fail
    refine (l1Int_lit w6 p hc6 3 7 [0, 0, 0, 0, 1, -1, 9] rfl (by omega) (by omega) (by simp [I64])).mono ?_
    rintro e w7 ⟨i, rfl, hi, hc7, hg7⟩
    have hb7 := hb6.grown hg7 hb6.size (fun q hq => by have := Option.some.inj hq; omega)
    have hown7 := own_lower (own_cur hown6 hg7 hp5) hb5.size
    go_wp2
    go_ret3
    exact ⟨_, _, qs, i, (t : Int), rfl, by simp at hpl; omega, hi, hty, hown7, hb7⟩

end Go.Proofs.Ytgpimlmolcjeoaa
