/-
  The walk of the law FnNumsBent: the Go function returns true, and leaves what it was handed as it was.
-/
import Derived.Test.YtkgkommlfceneaaDgn
import Derived.Test.YtkgkommlfceneaaGetp
namespace Go.Proofs.Ytkgkommlfceneaa.fnNumsBent
open Go.RowKit
set_option linter.unusedVariables false

theorem own_cap' {w : World} {base size n c : Nat} {e : TypeId} {A : Option Addr} {xs : List Value} (h : w.ownsRow base e size (.slice A n c) n xs) : n ≤ c := by
  rcases own_some h with ⟨_, h1, h2⟩ | ⟨g, _, h1⟩
  · omega
  · exact h1
set_option maxRecDepth 100000 in
set_option maxHeartbeats 1600000 in
theorem walk (w : World) (A0 : Option Addr) (c0 : Nat) (a0 : List UInt8) (hc0 : a0.length ≤ c0) (hm0 : c0 ≤ maxLen) (hr0 : Reads w w.heap.size 1 A0 a0.length (byteCells a0)) :
    Calls Try.prog 10 #[.slice A0 a0.length c0] w fun e w' => e = .returned (.bool true) ∧ Below w.heap.size w w' := by
  have hmx : a0.length ≤ maxLen := Nat.le_trans hc0 hm0
  unfold maxLen at hmx
  by_cases hbig : 1048576 < (a0.length : Int)
  · go_enter Try.func10, Try.ntmps10
    go_wp2_with fail
    refine (big_any _ _ _ _).mono ?_
    rintro e w1 ⟨rfl, rfl⟩
    rw [decide_eq_true hbig]
    go_wp2
    go_ret
    exact ⟨rfl, Below.refl _ _⟩
  have hlen : a0.length ≤ 1048576 := by omega
  go_enter Try.func10, Try.ntmps10
  go_wp2_with fail
  refine (big_any _ _ _ _).mono ?_
  rintro e w1 ⟨rfl, rfl⟩
  rw [decide_eq_false (show ¬ 1048576 < (a0.length : Int) by omega)]
  clear hbig
  go_wp2_with fail
  refine (DrawGetNum_any _ _ _ _ hr0 (by omega)).mono ?_
  rintro e w1 ⟨Ab, cb, b, n, rfl, hb2, hn, hob, hbl1⟩
  go_wp2_with fail
  refine (impl_GetNum _ _ _ b (own_reads hob) (by omega) n hn).mono ?_
  rintro e w2 ⟨rfl, hb_2⟩
  have hbl2 := hbl1.trans (hb_2.mono hbl1.size)
  replace hob := own_step hob hb_2
  clear hb_2
  go_wp2_with fail
  refine (spec_GetNum _ _ _ b (own_reads hob) (by omega) n hn).mono ?_
  rintro e w3 ⟨rfl, hb_3⟩
  have hbl3 := hbl2.trans (hb_3.mono hbl2.size)
  replace hob := own_step hob hb_3
  clear hb_3
  go_wp2_with fail
  refine (DrawZagZig_any _ _ _ a0 ((hr0.below hbl3 (Nat.le_refl _)).more hbl3.size) (by omega)).mono ?_
  rintro e w4 ⟨z, rfl, hz, hb_4⟩
  have hbl4 := hbl3.trans (hb_4.mono hbl3.size)
  replace hob := own_step hob hb_4
  clear hb_4
  go_wp2_with fail
  refine (DrawZigZag_any _ _ _ a0 ((hr0.below hbl4 (Nat.le_refl _)).more hbl4.size) (by omega)).mono ?_
  rintro e w5 ⟨y, rfl, hy, hb_5⟩
  have hbl5 := hbl4.trans (hb_5.mono hbl4.size)
  replace hob := own_step hob hb_5
  clear hb_5 hr0
  have hcase : gnOk b n = false ∨ ∃ p q : Nat, n = (p : Int) ∧ gnP b n = (q : Int) ∧ gnOk b n = true ∧ p < q ∧ q ≤ b.length ∧ putNum (b.take p) (gnN b n) = b.take q := by
    cases hg : getNum b n with
    | none => exact .inl (by simp [gnOk, hg])
    | some r =>
      obtain ⟨m, q⟩ := r
      obtain ⟨p, rfl⟩ := Int.eq_ofNat_of_zero_le (getNum_neg hg)
      obtain ⟨h1, h2, h3, h4⟩ := getNum_put hg
      exact .inr ⟨p, q, rfl, by simp [gnP, hg], by simp [gnOk, hg], h1, h2, by simpa [gnN, hg] using h4⟩
  generalize gnN b n = N at hcase ⊢
  generalize gnP b n = P at hcase ⊢
  generalize gnOk b n = O at hcase ⊢
  rcases hcase with rfl | ⟨p, q, rfl, rfl, rfl, hpq, hql, hput⟩
  · go_wp2_with (first | (go_at_call 51; refine (impl_ZagZig _ _).mono ?_; rintro e w9 ⟨rfl, rfl⟩) | (go_at_call 57; refine (spec_ZagZig _ _).mono ?_; rintro e w9 ⟨rfl, rfl⟩) | (go_at_call 52; refine (impl_ZigZag _ _).mono ?_; rintro e w9 ⟨rfl, rfl⟩) | (go_at_call 58; refine (spec_ZigZag _ _).mono ?_; rintro e w9 ⟨rfl, rfl⟩))
    go_quiet (fail)
    all_goals go_wp2
    go_ret
    exact ⟨rfl, below_drewN hbl5 _⟩
  · obtain ⟨g, cap, hv, hg, hgl⟩ := hob.form (by omega)
    obtain ⟨rfl, rfl⟩ : Ab = some ⟨g, 0, none⟩ ∧ cb = cap := by injection hv with h1 h2 h3; exact ⟨h1, h3⟩
    have hcap := own_cap' hob
    clear hv
    have hX0 := own_shrink hob (show p ≤ b.length by omega)
    have hY0 := own_shrink hob hql
    rw [show (byteCells b).take p = byteCells (b.take p) by simp [byteCells, List.map_take]] at hX0
    rw [show (byteCells b).take q = byteCells (b.take q) by simp [byteCells, List.map_take]] at hY0
    have hXl : (b.take p).length = p := by simp; omega
    have hYl : (b.take q).length = q := by simp; omega
    generalize b.take p = X at hput hX0 hXl
    generalize b.take q = Y at hput hY0 hYl
    subst hXl
    subst hYl
    have hP := Lib.hid hput
    have hX1 : w5.drew.ownsRow w.heap.size 5 1 (.slice (some ⟨g, 0, none⟩) X.length cb) X.length (byteCells X) := hX0
    have hY1 : w5.drew.ownsRow w.heap.size 5 1 (.slice (some ⟨g, 0, none⟩) Y.length cb) Y.length (byteCells Y) := hY0
    clear hput hX0 hY0 hob
    go_wp2_with (first | (go_at_call 51; refine (impl_ZagZig _ _).mono ?_; rintro e w9 ⟨rfl, rfl⟩) | (go_at_call 57; refine (spec_ZagZig _ _).mono ?_; rintro e w9 ⟨rfl, rfl⟩) | (go_at_call 52; refine (impl_ZigZag _ _).mono ?_; rintro e w9 ⟨rfl, rfl⟩) | (go_at_call 58; refine (spec_ZigZag _ _).mono ?_; rintro e w9 ⟨rfl, rfl⟩))
    have k0 : (0 : Int) ≤ (X.length : Int) := by omega
    have k1 : (0 : Int) ≤ (Y.length : Int) := by omega
    have k2 : (X.length : Int) ≤ (cb : Int) := by omega
    have k3 : (Y.length : Int) ≤ (cb : Int) := by omega
    have k4 : (X.length : Int) ≤ (b.length : Int) := by omega
    have k5 : (Y.length : Int) ≤ (b.length : Int) := by omega
    go_region_held3 (fun w' => w5.heap.size ≤ w'.heap.size ∧ Below w5.heap.size w5 w')
      (first
        | (exact ⟨Nat.le_refl _, (Below.refl _ _).drew⟩)
        | (go_split_ands
           exact ⟨Nat.le_trans hb6.size hb7.size, Below.trans (Below.trans (Below.drew (Below.refl w5.heap.size w5)) hb6) (hb7.mono hb6.size)⟩)
        | (go_split_ands
           exact ⟨hb6.size, Below.trans (Below.drew (Below.refl w5.heap.size w5)) hb6⟩))
      (first
        | (go_at_call 46; refine (impl_PutNum _ _ _ _ (own_reads hX1) (fun h => by cases h) (by omega) _).mono ?_; rintro e w6 ⟨A6, c6, rfl, hown6, hb6⟩; rw [hP.out] at hown6 ⊢)
        | (go_at_call 47; refine (same_same _ _ _ _ _ _ (own_reads hown6) (own_reads (own_step hY1 hb6)) (by omega)).mono ?_; rintro e w7 ⟨rfl, hb7⟩))
    all_goals
      have hbl6 := hbl5.trans ((((Below.refl w5.heap.size w5).drew).trans hb6).mono hbl5.size)
      have hbl7 := hbl6.trans (hb7.mono hbl6.size)
      go_wp2
      go_ret
      exact ⟨rfl, hbl7⟩
end Go.Proofs.Ytkgkommlfceneaa.fnNumsBent
