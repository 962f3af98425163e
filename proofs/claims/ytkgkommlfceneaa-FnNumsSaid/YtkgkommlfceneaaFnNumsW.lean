/-
  The walk of the law FnNums: the Go function returns true, and leaves what it was handed as it was.
-/
import Derived.Test.YtkgkommlfceneaaDrawn
namespace Go.Proofs.Ytkgkommlfceneaa.fnNums
open Go.RowKit
set_option linter.unusedVariables false

set_option maxRecDepth 100000 in
set_option maxHeartbeats 1600000 in
theorem walk (w : World) (A0 : Option Addr) (c0 : Nat) (a0 : List UInt8) (hc0 : a0.length ≤ c0) (hm0 : c0 ≤ maxLen) (hr0 : Reads w w.heap.size 1 A0 a0.length (byteCells a0)) :
    Calls Try.prog 9 #[.slice A0 a0.length c0] w fun e w' => e = .returned (.bool true) ∧ Below w.heap.size w w' := by
  obtain ⟨i0, hi0, hz0, hz1, hz2⟩ := info_parts info_Byte
  have hmx : a0.length ≤ maxLen := Nat.le_trans hc0 hm0
  unfold maxLen at hmx
  by_cases hbig : 1048576 < (a0.length : Int)
  · go_enter Try.func9, Try.ntmps9
    go_wp2_with fail
    refine (big_any _ _ _ _).mono ?_
    rintro e w1 ⟨rfl, rfl⟩
    rw [decide_eq_true hbig]
    go_wp2
    go_ret
    exact ⟨rfl, Below.refl _ _⟩
  have hlen : a0.length ≤ 1048576 := by omega
  go_enter Try.func9, Try.ntmps9
  go_wp2_with fail
  refine (big_any _ _ _ _).mono ?_
  rintro e w1 ⟨rfl, rfl⟩
  rw [decide_eq_false (show ¬ 1048576 < (a0.length : Int) by omega)]
  clear hbig
  go_wp2_with fail
  refine (DrawPutNum_any _ _ _ _ hr0 (by omega)).mono ?_
  rintro e w1 ⟨Ab, cb, b, n, rfl, hb2, hn, hob, hbl1⟩
  go_wp2_with fail
  refine (impl_PutNum _ _ _ _ (own_reads hob) (own_nil hob) (by omega) n).mono ?_
  rintro e w2 ⟨Ax, cx, rfl, hox, hb_2⟩
  have hbl2 := hbl1.trans (hb_2.mono hbl1.size)
  replace hob := own_step hob hb_2
  clear hb_2
  go_wp2_with fail
  refine (spec_PutNum _ _ _ _ (own_reads hob) (own_nil hob) (by omega) n).mono ?_
  rintro e w3 ⟨Ay, cy, rfl, hoy, hb_3⟩
  have hbl3 := hbl2.trans (hb_3.mono hbl2.size)
  replace hob := own_step hob hb_3
  replace hox := own_step hox hb_3
  have hlx := putNum_len b n
  clear hb_3
  go_wp2_with fail
  refine (same_same _ _ _ _ _ _ (own_reads hox) (own_reads hoy) (by omega)).mono ?_
  rintro e w4 ⟨rfl, hb_4⟩
  have hbl4 := hbl3.trans (hb_4.mono hbl3.size)
  replace hob := own_step hob hb_4
  replace hox := own_step hox hb_4
  clear hb_4 hoy
  cases hin : inB n (-1000000000) 1000000000
  · have hbad := putNum_bad (bs := b) hin
    have hnot := inB_not.1 hin
    rw [hbad] at hox ⊢
    clear hin hbad hlx
    rcases (show n < -1000000000 ∨ (¬ n < -1000000000 ∧ 1000000000 < n) by omega) with h1 | ⟨h1, h2⟩
    all_goals
      clear hnot
      go_wp2_with fail
      refine (same_same _ _ _ _ _ _ (own_reads hox) (own_reads hob) (by omega)).mono ?_
      rintro e w5 ⟨rfl, hb_5⟩
      have hbl5 := hbl4.trans (hb_5.mono hbl4.size)
      clear hb_5 hbl4
      go_wp2
      go_ret
      exact ⟨rfl, hbl5⟩
  have hnin := inB_iff.1 hin
  have hz := Lib.hid (zag_zig hin)
  have hback := fun rest => getNum_back (b := b) (rest := rest) hin
  obtain ⟨x, hx⟩ : ∃ x, x = putNum b n := ⟨_, rfl⟩
  rw [← hx] at hox hlx hback ⊢
  have HB := Lib.hid hback
  have hpl : b.length ≤ x.length := by rw [hx, putNum_good hin, List.length_append]; omega
  clear hx hback hin hob
  go_wp2_with (at_builtin; first
    | (refine append_slice rfl (.tmp 35) (.tmp 36) 34 rfl w4.heap.size 5 i0 _ 1 1 Try.underlying34 hi0 hz0 hz1 hz2 rfl (by omega) (by omega) (some ⟨w4.heap.size, 0, none⟩) 0 0 _ rfl (own_empty (Nat.le_refl _)) w4.heap.size x.length cx Ax _ rfl (own_nil hox) ((own_reads hox).alloc (Nat.le_refl _) _) (byteCells_one' _) (by simp) (by omega) (by omega) ?_; intro A5 c5 w5 ho5 hb_5))
  rw [Nat.zero_add, List.nil_append] at ho5
  have hb5' : Below w4.heap.size w4 w5 := (Below.alloc0 (Below.refl _ _) _).trans hb_5
  have hbl5 := hbl4.trans (hb5'.mono hbl4.size)
  have hz45 := hb5'.size
  clear hb_5 hb5' hox
  refine (at_any _ _ _ _ ((hr0.below hbl5 (Nat.le_refl _)).more hbl5.size) hlen 3 (by omega)).mono ?_
  rintro e w6 ⟨y, rfl, hy, rfl⟩
  obtain ⟨X, hX⟩ : ∃ X, X = x ++ [UInt8.ofNat y] := ⟨_, rfl⟩
  have hXl : x.length + 1 = X.length := by rw [hX]; simp
  have hg : getNum X (b.length : Int) = some (n, x.length) := by rw [hX]; exact HB.out _
  have hgn := Lib.hid (show gnN X (b.length : Int) = n ∧ gnP X (b.length : Int) = (x.length : Int) ∧ gnOk X (b.length : Int) = true by simp [gnN, gnP, gnOk, hg])
  have HXl := Lib.hid hXl
  have HX := Lib.hid hX
  have hXb : X.length ≤ 1000000000 := by omega
  clear HB hg hXl hX hr0
  go_wp2_with (at_builtin; refine append_one rfl (.tmp 37) (.tmp 41) 34 rfl w4.heap.size 5 i0 _ 1 1 Try.underlying34 hi0 hz0 hz1 hz2 rfl (by omega) (by omega) A5 x.length c5 _ rfl ho5 [.int .u8 (y : Int)] _ rfl (by first | rfl | simp) rfl (by simp [Value.oneCell']) hz45 (by omega) ?_; intro A6 c6 w7 ho6 hb_6)
  rw [byteCells_last _ _ (by omega), ← HX.out, HXl.out] at ho6
  rw [HXl.out]
  have hbl7 := hbl5.trans (hb_6.mono hbl4.size)
  clear ho5 hb_6
  refine (impl_GetNum _ _ _ X (own_reads ho6) (by omega) (b.length : Int) ⟨by omega, by omega⟩).mono ?_
  rintro e w8 ⟨rfl, hb_8⟩
  have hbl8 := hbl7.trans (hb_8.mono hbl7.size)
  rw [hgn.out.1, hgn.out.2.1, hgn.out.2.2]
  clear hb_8 ho6 hbl7 hbl5
  go_wp2_with (first | (go_at_call 52; refine (impl_ZigZag _ _).mono ?_; rintro e w9 ⟨rfl, rfl⟩) | (go_at_call 51; refine (impl_ZagZig _ _).mono ?_; rintro e w9 ⟨rfl, rfl⟩; rw [hz.out]))
  go_ret
  exact ⟨rfl, hbl8⟩

end Go.Proofs.Ytkgkommlfceneaa.fnNums
