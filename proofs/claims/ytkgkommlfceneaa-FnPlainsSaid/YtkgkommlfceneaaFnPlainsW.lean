/-
  The walk of the law FnPlains: the Go function returns true, and leaves what it was handed as it was.
-/
import Derived.Test.YtkgkommlfceneaaLdraw
import Derived.Test.YtkgkommlfceneaaSamev
import Derived.Test.YtkgkommlfceneaaBackp
import Derived.Test.YtkgkommlfceneaaDeci
namespace Go.Proofs.Ytkgkommlfceneaa.fnPlains
open Go.RowKit
set_option linter.unusedVariables false

set_option maxRecDepth 100000 in
set_option maxHeartbeats 3200000 in
theorem walk (w : World) (A0 : Option Addr) (c0 : Nat) (a0 : List UInt8) (hc0 : a0.length ≤ c0) (hm0 : c0 ≤ maxLen) (hr0 : Reads w w.heap.size 1 A0 a0.length (byteCells a0)) :
    Calls Try.prog 11 #[.slice A0 a0.length c0] w fun e w' => e = .returned (.bool true) ∧ Below w.heap.size w w' := by
  have hmx : a0.length ≤ maxLen := Nat.le_trans hc0 hm0
  unfold maxLen at hmx
  by_cases hbig : 1048576 < (a0.length : Int)
  · go_enter Try.func11, Try.ntmps11
    go_wp2_with fail
    refine (big_any _ _ _ _).mono ?_
    rintro e w1 ⟨rfl, rfl⟩
    rw [decide_eq_true hbig]
    go_wp2
    go_ret
    exact ⟨rfl, Below.refl _ _⟩
  have hlen : a0.length ≤ 1048576 := by omega
  go_enter Try.func11, Try.ntmps11
  go_wp2_with fail
  refine (big_any _ _ _ _).mono ?_
  rintro e w1 ⟨rfl, rfl⟩
  rw [decide_eq_false (show ¬ 1048576 < (a0.length : Int) by omega)]
  clear hbig
  go_wp2_with fail
  refine (DrawEncPlain_any _ _ _ _ hr0 (by omega)).mono ?_
  rintro e w1 ⟨Al, cl, l, rfl, hll, hlo, hol, hbl1⟩
  go_wp2_with fail
  refine (impl_EncPlain _ _ _ l (own_reads hol) (by omega) hlo).mono ?_
  rintro e w2 ⟨Ab, cb, rfl, hob, hb_2⟩
  have hbl2 := hbl1.trans (hb_2.mono hbl1.size)
  replace hol := own_step hol hb_2
  replace hob := own_lower hob hbl1.size
  clear hb_2
  go_wp2_with fail
  refine (DrawPutVal_any _ _ _ a0 ((hr0.below hbl2 (Nat.le_refl _)).more hbl2.size) (by omega)).mono ?_
  rintro e w3 ⟨Ac, cc, c, v, rfl, hcl, hv, hoc, hb_3⟩
  have hbl3 := hbl2.trans (hb_3.mono hbl2.size)
  replace hol := own_step hol hb_3
  replace hob := own_step hob hb_3
  replace hoc := own_lower hoc hbl2.size
  clear hb_3
  obtain ⟨W, hW⟩ : ∃ W, W = w3.alloc (.cells #[.int .i64 v.ty, .int .i64 v.n, .string v.s] 30) := ⟨_, rfl⟩
  have hbx : Box W w3.heap.size v := by rw [hW]; exact Box.new w3 v
  have hb2 : Below w3.heap.size w3 W := by rw [hW]; exact (Below.refl _ _).alloc (Nat.le_refl _) _
  replace hbl3 := hbl3.trans (hb2.mono hbl3.size)
  replace hol := own_step hol hb2
  replace hob := own_step hob hb2
  replace hoc := own_step hoc hb2
  clear hb2 hbl1 hbl2
  go_wp2_with fail
  rw [← hW]
  clear hW
  refine (DrawLeast_any _ _ _ a0 ((hr0.below hbl3 (Nat.le_refl _)).more hbl3.size) (by omega)).mono ?_
  rintro e w4 ⟨n, m, rfl, hn, hm, hb_4⟩
  have hbl4 := hbl3.trans (hb_4.mono hbl3.size)
  replace hol := own_step hol hb_4
  replace hob := own_step hob hb_4
  replace hoc := own_step hoc hb_4
  obtain ⟨B, hB⟩ : ∃ B, B = w3.heap.size := ⟨_, rfl⟩
  rw [← hB] at hbx ⊢
  replace hbx := hbx.below hb_4
  clear hb_4 hbl3 hr0 hB
  -- THE REGION
  obtain ⟨q0, q1, q2, f0, f1, f2⟩ := hbx.cells
  have hE : (encPlain l).length ≤ 1099511627776 := Nat.le_trans (encPlain_len l) (by omega)
  have hP : (putVal c v).length ≤ 1099511627776 := Nat.le_trans (putVal_len c v) (by omega)
  obtain ⟨x, hx⟩ : ∃ x, x = min n m := ⟨_, rfl⟩
  obtain ⟨y, hy⟩ : ∃ y, y = max n m := ⟨_, rfl⟩
  obtain ⟨z, hz⟩ : ∃ z, z = wrap64 (n + m) := ⟨_, rfl⟩
  have hLi : ∀ w : World, Calls Try.prog 68 #[.int .i64 n, .int .i64 m] w fun e w' => e = .returned (.int .i64 x) ∧ w = w' := fun w => by rw [hx]; exact impl_Least w n m
  have hLs : ∀ w : World, Calls Try.prog 69 #[.int .i64 n, .int .i64 m] w fun e w' => e = .returned (.int .i64 x) ∧ w = w' := fun w => by rw [hx]; exact spec_Least w n m
  have hMi : ∀ w : World, Calls Try.prog 70 #[.int .i64 n, .int .i64 m] w fun e w' => e = .returned (.int .i64 y) ∧ w = w' := fun w => by rw [hy]; exact impl_Most w n m
  have hz1 : IntKind.i64.wrap (n + m) = z := by rw [hz, IntKind.wrap_i64]; unfold wrap64; omega
  have hz2 : IntKind.i64.wrap (z - x) = y := by
    obtain ⟨hn1, hn2⟩ := hn
    obtain ⟨hm1, hm2⟩ := hm
    rw [IntKind.wrap_i64, hz, hx, hy]
    unfold wrap64
    omega
  clear hx hy hz hn hm hbx f0 f1 f2
  go_wp2_with fail
  go_region_held3 (fun w' => w'.cell? ⟨B, 0, none⟩ = some (.int .i64 v.ty) ∧ w'.cell? ⟨B, 1, none⟩ = some (.int .i64 v.n) ∧ w'.cell? ⟨B, 2, none⟩ = some (.string v.s) ∧ Below w4.heap.size w4 w')
      (first
        | (exact ⟨q0, q1, q2, ((Below.refl w4.heap.size w4).drew)⟩)
        | (go_split_ands
           exact ⟨cell_keep hb11 (by assumption), cell_keep hb11 (by assumption), cell_keep hb11 (by assumption), (((((((((Below.refl w4.heap.size w4).drew).trans hb5).trans (hb6.mono (Below.size (((Below.refl w4.heap.size w4).drew).trans hb5)))).trans (hb7.mono (Below.size ((((Below.refl w4.heap.size w4).drew).trans hb5).trans (hb6.mono (Below.size (((Below.refl w4.heap.size w4).drew).trans hb5))))))).trans (hb8.mono (Below.size (((((Below.refl w4.heap.size w4).drew).trans hb5).trans (hb6.mono (Below.size (((Below.refl w4.heap.size w4).drew).trans hb5)))).trans (hb7.mono (Below.size ((((Below.refl w4.heap.size w4).drew).trans hb5).trans (hb6.mono (Below.size (((Below.refl w4.heap.size w4).drew).trans hb5)))))))))).trans (hb9.mono (Below.size ((((((Below.refl w4.heap.size w4).drew).trans hb5).trans (hb6.mono (Below.size (((Below.refl w4.heap.size w4).drew).trans hb5)))).trans (hb7.mono (Below.size ((((Below.refl w4.heap.size w4).drew).trans hb5).trans (hb6.mono (Below.size (((Below.refl w4.heap.size w4).drew).trans hb5))))))).trans (hb8.mono (Below.size (((((Below.refl w4.heap.size w4).drew).trans hb5).trans (hb6.mono (Below.size (((Below.refl w4.heap.size w4).drew).trans hb5)))).trans (hb7.mono (Below.size ((((Below.refl w4.heap.size w4).drew).trans hb5).trans (hb6.mono (Below.size (((Below.refl w4.heap.size w4).drew).trans hb5))))))))))))).trans (hb10.mono (Below.size (((((((Below.refl w4.heap.size w4).drew).trans hb5).trans (hb6.mono (Below.size (((Below.refl w4.heap.size w4).drew).trans hb5)))).trans (hb7.mono (Below.size ((((Below.refl w4.heap.size w4).drew).trans hb5).trans (hb6.mono (Below.size (((Below.refl w4.heap.size w4).drew).trans hb5))))))).trans (hb8.mono (Below.size (((((Below.refl w4.heap.size w4).drew).trans hb5).trans (hb6.mono (Below.size (((Below.refl w4.heap.size w4).drew).trans hb5)))).trans (hb7.mono (Below.size ((((Below.refl w4.heap.size w4).drew).trans hb5).trans (hb6.mono (Below.size (((Below.refl w4.heap.size w4).drew).trans hb5)))))))))).trans (hb9.mono (Below.size ((((((Below.refl w4.heap.size w4).drew).trans hb5).trans (hb6.mono (Below.size (((Below.refl w4.heap.size w4).drew).trans hb5)))).trans (hb7.mono (Below.size ((((Below.refl w4.heap.size w4).drew).trans hb5).trans (hb6.mono (Below.size (((Below.refl w4.heap.size w4).drew).trans hb5))))))).trans (hb8.mono (Below.size (((((Below.refl w4.heap.size w4).drew).trans hb5).trans (hb6.mono (Below.size (((Below.refl w4.heap.size w4).drew).trans hb5)))).trans (hb7.mono (Below.size ((((Below.refl w4.heap.size w4).drew).trans hb5).trans (hb6.mono (Below.size (((Below.refl w4.heap.size w4).drew).trans hb5)))))))))))))))).trans (hb11.mono (Below.size ((((((((Below.refl w4.heap.size w4).drew).trans hb5).trans (hb6.mono (Below.size (((Below.refl w4.heap.size w4).drew).trans hb5)))).trans (hb7.mono (Below.size ((((Below.refl w4.heap.size w4).drew).trans hb5).trans (hb6.mono (Below.size (((Below.refl w4.heap.size w4).drew).trans hb5))))))).trans (hb8.mono (Below.size (((((Below.refl w4.heap.size w4).drew).trans hb5).trans (hb6.mono (Below.size (((Below.refl w4.heap.size w4).drew).trans hb5)))).trans (hb7.mono (Below.size ((((Below.refl w4.heap.size w4).drew).trans hb5).trans (hb6.mono (Below.size (((Below.refl w4.heap.size w4).drew).trans hb5)))))))))).trans (hb9.mono (Below.size ((((((Below.refl w4.heap.size w4).drew).trans hb5).trans (hb6.mono (Below.size (((Below.refl w4.heap.size w4).drew).trans hb5)))).trans (hb7.mono (Below.size ((((Below.refl w4.heap.size w4).drew).trans hb5).trans (hb6.mono (Below.size (((Below.refl w4.heap.size w4).drew).trans hb5))))))).trans (hb8.mono (Below.size (((((Below.refl w4.heap.size w4).drew).trans hb5).trans (hb6.mono (Below.size (((Below.refl w4.heap.size w4).drew).trans hb5)))).trans (hb7.mono (Below.size ((((Below.refl w4.heap.size w4).drew).trans hb5).trans (hb6.mono (Below.size (((Below.refl w4.heap.size w4).drew).trans hb5))))))))))))).trans (hb10.mono (Below.size (((((((Below.refl w4.heap.size w4).drew).trans hb5).trans (hb6.mono (Below.size (((Below.refl w4.heap.size w4).drew).trans hb5)))).trans (hb7.mono (Below.size ((((Below.refl w4.heap.size w4).drew).trans hb5).trans (hb6.mono (Below.size (((Below.refl w4.heap.size w4).drew).trans hb5))))))).trans (hb8.mono (Below.size (((((Below.refl w4.heap.size w4).drew).trans hb5).trans (hb6.mono (Below.size (((Below.refl w4.heap.size w4).drew).trans hb5)))).trans (hb7.mono (Below.size ((((Below.refl w4.heap.size w4).drew).trans hb5).trans (hb6.mono (Below.size (((Below.refl w4.heap.size w4).drew).trans hb5)))))))))).trans (hb9.mono (Below.size ((((((Below.refl w4.heap.size w4).drew).trans hb5).trans (hb6.mono (Below.size (((Below.refl w4.heap.size w4).drew).trans hb5)))).trans (hb7.mono (Below.size ((((Below.refl w4.heap.size w4).drew).trans hb5).trans (hb6.mono (Below.size (((Below.refl w4.heap.size w4).drew).trans hb5))))))).trans (hb8.mono (Below.size (((((Below.refl w4.heap.size w4).drew).trans hb5).trans (hb6.mono (Below.size (((Below.refl w4.heap.size w4).drew).trans hb5)))).trans (hb7.mono (Below.size ((((Below.refl w4.heap.size w4).drew).trans hb5).trans (hb6.mono (Below.size (((Below.refl w4.heap.size w4).drew).trans hb5)))))))))))))))))))⟩)
        | (go_split_ands
           exact ⟨cell_keep hb10 (by assumption), cell_keep hb10 (by assumption), cell_keep hb10 (by assumption), ((((((((Below.refl w4.heap.size w4).drew).trans hb5).trans (hb6.mono (Below.size (((Below.refl w4.heap.size w4).drew).trans hb5)))).trans (hb7.mono (Below.size ((((Below.refl w4.heap.size w4).drew).trans hb5).trans (hb6.mono (Below.size (((Below.refl w4.heap.size w4).drew).trans hb5))))))).trans (hb8.mono (Below.size (((((Below.refl w4.heap.size w4).drew).trans hb5).trans (hb6.mono (Below.size (((Below.refl w4.heap.size w4).drew).trans hb5)))).trans (hb7.mono (Below.size ((((Below.refl w4.heap.size w4).drew).trans hb5).trans (hb6.mono (Below.size (((Below.refl w4.heap.size w4).drew).trans hb5)))))))))).trans (hb9.mono (Below.size ((((((Below.refl w4.heap.size w4).drew).trans hb5).trans (hb6.mono (Below.size (((Below.refl w4.heap.size w4).drew).trans hb5)))).trans (hb7.mono (Below.size ((((Below.refl w4.heap.size w4).drew).trans hb5).trans (hb6.mono (Below.size (((Below.refl w4.heap.size w4).drew).trans hb5))))))).trans (hb8.mono (Below.size (((((Below.refl w4.heap.size w4).drew).trans hb5).trans (hb6.mono (Below.size (((Below.refl w4.heap.size w4).drew).trans hb5)))).trans (hb7.mono (Below.size ((((Below.refl w4.heap.size w4).drew).trans hb5).trans (hb6.mono (Below.size (((Below.refl w4.heap.size w4).drew).trans hb5))))))))))))).trans (hb10.mono (Below.size (((((((Below.refl w4.heap.size w4).drew).trans hb5).trans (hb6.mono (Below.size (((Below.refl w4.heap.size w4).drew).trans hb5)))).trans (hb7.mono (Below.size ((((Below.refl w4.heap.size w4).drew).trans hb5).trans (hb6.mono (Below.size (((Below.refl w4.heap.size w4).drew).trans hb5))))))).trans (hb8.mono (Below.size (((((Below.refl w4.heap.size w4).drew).trans hb5).trans (hb6.mono (Below.size (((Below.refl w4.heap.size w4).drew).trans hb5)))).trans (hb7.mono (Below.size ((((Below.refl w4.heap.size w4).drew).trans hb5).trans (hb6.mono (Below.size (((Below.refl w4.heap.size w4).drew).trans hb5)))))))))).trans (hb9.mono (Below.size ((((((Below.refl w4.heap.size w4).drew).trans hb5).trans (hb6.mono (Below.size (((Below.refl w4.heap.size w4).drew).trans hb5)))).trans (hb7.mono (Below.size ((((Below.refl w4.heap.size w4).drew).trans hb5).trans (hb6.mono (Below.size (((Below.refl w4.heap.size w4).drew).trans hb5))))))).trans (hb8.mono (Below.size (((((Below.refl w4.heap.size w4).drew).trans hb5).trans (hb6.mono (Below.size (((Below.refl w4.heap.size w4).drew).trans hb5)))).trans (hb7.mono (Below.size ((((Below.refl w4.heap.size w4).drew).trans hb5).trans (hb6.mono (Below.size (((Below.refl w4.heap.size w4).drew).trans hb5))))))))))))))))⟩)
        | (go_split_ands
           exact ⟨cell_keep hb9 (by assumption), cell_keep hb9 (by assumption), cell_keep hb9 (by assumption), (((((((Below.refl w4.heap.size w4).drew).trans hb5).trans (hb6.mono (Below.size (((Below.refl w4.heap.size w4).drew).trans hb5)))).trans (hb7.mono (Below.size ((((Below.refl w4.heap.size w4).drew).trans hb5).trans (hb6.mono (Below.size (((Below.refl w4.heap.size w4).drew).trans hb5))))))).trans (hb8.mono (Below.size (((((Below.refl w4.heap.size w4).drew).trans hb5).trans (hb6.mono (Below.size (((Below.refl w4.heap.size w4).drew).trans hb5)))).trans (hb7.mono (Below.size ((((Below.refl w4.heap.size w4).drew).trans hb5).trans (hb6.mono (Below.size (((Below.refl w4.heap.size w4).drew).trans hb5)))))))))).trans (hb9.mono (Below.size ((((((Below.refl w4.heap.size w4).drew).trans hb5).trans (hb6.mono (Below.size (((Below.refl w4.heap.size w4).drew).trans hb5)))).trans (hb7.mono (Below.size ((((Below.refl w4.heap.size w4).drew).trans hb5).trans (hb6.mono (Below.size (((Below.refl w4.heap.size w4).drew).trans hb5))))))).trans (hb8.mono (Below.size (((((Below.refl w4.heap.size w4).drew).trans hb5).trans (hb6.mono (Below.size (((Below.refl w4.heap.size w4).drew).trans hb5)))).trans (hb7.mono (Below.size ((((Below.refl w4.heap.size w4).drew).trans hb5).trans (hb6.mono (Below.size (((Below.refl w4.heap.size w4).drew).trans hb5)))))))))))))⟩)
        | (go_split_ands
           exact ⟨cell_keep hb8 (by assumption), cell_keep hb8 (by assumption), cell_keep hb8 (by assumption), ((((((Below.refl w4.heap.size w4).drew).trans hb5).trans (hb6.mono (Below.size (((Below.refl w4.heap.size w4).drew).trans hb5)))).trans (hb7.mono (Below.size ((((Below.refl w4.heap.size w4).drew).trans hb5).trans (hb6.mono (Below.size (((Below.refl w4.heap.size w4).drew).trans hb5))))))).trans (hb8.mono (Below.size (((((Below.refl w4.heap.size w4).drew).trans hb5).trans (hb6.mono (Below.size (((Below.refl w4.heap.size w4).drew).trans hb5)))).trans (hb7.mono (Below.size ((((Below.refl w4.heap.size w4).drew).trans hb5).trans (hb6.mono (Below.size (((Below.refl w4.heap.size w4).drew).trans hb5))))))))))⟩)
        | (go_split_ands
           exact ⟨cell_keep hb7 (by assumption), cell_keep hb7 (by assumption), cell_keep hb7 (by assumption), (((((Below.refl w4.heap.size w4).drew).trans hb5).trans (hb6.mono (Below.size (((Below.refl w4.heap.size w4).drew).trans hb5)))).trans (hb7.mono (Below.size ((((Below.refl w4.heap.size w4).drew).trans hb5).trans (hb6.mono (Below.size (((Below.refl w4.heap.size w4).drew).trans hb5)))))))⟩)
        | (go_split_ands
           exact ⟨cell_keep hb6 (by assumption), cell_keep hb6 (by assumption), cell_keep hb6 (by assumption), ((((Below.refl w4.heap.size w4).drew).trans hb5).trans (hb6.mono (Below.size (((Below.refl w4.heap.size w4).drew).trans hb5))))⟩)
        | (go_split_ands
           exact ⟨cell_keep hb5 (by assumption), cell_keep hb5 (by assumption), cell_keep hb5 (by assumption), (((Below.refl w4.heap.size w4).drew).trans hb5)⟩)
        | (go_split_ands
           exact ⟨by assumption, by assumption, by assumption, by assumption⟩))
      (first
        | (go_at_call 63; refine (spec_EncPlain _ _ _ l (own_reads (own_step hol ((Below.refl w4.heap.size w4).drew))) (by omega) hlo).mono ?_; rintro e w5 ⟨A5, c5, rfl, hown5, hb5⟩)
        | (go_at_call 47; refine (same_same _ _ _ _ _ _ (own_reads (own_step hown9 hb10)) (own_reads hown10) hP).mono ?_; rintro e w11 ⟨rfl, hb11⟩)
        | (go_at_call 47; refine (same_same _ _ _ _ _ _ (own_reads (own_step hob (((Below.refl w4.heap.size w4).drew).trans hb5))) (own_reads hown5) hE).mono ?_; rintro e w6 ⟨rfl, hb6⟩)
        | (go_at_call 64; refine (impl_TypeOf _ _ _ l (own_reads (own_step hol ((((Below.refl w4.heap.size w4).drew).trans hb5).trans (hb6.mono (Below.size (((Below.refl w4.heap.size w4).drew).trans hb5)))))) (by omega) hlo).mono ?_; rintro e w7 ⟨rfl, hb7⟩)
        | (go_at_call 65; refine (spec_TypeOf _ _ _ l (own_reads (own_step hol (((((Below.refl w4.heap.size w4).drew).trans hb5).trans (hb6.mono (Below.size (((Below.refl w4.heap.size w4).drew).trans hb5)))).trans (hb7.mono (Below.size ((((Below.refl w4.heap.size w4).drew).trans hb5).trans (hb6.mono (Below.size (((Below.refl w4.heap.size w4).drew).trans hb5))))))))) (by omega) hlo).mono ?_; rintro e w8 ⟨rfl, hb8⟩)
        | (go_at_call 66; refine (impl_PutVal _ _ _ c (own_reads (own_step hoc ((((((Below.refl w4.heap.size w4).drew).trans hb5).trans (hb6.mono (Below.size (((Below.refl w4.heap.size w4).drew).trans hb5)))).trans (hb7.mono (Below.size ((((Below.refl w4.heap.size w4).drew).trans hb5).trans (hb6.mono (Below.size (((Below.refl w4.heap.size w4).drew).trans hb5))))))).trans (hb8.mono (Below.size (((((Below.refl w4.heap.size w4).drew).trans hb5).trans (hb6.mono (Below.size (((Below.refl w4.heap.size w4).drew).trans hb5)))).trans (hb7.mono (Below.size ((((Below.refl w4.heap.size w4).drew).trans hb5).trans (hb6.mono (Below.size (((Below.refl w4.heap.size w4).drew).trans hb5)))))))))))) (own_nil hoc) (by omega) v hv).mono ?_; rintro e w9 ⟨A9, c9, rfl, hown9, hb9⟩)
        | (go_at_call 67; refine (spec_PutVal _ _ _ c (own_reads (own_step hoc (((((((Below.refl w4.heap.size w4).drew).trans hb5).trans (hb6.mono (Below.size (((Below.refl w4.heap.size w4).drew).trans hb5)))).trans (hb7.mono (Below.size ((((Below.refl w4.heap.size w4).drew).trans hb5).trans (hb6.mono (Below.size (((Below.refl w4.heap.size w4).drew).trans hb5))))))).trans (hb8.mono (Below.size (((((Below.refl w4.heap.size w4).drew).trans hb5).trans (hb6.mono (Below.size (((Below.refl w4.heap.size w4).drew).trans hb5)))).trans (hb7.mono (Below.size ((((Below.refl w4.heap.size w4).drew).trans hb5).trans (hb6.mono (Below.size (((Below.refl w4.heap.size w4).drew).trans hb5)))))))))).trans (hb9.mono (Below.size ((((((Below.refl w4.heap.size w4).drew).trans hb5).trans (hb6.mono (Below.size (((Below.refl w4.heap.size w4).drew).trans hb5)))).trans (hb7.mono (Below.size ((((Below.refl w4.heap.size w4).drew).trans hb5).trans (hb6.mono (Below.size (((Below.refl w4.heap.size w4).drew).trans hb5))))))).trans (hb8.mono (Below.size (((((Below.refl w4.heap.size w4).drew).trans hb5).trans (hb6.mono (Below.size (((Below.refl w4.heap.size w4).drew).trans hb5)))).trans (hb7.mono (Below.size ((((Below.refl w4.heap.size w4).drew).trans hb5).trans (hb6.mono (Below.size (((Below.refl w4.heap.size w4).drew).trans hb5))))))))))))))) (own_nil hoc) (by omega) v hv).mono ?_; rintro e w10 ⟨A10, c10, rfl, hown10, hb10⟩)
        | (go_at_call 68; refine (hLi _).mono ?_; rintro e w' ⟨rfl, rfl⟩)
        | (go_at_call 69; refine (hLs _).mono ?_; rintro e w' ⟨rfl, rfl⟩)
        | (go_at_call 70; refine (hMi _).mono ?_; rintro e w' ⟨rfl, rfl⟩))
  have hT11 : Below w4.heap.size w4 w11 := (((((((((Below.refl w4.heap.size w4).drew).trans hb5).trans (hb6.mono (Below.size (((Below.refl w4.heap.size w4).drew).trans hb5)))).trans (hb7.mono (Below.size ((((Below.refl w4.heap.size w4).drew).trans hb5).trans (hb6.mono (Below.size (((Below.refl w4.heap.size w4).drew).trans hb5))))))).trans (hb8.mono (Below.size (((((Below.refl w4.heap.size w4).drew).trans hb5).trans (hb6.mono (Below.size (((Below.refl w4.heap.size w4).drew).trans hb5)))).trans (hb7.mono (Below.size ((((Below.refl w4.heap.size w4).drew).trans hb5).trans (hb6.mono (Below.size (((Below.refl w4.heap.size w4).drew).trans hb5)))))))))).trans (hb9.mono (Below.size ((((((Below.refl w4.heap.size w4).drew).trans hb5).trans (hb6.mono (Below.size (((Below.refl w4.heap.size w4).drew).trans hb5)))).trans (hb7.mono (Below.size ((((Below.refl w4.heap.size w4).drew).trans hb5).trans (hb6.mono (Below.size (((Below.refl w4.heap.size w4).drew).trans hb5))))))).trans (hb8.mono (Below.size (((((Below.refl w4.heap.size w4).drew).trans hb5).trans (hb6.mono (Below.size (((Below.refl w4.heap.size w4).drew).trans hb5)))).trans (hb7.mono (Below.size ((((Below.refl w4.heap.size w4).drew).trans hb5).trans (hb6.mono (Below.size (((Below.refl w4.heap.size w4).drew).trans hb5))))))))))))).trans (hb10.mono (Below.size (((((((Below.refl w4.heap.size w4).drew).trans hb5).trans (hb6.mono (Below.size (((Below.refl w4.heap.size w4).drew).trans hb5)))).trans (hb7.mono (Below.size ((((Below.refl w4.heap.size w4).drew).trans hb5).trans (hb6.mono (Below.size (((Below.refl w4.heap.size w4).drew).trans hb5))))))).trans (hb8.mono (Below.size (((((Below.refl w4.heap.size w4).drew).trans hb5).trans (hb6.mono (Below.size (((Below.refl w4.heap.size w4).drew).trans hb5)))).trans (hb7.mono (Below.size ((((Below.refl w4.heap.size w4).drew).trans hb5).trans (hb6.mono (Below.size (((Below.refl w4.heap.size w4).drew).trans hb5)))))))))).trans (hb9.mono (Below.size ((((((Below.refl w4.heap.size w4).drew).trans hb5).trans (hb6.mono (Below.size (((Below.refl w4.heap.size w4).drew).trans hb5)))).trans (hb7.mono (Below.size ((((Below.refl w4.heap.size w4).drew).trans hb5).trans (hb6.mono (Below.size (((Below.refl w4.heap.size w4).drew).trans hb5))))))).trans (hb8.mono (Below.size (((((Below.refl w4.heap.size w4).drew).trans hb5).trans (hb6.mono (Below.size (((Below.refl w4.heap.size w4).drew).trans hb5)))).trans (hb7.mono (Below.size ((((Below.refl w4.heap.size w4).drew).trans hb5).trans (hb6.mono (Below.size (((Below.refl w4.heap.size w4).drew).trans hb5)))))))))))))))).trans (hb11.mono (Below.size ((((((((Below.refl w4.heap.size w4).drew).trans hb5).trans (hb6.mono (Below.size (((Below.refl w4.heap.size w4).drew).trans hb5)))).trans (hb7.mono (Below.size ((((Below.refl w4.heap.size w4).drew).trans hb5).trans (hb6.mono (Below.size (((Below.refl w4.heap.size w4).drew).trans hb5))))))).trans (hb8.mono (Below.size (((((Below.refl w4.heap.size w4).drew).trans hb5).trans (hb6.mono (Below.size (((Below.refl w4.heap.size w4).drew).trans hb5)))).trans (hb7.mono (Below.size ((((Below.refl w4.heap.size w4).drew).trans hb5).trans (hb6.mono (Below.size (((Below.refl w4.heap.size w4).drew).trans hb5)))))))))).trans (hb9.mono (Below.size ((((((Below.refl w4.heap.size w4).drew).trans hb5).trans (hb6.mono (Below.size (((Below.refl w4.heap.size w4).drew).trans hb5)))).trans (hb7.mono (Below.size ((((Below.refl w4.heap.size w4).drew).trans hb5).trans (hb6.mono (Below.size (((Below.refl w4.heap.size w4).drew).trans hb5))))))).trans (hb8.mono (Below.size (((((Below.refl w4.heap.size w4).drew).trans hb5).trans (hb6.mono (Below.size (((Below.refl w4.heap.size w4).drew).trans hb5)))).trans (hb7.mono (Below.size ((((Below.refl w4.heap.size w4).drew).trans hb5).trans (hb6.mono (Below.size (((Below.refl w4.heap.size w4).drew).trans hb5))))))))))))).trans (hb10.mono (Below.size (((((((Below.refl w4.heap.size w4).drew).trans hb5).trans (hb6.mono (Below.size (((Below.refl w4.heap.size w4).drew).trans hb5)))).trans (hb7.mono (Below.size ((((Below.refl w4.heap.size w4).drew).trans hb5).trans (hb6.mono (Below.size (((Below.refl w4.heap.size w4).drew).trans hb5))))))).trans (hb8.mono (Below.size (((((Below.refl w4.heap.size w4).drew).trans hb5).trans (hb6.mono (Below.size (((Below.refl w4.heap.size w4).drew).trans hb5)))).trans (hb7.mono (Below.size ((((Below.refl w4.heap.size w4).drew).trans hb5).trans (hb6.mono (Below.size (((Below.refl w4.heap.size w4).drew).trans hb5)))))))))).trans (hb9.mono (Below.size ((((((Below.refl w4.heap.size w4).drew).trans hb5).trans (hb6.mono (Below.size (((Below.refl w4.heap.size w4).drew).trans hb5)))).trans (hb7.mono (Below.size ((((Below.refl w4.heap.size w4).drew).trans hb5).trans (hb6.mono (Below.size (((Below.refl w4.heap.size w4).drew).trans hb5))))))).trans (hb8.mono (Below.size (((((Below.refl w4.heap.size w4).drew).trans hb5).trans (hb6.mono (Below.size (((Below.refl w4.heap.size w4).drew).trans hb5)))).trans (hb7.mono (Below.size ((((Below.refl w4.heap.size w4).drew).trans hb5).trans (hb6.mono (Below.size (((Below.refl w4.heap.size w4).drew).trans hb5)))))))))))))))))))
  have hbl11 := hbl4.trans (hT11.mono hbl4.size)
  replace hol := own_step hol hT11
  replace hob := own_step hob hT11
  clear hT11 hb5 hb6 hb7 hb8 hb9 hb10 hb11 hown5 hown9 hown10 hoc q0 q1 q2 hbl4 hE hP hLi hLs hMi hz1 hz2
  go_wp2_with fail
  refine (impl_TypeOf _ _ _ l (own_reads hol) (by omega) hlo).mono ?_
  rintro e w12 ⟨rfl, hb_12⟩
  have hbl12 := hbl11.trans (hb_12.mono hbl11.size)
  replace hol := own_step hol hb_12
  replace hob := own_step hob hb_12
  clear hb_12 hbl11
  by_cases ht : typeOf l = 0
  · have hlb : (((encPlain l).length : Int) == 0) = true := by rw [encPlain_none ht]; rfl
    have htb : (typeOf l == 0) = true := by simp [ht]
    clear ht hob hol
    go_wp2
    go_ret
    exact ⟨rfl, hbl12⟩
  · have htb : (typeOf l == 0) = false := by simp [ht]
    have HB := Lib.hid (plain_back ht)
    have hty : I64 (typeOf l) := by
      have h1 := typeOf_bd l
      exact ⟨by omega, by omega⟩
    have hel : (encPlain l).length ≤ 1099511627776 := Nat.le_trans (encPlain_len l) (by omega)
    clear ht
    go_wp2_with fail
    refine (impl_DecPlain _ _ _ (encPlain l) (own_reads hob) hel (own_cap hob) (own_aform hob) (typeOf l) hty (l.length : Int) ⟨by omega, by omega⟩).mono ?_
    rintro e w13 ⟨A13, c13, rfl, hown13, hb_13⟩
    rw [HB.out.1] at hown13 ⊢
    rw [HB.out.2]
    have hbl13 := hbl12.trans (hb_13.mono hbl12.size)
    replace hol := own_step hol hb_13
    clear hb_13 hbl12 HB hob htb hel hty
    go_wp2_with fail
    refine (laws_sameVals _ _ _ l (own_reads hown13) (by omega) hlo _ _ l (own_reads hol) (by omega) hlo).mono ?_
    rintro e w14 ⟨rfl, hb_14⟩
    have hbl14 := hbl13.trans (hb_14.mono hbl13.size)
    rw [sameVals_self]
    go_wp2
    go_ret
    exact ⟨rfl, hbl14⟩
end Go.Proofs.Ytkgkommlfceneaa.fnPlains
