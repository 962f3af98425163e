/-
  Contracts of l1Bent, DrawZagZig and DrawZigZag.
-/
import Derived.Test.YtgpimlmolcjeoaaDrawn
import Derived.Deep.RegionHeld3
namespace Go.Proofs.Ytgpimlmolcjeoaa
open Go.RowKit
set_option linter.unusedVariables false
set_option maxRecDepth 100000

theorem l1Int_litm (w : World) (p : Nat) (hc : Cur w p) (t : TypeId) (n : Nat) (xs : List Int) (hl : xs.length = n) (h1 : 1 ≤ n) (h2 : n ≤ 1099511627776) :
    Calls Try.prog 75 #[.pointer (some ⟨p, 0, none⟩), .slice (some ⟨w.heap.size, 0, none⟩) n n] (w.alloc (.cells (intCells xs).toArray t)) fun e w' => ∃ x : Int, e = .returned (.int .i64 x) ∧ x ∈ xs ∧ Cur w' p ∧ w.grownBy w' (some p) := by
  refine (l1Int_any _ p (hc.alloc _) w.heap.size n n xs hl h1 h2 (Nat.ne_of_gt hc.lt) (lit_cells w t xs)).mono ?_
  rintro e w1 ⟨x, rfl, hm, hc1, hg1⟩
  exact ⟨x, rfl, hm, hc1, (grown_alloc w _ _).trans hg1⟩
theorem byteCells_set (bs : List UInt8) (j y : Nat) (hy : y < 256) : (byteCells bs).set j (.int .u8 (y : Int)) = byteCells (bs.set j (UInt8.ofNat y)) := by
  have e : ((UInt8.ofNat y).toNat : Int) = (y : Int) := byte_ofNat hy
  simp only [byteCells, byteV, List.map_set, e]
theorem own_shrink {w : World} {base g n cap k : Nat} {e : TypeId} {xs : List Value} (h : w.ownsRow base e 1 (.slice (some ⟨g, 0, none⟩) n cap) n xs) (hk : k ≤ n) : w.ownsRow base e 1 (.slice (some ⟨g, 0, none⟩) k cap) k (xs.take k) := by
  have hl := h.1
  refine ⟨by simp; omega, ?_⟩
  rcases h.2 with ⟨hv, _⟩ | ⟨g', cap', cur, hv, h1, h2, h3, h4, h5, h6⟩
  · cases hv
  · injection hv with e1 e2 e3
    injection e1 with e1
    injection e1 with e1
    subst e1; subst e3
    refine .inr ⟨g, cap, cur, rfl, h1, h2, by omega, h4, h5, ?_⟩
    rw [← h6, List.take_take]
    congr 1
    omega
theorem own_some {w : World} {base size n c : Nat} {e : TypeId} {A : Option Addr} {xs : List Value} (h : w.ownsRow base e size (.slice A n c) n xs) : (A = none ∧ n = 0 ∧ c = 0) ∨ ∃ g, A = some ⟨g, 0, none⟩ ∧ n ≤ c := by
  rcases h.2 with ⟨hv, hz⟩ | ⟨g, cap, cur, hv, _, _, h1, _⟩
  · injection hv with e1 e2 e3
    exact .inl ⟨e1, hz, e3⟩
  · injection hv with e1 e2 e3
    exact .inr ⟨g, e1, by omega⟩
theorem xor_bd (a b : Int) : 0 ≤ bits .xor .u8 a b ∧ bits .xor .u8 a b < 256 := by
  unfold bits
  rw [IntKind.wrap_u8]
  omega
theorem own_setv {w : World} {base g cap n j : Nat} {e : TypeId} {bs : List UInt8} (h : w.ownsRow base e 1 (.slice (some ⟨g, 0, none⟩) n cap) n (byteCells bs)) (v : Int) (hv : 0 ≤ v ∧ v < 256) :
    (w.setCell ⟨g, j, none⟩ (.int .u8 v)).ownsRow base e 1 (.slice (some ⟨g, 0, none⟩) n cap) n (byteCells (bs.set j (UInt8.ofNat v.toNat))) := by
  obtain ⟨y, rfl⟩ := Int.eq_ofNat_of_zero_le hv.1
  have h2 := (h.stored j (.int .u8 (y : Int))).1
  rw [byteCells_set bs j y (by omega)] at h2
  simpa using h2
set_option maxHeartbeats 1600000 in
theorem l1Bent_any (w : World) (p : Nat) (hc : Cur w p) (A : Option Addr) (c : Nat) (bs : List UInt8) (hr : Reads w w.heap.size 1 A bs.length (byteCells bs)) (hA : A = none → bs.length = 0 ∧ c = 0) (hl : bs.length ≤ 1000000000) :
    Calls Try.prog 69 #[.pointer (some ⟨p, 0, none⟩), .slice A bs.length c] w fun e w' => ∃ (A' : Option Addr) (c' : Nat) (qs : List UInt8), e = .returned (.slice A' qs.length c') ∧ qs.length ≤ bs.length + 1 ∧ w'.ownsRow w.heap.size 5 1 (.slice A' qs.length c') qs.length (byteCells qs) ∧ Cur w' p ∧ w.grownBy w' (some p) := by
  obtain ⟨i0, hi0, hz0, hz1, hz2⟩ := info_parts info_Byte
  have hp := hc.lt
  go_enter Try.func69, Try.ntmps69
  go_wp2_with (at_builtin; refine append_slice rfl (.tmp 7) (.tmp 8) 22 rfl w.heap.size 5 i0 _ 1 1 Try.underlying22 hi0 hz0 hz1 hz2 rfl (by omega) (by omega) (some ⟨w.heap.size, 0, none⟩) 0 0 _ rfl (own_empty (Nat.le_refl _)) w.heap.size bs.length c A _ rfl hA (hr.alloc (Nat.le_refl _) _) (byteCells_one' _) (by simp) (by omega) (by omega) ?_; intro A1 c1 w1 hown hbl)
  rw [Nat.zero_add, List.nil_append] at hown
  have hc1 := (hc.alloc _).below' hbl hp
  have hg1 := grown_below (grown_alloc w _ (some p)) hbl
  clear hr hbl hc hA
  refine (l1Below_any _ p hc1 7 (by omega) (by omega)).mono ?_
  rintro e w2 ⟨k, rfl, hk, hc2, hg2⟩
  replace hown := own_cur hown hg2 hp
  replace hg1 := hg1.trans hg2
  clear hc1 hg2
  rcases (show k = 0 ∨ k = 1 ∨ k = 2 ∨ k = 3 ∨ 4 ≤ k by omega) with rfl | rfl | rfl | rfl | hk4
  · by_cases h0 : 0 < bs.length
    · obtain ⟨g, cap, hv, hg, hgl⟩ := hown.form h0
      obtain ⟨rfl, rfl⟩ : A1 = some ⟨g, 0, none⟩ ∧ c1 = cap := by injection hv with h1 h2 h3; exact ⟨h1, h3⟩
      clear hv
      go_wp2_with fail
      refine (l1Below_any _ p hc2 bs.length (by omega) (by omega)).mono ?_
      rintro e w3 ⟨j, rfl, hj, hc3, hg3⟩
      replace hown := own_cur hown hg3 hp
      go_wp2_with fail
      refine (l1Below_any _ p hc3 256 (by omega) (by omega)).mono ?_
      rintro e w4 ⟨y, rfl, hy, hc4, hg4⟩
      replace hown := own_cur hown hg4 hp
      have hg5 := (hg1.trans hg3).trans hg4
      obtain ⟨u0, hw0⟩ := own_cell (j := j) hown (by omega)
      have hf0 := hown.frozenAt j
      obtain ⟨hst, hgr⟩ := hown.stored j (.int .u8 (y : Int))
      rw [byteCells_set bs j y hy] at hst
      have hb5 : Below w.heap.size w4 (w4.setCell ⟨g, j, none⟩ (.int .u8 (y : Int))) := (Below.refl _ _).setCell hg _
      have hc5 := hc4.below' hb5 hp
      have hg6 := grown_below hg5 hb5
      have hln : (bs.set j (UInt8.ofNat y)).length = bs.length := List.length_set
      clear hown hc2 hc3 hc4 hg1 hg3 hg4 hg5 hb5 hgr
      have HL := Lib.hid hln
      clear hln
      go_wp2
      go_ret
      exact ⟨_, _, bs.set j (UInt8.ofNat y), by rw [HL.out]; rfl, by rw [HL.out]; omega, by rw [HL.out]; exact hst, hc5, hg6⟩
    · go_wp2
      go_ret
      exact ⟨_, _, bs, rfl, by omega, hown, hc2, hg1⟩
  · go_wp2_with fail
    have hl1 : ((bs.length : Int) + 1) = ((bs.length + 1 : Nat) : Int) := by omega
    rw [hl1]
    refine (l1Below_any _ p hc2 (bs.length + 1) (by omega) (by omega)).mono ?_
    rintro e w3 ⟨j, rfl, hj, hc3, hg3⟩
    replace hown := own_cur hown hg3 hp
    replace hg1 := hg1.trans hg3
    have hln : (bs.take j).length = j := by simp; omega
    have HL := Lib.hid hln
    clear hln hl1 hc2 hg3
    rcases own_some hown with ⟨rfl, hz, rfl⟩ | ⟨g, rfl, hcap⟩
    · have hj0 : j = 0 := by omega
      subst hj0
      have hbs : bs = [] := List.eq_nil_of_length_eq_zero hz
      subst hbs
      clear hz
      go_wp2
      go_ret
      exact ⟨none, 0, [], rfl, by simp, by simpa using hown, hc3, hg1⟩
    · have hsh := own_shrink hown (show j ≤ bs.length by omega)
      rw [show (byteCells bs).take j = byteCells (bs.take j) by simp [byteCells, List.map_take]] at hsh
      clear hown
      go_wp2
      go_ret
      exact ⟨_, _, bs.take j, by rw [HL.out]; rfl, by rw [HL.out]; omega, by rw [HL.out]; exact hsh, hc3, hg1⟩
  · go_wp2_with fail
    refine (l1Int_litm w2 p hc2 3 4 [0, 1, 128, 255] rfl (by omega) (by omega)).mono ?_
    rintro e w3 ⟨x, rfl, hx, hc3, hg3⟩
    replace hown := own_cur hown hg3 hp
    replace hg1 := hg1.trans hg3
    have hsz := hg1.size
    obtain ⟨y, rfl, hy⟩ : ∃ y : Nat, x = (y : Int) ∧ y < 256 := by
      simp only [List.mem_cons, List.not_mem_nil, or_false] at hx
      exact ⟨x.toNat, by omega, by omega⟩
    have hwr : IntKind.u8.wrap (y : Int) = (y : Int) := by rw [IntKind.wrap_u8]; omega
    clear hx hc2 hg3
    go_wp2_with (at_builtin; refine append_one rfl (.tmp 37) (.tmp 42) 22 rfl w.heap.size 5 i0 _ 1 1 Try.underlying22 hi0 hz0 hz1 hz2 rfl (by omega) (by omega) A1 bs.length c1 _ rfl hown [.int .u8 (y : Int)] _ rfl (by first | rfl | simp) rfl (by simp [Value.oneCell']) hsz (by omega) ?_; intro A4 c4 w4 hown4 hb4)
    rw [byteCells_last _ _ hy] at hown4
    have hc4 := hc3.below' hb4 hp
    have hg4 := grown_below hg1 hb4
    have hln : (bs ++ [UInt8.ofNat y]).length = bs.length + 1 := by simp
    have HL := Lib.hid hln
    clear hln hown hc3 hg1 hb4
    go_wp2
    go_ret
    exact ⟨_, _, bs ++ [UInt8.ofNat y], by rw [HL.out]; rfl, by rw [HL.out]; omega, by rw [HL.out]; exact hown4, hc4, hg4⟩
  · by_cases h0 : 0 < bs.length
    · obtain ⟨g, cap, hv, hg, hgl⟩ := hown.form h0
      obtain ⟨rfl, rfl⟩ : A1 = some ⟨g, 0, none⟩ ∧ c1 = cap := by injection hv with h1 h2 h3; exact ⟨h1, h3⟩
      clear hv
      go_wp2_with fail
      refine (l1Below_any _ p hc2 bs.length (by omega) (by omega)).mono ?_
      rintro e w3 ⟨j, rfl, hj, hc3, hg3⟩
      replace hown := own_cur hown hg3 hp
      replace hg1 := hg1.trans hg3
      have hd : w3.cell? ⟨g, j, none⟩ = some (.int .u8 ((bs[j]'hj).toNat : Int)) := (hown.cellAt j (by omega)).trans (by simp [byteCells, byteV, hj])
      obtain ⟨b, hb⟩ : ∃ b, b = (bs[j]'hj).toNat := ⟨_, rfl⟩
      rw [← hb] at hd
      clear hb hc2 hg3
      go_wp2_with fail
      have hdD : w3.drew.cell? ⟨g, j, none⟩ = some (.int .u8 (b : Int)) := hd
      have hc4 : Cur w3.drew p := hc3
      have hown4 : w3.drew.ownsRow w.heap.size 5 1 (.slice (some ⟨g, 0, none⟩) bs.length c1) bs.length (byteCells bs) := hown
      have hg4 : w.grownBy w3.drew (some p) := ⟨hg1.os, hg1.tape, hg1.output, hg1.size, hg1.block⟩
      have hgp : g ≠ p := by omega
      clear hd hc3 hown hg1
      refine wp_region_any (by kernel_rfl) ?_
      change wpAny _ _ _ _ _ _ _ (World.drew _)
      generalize w3.drew = w4 at hdD hc4 hown4 hg4 ⊢
      refine wpAny_take (i := 0) (v := .slice (some ⟨g, 0, none⟩) bs.length c1) rfl (by kernel_rfl) (by kernel_rfl) (by kernel_rfl) (fun _ _ _ h => h) (Or.inl ⟨by kernel_rfl, fun _ => by kernel_rfl⟩) ?_
      refine wpAny_take (i := 1) (v := .int .i64 j) rfl (by kernel_rfl) (by kernel_rfl) (by kernel_rfl) (fun _ _ _ h => h) (Or.inl ⟨by kernel_rfl, fun _ => by kernel_rfl⟩) ?_
      refine wpAny_take (i := 2) (v := .slice (some ⟨g, 0, none⟩) bs.length c1) rfl (by kernel_rfl) (by kernel_rfl) (by kernel_rfl) (fun _ _ _ h => h) (Or.inl ⟨by kernel_rfl, fun _ => by kernel_rfl⟩) ?_
      refine wpAny_take (i := 3) (v := .int .i64 j) rfl (by kernel_rfl) (by kernel_rfl) (by kernel_rfl) (fun _ _ _ h => h) (Or.inl ⟨by kernel_rfl, fun _ => by kernel_rfl⟩) ?_
      refine wpAny_take (i := 4) (v := .pointer (some ⟨g, j, none⟩)) rfl (by kernel_rfl) (by kernel_rfl) (by kernel_rfl) (fun _ _ _ h => h) (Or.inl ⟨by kernel_rfl, fun _ => by go_simp⟩) ?_
      refine wpAny_take (i := 6) (v := .pointer (some ⟨p, 0, none⟩)) rfl (by kernel_rfl) (by kernel_rfl) (by kernel_rfl) (fun _ _ _ h => h) (Or.inl ⟨by kernel_rfl, fun _ => by kernel_rfl⟩) ?_
      refine wpAny_ready (rs := [5, 7]) (by kernel_rfl) (by simp) ?_
      refine AllReady.cons rfl (fun K hK => ?_) (AllReady.cons rfl (fun K hK => ?_) AllReady.nil)
      · go_simp
        refine hK _ _ ?_
        clear hK K
        refine wpAny_ready (rs := [7]) (by kernel_rfl) (by simp) ?_
        refine AllReady.cons rfl (fun K hK => ?_) AllReady.nil
        go_simp
        refine (l1Below_any _ p hc4 8 (by omega) (by omega)).mono ?_
        rintro e w5 ⟨y, rfl, hy, hc5, hg5⟩
        have hown5 := own_cur hown4 hg5 hp
        have hg6 := hg4.trans hg5
        have hd5 := hg5.cell hdD (fun e => hgp (Option.some.inj e))
        have hf0 := hown5.frozenAt j
        clear hg4 hg5 hown4 hc4
        try go_simp
        refine hK _ _ ?_
        clear hK K
        refine wpAny_ready (rs := [8]) (by kernel_rfl) (by simp) ?_
        refine AllReady.cons rfl (fun K hK => ?_) AllReady.nil
        go_simp
        refine hK _ _ ?_
        clear hK K
        refine wpAny_ready (rs := [9]) (by kernel_rfl) (by simp) ?_
        refine AllReady.cons rfl (fun K hK => ?_) AllReady.nil
        go_simp
        refine hK _ _ ?_
        clear hK K
        refine wpAny_ready (rs := [10]) (by kernel_rfl) (by simp) ?_
        refine AllReady.cons rfl (fun K hK => ?_) AllReady.nil
        go_simp
        refine hK _ _ ?_
        clear hK K
        refine wpAny_ready (rs := [11]) (by kernel_rfl) (by simp) ?_
        refine AllReady.cons rfl (fun K hK => ?_) AllReady.nil
        go_simp
        refine hK _ _ ?_
        clear hK K
        refine wpAny_done (by kernel_rfl) ?_ _
        go_wp2
        go_ret
        refine ⟨_, _, bs.set j (UInt8.ofNat _), by rw [List.length_set]; rfl, by rw [List.length_set]; omega, by rw [List.length_set]; exact own_setv hown5 _ (xor_bd _ _), hc5.below' ((Below.refl _ _).setCell hg _) hp, grown_below hg6 ((Below.refl _ _).setCell hg _)⟩
      · go_simp
        refine (l1Below_any _ p hc4 8 (by omega) (by omega)).mono ?_
        rintro e w5 ⟨y, rfl, hy, hc5, hg5⟩
        have hown5 := own_cur hown4 hg5 hp
        have hg6 := hg4.trans hg5
        have hd5 := hg5.cell hdD (fun e => hgp (Option.some.inj e))
        have hf0 := hown5.frozenAt j
        clear hg4 hg5 hown4 hc4
        try go_simp
        refine hK _ _ ?_
        clear hK K
        refine wpAny_ready (rs := [5, 8]) (by kernel_rfl) (by simp) ?_
        refine AllReady.cons rfl (fun K hK => ?_) (AllReady.cons rfl (fun K hK => ?_) AllReady.nil)
        · go_simp
          refine hK _ _ ?_
          clear hK K
          refine wpAny_ready (rs := [8]) (by kernel_rfl) (by simp) ?_
          refine AllReady.cons rfl (fun K hK => ?_) AllReady.nil
          go_simp
          refine hK _ _ ?_
          clear hK K
          refine wpAny_ready (rs := [9]) (by kernel_rfl) (by simp) ?_
          refine AllReady.cons rfl (fun K hK => ?_) AllReady.nil
          go_simp
          refine hK _ _ ?_
          clear hK K
          refine wpAny_ready (rs := [10]) (by kernel_rfl) (by simp) ?_
          refine AllReady.cons rfl (fun K hK => ?_) AllReady.nil
          go_simp
          refine hK _ _ ?_
          clear hK K
          refine wpAny_ready (rs := [11]) (by kernel_rfl) (by simp) ?_
          refine AllReady.cons rfl (fun K hK => ?_) AllReady.nil
          go_simp
          refine hK _ _ ?_
          clear hK K
          refine wpAny_done (by kernel_rfl) ?_ _
          go_wp2
          go_ret
          refine ⟨_, _, bs.set j (UInt8.ofNat _), by rw [List.length_set]; rfl, by rw [List.length_set]; omega, by rw [List.length_set]; exact own_setv hown5 _ (xor_bd _ _), hc5.below' ((Below.refl _ _).setCell hg _) hp, grown_below hg6 ((Below.refl _ _).setCell hg _)⟩
        · go_simp
          refine hK _ _ ?_
          clear hK K
          refine wpAny_ready (rs := [5]) (by kernel_rfl) (by simp) ?_
          refine AllReady.cons rfl (fun K hK => ?_) AllReady.nil
          go_simp
          refine hK _ _ ?_
          clear hK K
          refine wpAny_ready (rs := [9]) (by kernel_rfl) (by simp) ?_
          refine AllReady.cons rfl (fun K hK => ?_) AllReady.nil
          go_simp
          refine hK _ _ ?_
          clear hK K
          refine wpAny_ready (rs := [10]) (by kernel_rfl) (by simp) ?_
          refine AllReady.cons rfl (fun K hK => ?_) AllReady.nil
          go_simp
          refine hK _ _ ?_
          clear hK K
          refine wpAny_ready (rs := [11]) (by kernel_rfl) (by simp) ?_
          refine AllReady.cons rfl (fun K hK => ?_) AllReady.nil
          go_simp
          refine hK _ _ ?_
          clear hK K
          refine wpAny_done (by kernel_rfl) ?_ _
          go_wp2
          go_ret
          refine ⟨_, _, bs.set j (UInt8.ofNat _), by rw [List.length_set]; rfl, by rw [List.length_set]; omega, by rw [List.length_set]; exact own_setv hown5 _ (xor_bd _ _), hc5.below' ((Below.refl _ _).setCell hg _) hp, grown_below hg6 ((Below.refl _ _).setCell hg _)⟩
    · go_wp2
      go_ret
      exact ⟨_, _, bs, rfl, by omega, hown, hc2, hg1⟩
  · have b0 : ((k : Int) == 0) = false := by simp; omega
    have b1 : ((k : Int) == 1) = false := by simp; omega
    have b2 : ((k : Int) == 2) = false := by simp; omega
    have b3 : ((k : Int) == 3) = false := by simp; omega
    clear hk4
    go_wp2
    go_ret
    exact ⟨_, _, bs, rfl, by omega, hown, hc2, hg1⟩

end Go.Proofs.Ytgpimlmolcjeoaa
