/-
  What the reference draws of rows: l4Cols, l4Vals, l4Any.
-/
import Derived.Test.YtgpimlmolcjeoaaGreatDoorVdraw
import Derived.Test.YtgpimlmolcjeoaaGreatDoorOwned
namespace Go.Proofs.YtgpimlmolcjeoaaGreatDoor
open Go.RowKit
set_option linter.unusedVariables false
set_option maxRecDepth 100000

theorem own_lit_n {w : World} {base size n0 : Nat} {e : TypeId} (cs : Array Value) (n : Nat) (h0 : n0 = w.heap.size) (hb : base ≤ w.heap.size) (hm : n ≤ maxLen) (hs : cs.size = n * size) : (w.alloc (.cells cs e)).ownsRow base e size (.slice (some ⟨n0, 0, none⟩) n n) n cs.toList := by
  subst h0
  exact World.ownsRow_lit w cs n hb hm hs
theorem own_form {w w' : World} {base size n : Nat} {e : TypeId} {v : Value} {xs : List Value} (h : w.ownsRow base e size v n xs) (hk : ∀ g, v.ownBlock = some g → g < w.heap.size → w'.heap[g]? = w.heap[g]?) : w'.ownsRow base e size v n xs := by
  refine ⟨h.1, h.2.imp id ?_⟩
  rintro ⟨g, cap, cur, h1, h2, h3, h4⟩
  have hl : g < w.heap.size := by
    rcases Nat.lt_or_ge g w.heap.size with h5 | h5
    · exact h5
    · rw [Array.getElem?_eq_none h5] at h3; cases h3
  exact ⟨g, cap, cur, h1, h2, (hk g (by rw [h1]; simp [Value.ownBlock]) hl).trans h3, h4⟩
theorem Owned.below {w w' : World} {lo hi size n c B : Nat} {e : TypeId} {A : Option Addr} {xs : List Value} (h : Owned w lo hi e size A n c xs) (hb : Below B w w') (hB : hi ≤ B) : Owned w' lo hi e size A n c xs :=
  ⟨own_form h.1 (fun g hg _ => hb.block g (Nat.lt_of_lt_of_le (h.2 g hg) hB)), h.2⟩
theorem Owned.cur {w w' : World} {lo hi size n c p : Nat} {e : TypeId} {A : Option Addr} {xs : List Value} (h : Owned w lo hi e size A n c xs) (hg : w.grownBy w' (some p)) (hp : p < lo) : Owned w' lo hi e size A n c xs :=
  h.apart hg (fun k hk => by have := Option.some.inj hk; omega)
set_option maxHeartbeats 1600000 in
theorem l4Vals_any (w : World) (p : Nat) (hc : Cur w p) (lo hi n c : Nat) (A : Option Addr) (xs : List Int) (hcols : Owned w lo hi 3 1 A n c (intCells xs)) (hn : xs.length = n) (hp0 : p < lo) (hhi : hi ≤ w.heap.size) (hn3 : n ≤ 3) :
    Calls Tryz.prog 33 #[.pointer (some ⟨p, 0, none⟩), .slice A n c] w fun e w' => ∃ (A' : Option Addr) (c' : Nat) (vs : List V), e = .returned (.slice A' n c') ∧ vs.length = n ∧ (∀ v ∈ vs, v.ok) ∧
      w'.ownsRow w.heap.size 49 3 (.slice A' n c') n (valCells vs) ∧ Cur w' p ∧ w.grownBy w' (some p) := by
  obtain ⟨i0, hi0, hz0, hz1, hz2⟩ := info_parts info_Val
  have hp := hc.lt
  have HN := Lib.hid hn
  clear hn
  have hcW := hc.alloc (.cells #[] 49)
  have hgW := grown_alloc w (.cells #[] 49) (some p)
  have hoW : Owned (w.alloc (.cells #[] 49)) lo hi 3 1 A n c (intCells xs) := hcols.below ((Below.refl w.heap.size w).alloc (Nat.le_refl _) _) hhi
  have hv0 := own_empty (w := w) (base := w.heap.size) (e := 49) (size := 3) (Nat.le_refl _)
  clear hcols hc
  go_enter Tryz.func33, Tryz.ntmps33
  go_wp2
  go_loopw [5, 6] (fun o i wr => ∃ (k : Nat) (vs : List V) (A' : Option Addr) (c' : Nat), k ≤ n ∧ i = .int .i64 (k : Int) ∧ o = .slice A' k c' ∧ wr.ownsRow w.heap.size 49 3 (.slice A' k c') k (valCells vs) ∧ Owned wr lo hi 3 1 A n c (intCells xs) ∧ Hid (vs.length = k) ∧ Hid (∀ v ∈ vs, v.ok) ∧ Cur wr p ∧ w.grownBy wr (some p)) (fun _ i _ => n - (intOf i).toNat)
  case atStart => exact ⟨0, [], _, _, Nat.zero_le _, rfl, rfl, hv0, hoW, Lib.hid rfl, Lib.hid (by simp), hcW, hgW⟩
  case round =>
    clear hv0 hoW hcW hgW
    obtain ⟨k, vs, A', c', hk, rfl, rfl, hown, hcols, hL, hV, hc1, hg1⟩ := hrel
    by_cases hlt : k < n
    · obtain ⟨b, off, x, hxA, hb, hx, hc0⟩ := Reads.int (k := k) (xs := xs) (by rw [HN.out]; exact hcols.reads) (by rw [HN.out]; exact hlt)
      subst hxA
      cases hty : (x == 1)
      · go_wp2_with fail
        refine (l3Text_any wr p hc1).mono ?_
        rintro e w1 ⟨v, rfl, hv, hc2, hg2⟩
        have hown2 := own_cur hown hg2 hp
        have hcols2 := hcols.cur hg2 hp0
        have hg3 := hg1.trans hg2
        have hsz := hg3.size
        clear hown hc1 hg1 hg2 hcols hc0 hx
        go_wp2_with (at_builtin; refine append_one rfl (.tmp 24) (.tmp 27) 25 rfl w.heap.size 49 i0 _ 3 32 Tryz.underlying25 hi0 hz0 hz1 hz2 rfl (by omega) (by omega) A' k c' _ rfl hown2 [.int .i64 v.ty, .int .i64 v.n, .string v.s] _ rfl (by first | rfl | simp) rfl (by simp [Value.oneCell']) hsz (by omega) ?_; intro A2 c2 w2 hown3 hb3)
        rw [valCells_app] at hown3
        have hc4 := hc2.below' hb3 hp
        have hcols3 := hcols2.below hb3 hhi
        have hg4 := grown_below hg3 hb3
        clear hown2 hc2 hg3 hb3 hsz hcols2
        go_wp2
        go_roundw
        case rel => exact ⟨k + 1, vs ++ [v], A2, c2, by omega, by go_num, rfl, hown3, hcols3, Lib.hid (by simp [hL.out]), Lib.hid (ok_snoc hV.out hv), hc4, hg4⟩
        case measure => simp [intOf]; omega
      · go_wp2_with fail
        refine (l3Int_any wr p hc1).mono ?_
        rintro e w1 ⟨v, rfl, hv, hc2, hg2⟩
        have hown2 := own_cur hown hg2 hp
        have hcols2 := hcols.cur hg2 hp0
        have hg3 := hg1.trans hg2
        have hsz := hg3.size
        clear hown hc1 hg1 hg2 hcols hc0 hx
        go_wp2_with (at_builtin; refine append_one rfl (.tmp 19) (.tmp 22) 25 rfl w.heap.size 49 i0 _ 3 32 Tryz.underlying25 hi0 hz0 hz1 hz2 rfl (by omega) (by omega) A' k c' _ rfl hown2 [.int .i64 v.ty, .int .i64 v.n, .string v.s] _ rfl (by first | rfl | simp) rfl (by simp [Value.oneCell']) hsz (by omega) ?_; intro A2 c2 w2 hown3 hb3)
        rw [valCells_app] at hown3
        have hc4 := hc2.below' hb3 hp
        have hcols3 := hcols2.below hb3 hhi
        have hg4 := grown_below hg3 hb3
        clear hown2 hc2 hg3 hb3 hsz hcols2
        go_wp2
        go_roundw
        case rel => exact ⟨k + 1, vs ++ [v], A2, c2, by omega, by go_num, rfl, hown3, hcols3, Lib.hid (by simp [hL.out]), Lib.hid (ok_snoc hV.out hv), hc4, hg4⟩
        case measure => simp [intOf]; omega
    · have hkn : k = n := by omega
      subst hkn
      go_wp2
      go_ret
      exact ⟨_, _, vs, rfl, hL.out, hV.out, hown, hc1, hg1⟩
theorem l4Any_any (w : World) (p : Nat) (hc : Cur w p) (lo hi n c : Nat) (A : Option Addr) (xs : List Int) (hcols : Owned w lo hi 3 1 A n c (intCells xs)) (hn : xs.length = n) (hp0 : p < lo) (hhi : hi ≤ w.heap.size) (hn3 : n ≤ 3) :
    Calls Tryz.prog 29 #[.pointer (some ⟨p, 0, none⟩), .slice A n c] w fun e w' => ∃ (A' : Option Addr) (c' : Nat) (vs : List V), e = .returned (.slice A' vs.length c') ∧ vs.length ≤ 4 ∧ (∀ v ∈ vs, v.ok) ∧
      w'.ownsRow w.heap.size 49 3 (.slice A' vs.length c') vs.length (valCells vs) ∧ Cur w' p ∧ w.grownBy w' (some p) := by
  obtain ⟨i0, hi0, hz0, hz1, hz2⟩ := info_parts info_Val
  have hp := hc.lt
  go_enter Tryz.func29, Tryz.ntmps29
  go_wp2_with fail
  refine (l4Vals_any _ p hc lo hi n c A xs hcols hn hp0 hhi hn3).mono ?_
  rintro e w1 ⟨A1, c1, vs, rfl, hvl, hvo, hown1, hc1, hg1⟩
  clear hcols hc
  go_wp2_with fail
  refine (l1Below_any _ p hc1 8 (by omega) (by omega)).mono ?_
  rintro e w2 ⟨t, rfl, ht, hc2, hg2⟩
  have hown2 := own_cur hown1 hg2 hp
  have hg3 := hg1.trans hg2
  clear hown1 hc1 hg1 hg2
  by_cases t0 : t = 0
  · subst t0
    go_wp2_with fail
    refine (l3Any_any _ p hc2).mono ?_
    rintro e w3 ⟨v, rfl, hv, hc3, hg4⟩
    have hown3 := own_cur hown2 hg4 hp
    have hg5 := hg3.trans hg4
    have hsz := hg5.size
    clear hown2 hc2 hg3 hg4
    go_wp2_with (at_builtin; refine append_one rfl (.tmp 13) (.tmp 16) 25 rfl w.heap.size 49 i0 _ 3 32 Tryz.underlying25 hi0 hz0 hz1 hz2 rfl (by omega) (by omega) A1 n c1 _ rfl hown3 [.int .i64 v.ty, .int .i64 v.n, .string v.s] _ rfl (by first | rfl | simp) rfl (by simp [Value.oneCell']) hsz (by omega) ?_; intro A2 c2 w4 hown4 hb4)
    rw [valCells_app] at hown4
    have hc4 := hc3.below' hb4 hp
    have hg6 := grown_below hg5 hb4
    have hl : n + 1 = (vs ++ [v]).length := by simp [hvl]
    rw [hl] at hown4
    clear hown3 hc3 hg5 hb4
    go_wp2
    go_ret
    exact ⟨_, _, vs ++ [v], congrArg (fun k => Ending.returned (Value.slice A2 k c2)) hl, by simp; omega, ok_snoc hvo hv, hown4, hc4, hg6⟩
  by_cases t1 : t = 1
  · subst t1
    by_cases hn0 : n = 0
    · subst hn0
      go_wp2
      go_ret
      have hl : 0 = vs.length := hvl.symm
      exact ⟨_, _, vs, congrArg (fun k => Ending.returned (Value.slice A1 k c1)) hl, by omega, hvo, by rw [← hl]; exact hown2, hc2, hg3⟩
    · obtain ⟨g, cap, hv1, hgb, hgl⟩ := hown2.form (by omega)
      obtain ⟨rfl, rfl⟩ : A1 = some ⟨g, 0, none⟩ ∧ c1 = cap := by injection hv1 with h1 h2 h3; exact ⟨h1, h3⟩
      clear hv1
      go_wp2_with fail
      refine (l3Any_any _ p hc2).mono ?_
      rintro e w3 ⟨v, rfl, hv, hc3, hg4⟩
      have hown3 := own_cur hown2 hg4 hp
      have hg5 := hg3.trans hg4
      have hlt := (hown3.lt g (by simp [Value.ownBlock])).1
      obtain ⟨u0, hw0⟩ := own_cell (j := 0) hown3 (by omega)
      obtain ⟨u1, hw1⟩ := own_cell (j := 1) hown3 (by omega)
      obtain ⟨u2, hw2⟩ := own_cell (j := 2) hown3 (by omega)
      have hf0 := hown3.frozenAt 0
      have hf1 := hown3.frozenAt 1
      have hf2 := hown3.frozenAt 2
      obtain ⟨y, ys, rfl⟩ : ∃ y ys, vs = y :: ys := by cases vs with | nil => (simp at hvl; omega) | cons y ys => exact ⟨y, ys, rfl⟩
      obtain ⟨h1, g1⟩ := hown3.stored 0 (.int .i64 v.ty)
      obtain ⟨h2, g2⟩ := h1.stored 1 (.int .i64 v.n)
      obtain ⟨h3, g3⟩ := h2.stored 2 (.string v.s)
      have hfin : (((w3.setCell ⟨g, 0, none⟩ (.int .i64 v.ty)).setCell ⟨g, 1, none⟩ (.int .i64 v.n)).setCell ⟨g, 2, none⟩ (.string v.s)).ownsRow w.heap.size 49 3 (.slice (some ⟨g, 0, none⟩) n c1) n (valCells (v :: ys)) := by
        simpa [valCells, V.enc] using h3
      have hgf := grown_below hg5 (((((Below.refl w.heap.size w3).setCell (p := ⟨g, 0, none⟩) hlt (.int .i64 v.ty))).setCell (p := ⟨g, 1, none⟩) hlt (.int .i64 v.n)).setCell (p := ⟨g, 2, none⟩) hlt (.string v.s))
      have hcf := hc3.below' (((((Below.refl w.heap.size w3).setCell (p := ⟨g, 0, none⟩) hlt (.int .i64 v.ty))).setCell (p := ⟨g, 1, none⟩) hlt (.int .i64 v.n)).setCell (p := ⟨g, 2, none⟩) hlt (.string v.s)) hp
      have hl : n = (v :: ys).length := by simpa using hvl.symm
      have hok : ∀ z ∈ v :: ys, z.ok := by
        intro z hz
        rcases List.mem_cons.1 hz with h | h
        · subst h; exact hv
        · exact hvo z (by simp [h])
      clear hown2 hown3 h1 h2 h3 g1 g2 g3 hg4 hg5 hc2 hg3
      go_wp2
      go_ret
      exact ⟨_, _, v :: ys, (by first | rfl | exact congrArg (fun k => Ending.returned (Value.slice (some ⟨g, 0, none⟩) k c1)) hl), by omega, hok, by rw [← hl]; exact hfin, hcf, hgf⟩
  have t0b : ((t : Int) == 0) = false := by simp; omega
  have t1b : ((t : Int) == 1) = false := by simp; omega
  go_wp2
  go_ret
  have hl : n = vs.length := hvl.symm
  exact ⟨_, _, vs, congrArg (fun k => Ending.returned (Value.slice A1 k c1)) hl, by omega, hvo, by rw [← hl]; exact hown2, hc2, hg3⟩
set_option maxHeartbeats 1600000 in
theorem l4Cols_any (w : World) (p : Nat) (hc : Cur w p) :
    Calls Tryz.prog 27 #[.pointer (some ⟨p, 0, none⟩)] w fun e w' => ∃ (A : Option Addr) (c : Nat) (xs : List Int), e = .returned (.slice A xs.length c) ∧ 1 ≤ xs.length ∧ xs.length ≤ 3 ∧ (∀ x ∈ xs, I64 x) ∧
      w'.ownsRow w.heap.size 3 1 (.slice A xs.length c) xs.length (intCells xs) ∧ Cur w' p ∧ w.grownBy w' (some p) := by
  have hp := hc.lt
  obtain ⟨W, hW⟩ : ∃ W, W = ((((((w.alloc (.cells #[.int .i64 1] 3)).alloc (.cells #[.int .i64 2] 3)).alloc (.cells #[.int .i64 1, .int .i64 2] 3)).alloc (.cells #[.int .i64 1, .int .i64 1] 3)).alloc (.cells #[.int .i64 2, .int .i64 1] 3)).alloc (.cells #[.int .i64 1, .int .i64 2, .int .i64 1] 3)).alloc (.cells #[.slice (some ⟨w.heap.size, 0, none⟩) 1 1, .slice (some ⟨w.heap.size + 1, 0, none⟩) 1 1, .slice (some ⟨w.heap.size + 1 + 1, 0, none⟩) 2 2, .slice (some ⟨w.heap.size + 1 + 1 + 1, 0, none⟩) 2 2, .slice (some ⟨w.heap.size + 1 + 1 + 1 + 1, 0, none⟩) 2 2, .slice (some ⟨w.heap.size + 1 + 1 + 1 + 1 + 1, 0, none⟩) 3 3] 24) := ⟨_, rfl⟩
  have hbW : Below w.heap.size w W := by rw [hW]; exact Below.alloc0 (Below.alloc0 (Below.alloc0 (Below.alloc0 (Below.alloc0 (Below.alloc0 (Below.alloc0 (Below.refl _ _) _) _) _) _) _) _) _
  have own0 : W.ownsRow w.heap.size 3 1 (.slice (some ⟨w.heap.size, 0, none⟩) 1 1) 1 (intCells [1]) := by rw [hW]; exact ((((((own_lit_n #[.int .i64 1] 1 (by simp) (by simp; try omega) (by decide) rfl).alloc _).alloc _).alloc _).alloc _).alloc _).alloc _
  have cel0 : W.cell? ⟨w.heap.size + 1 + 1 + 1 + 1 + 1 + 1, 0, none⟩ = some (.slice (some ⟨w.heap.size, 0, none⟩) 1 1) := by rw [hW]; simp [go_sem]
  have own1 : W.ownsRow w.heap.size 3 1 (.slice (some ⟨w.heap.size + 1, 0, none⟩) 1 1) 1 (intCells [2]) := by rw [hW]; exact (((((own_lit_n #[.int .i64 2] 1 (by simp) (by simp; try omega) (by decide) rfl).alloc _).alloc _).alloc _).alloc _).alloc _
  have cel1 : W.cell? ⟨w.heap.size + 1 + 1 + 1 + 1 + 1 + 1, 1, none⟩ = some (.slice (some ⟨w.heap.size + 1, 0, none⟩) 1 1) := by rw [hW]; simp [go_sem]
  have own2 : W.ownsRow w.heap.size 3 1 (.slice (some ⟨w.heap.size + 1 + 1, 0, none⟩) 2 2) 2 (intCells [1, 2]) := by rw [hW]; exact ((((own_lit_n #[.int .i64 1, .int .i64 2] 2 (by simp) (by simp; try omega) (by decide) rfl).alloc _).alloc _).alloc _).alloc _
  have cel2 : W.cell? ⟨w.heap.size + 1 + 1 + 1 + 1 + 1 + 1, 2, none⟩ = some (.slice (some ⟨w.heap.size + 1 + 1, 0, none⟩) 2 2) := by rw [hW]; simp [go_sem]
  have own3 : W.ownsRow w.heap.size 3 1 (.slice (some ⟨w.heap.size + 1 + 1 + 1, 0, none⟩) 2 2) 2 (intCells [1, 1]) := by rw [hW]; exact (((own_lit_n #[.int .i64 1, .int .i64 1] 2 (by simp) (by simp; try omega) (by decide) rfl).alloc _).alloc _).alloc _
  have cel3 : W.cell? ⟨w.heap.size + 1 + 1 + 1 + 1 + 1 + 1, 3, none⟩ = some (.slice (some ⟨w.heap.size + 1 + 1 + 1, 0, none⟩) 2 2) := by rw [hW]; simp [go_sem]
  have own4 : W.ownsRow w.heap.size 3 1 (.slice (some ⟨w.heap.size + 1 + 1 + 1 + 1, 0, none⟩) 2 2) 2 (intCells [2, 1]) := by rw [hW]; exact ((own_lit_n #[.int .i64 2, .int .i64 1] 2 (by simp) (by simp; try omega) (by decide) rfl).alloc _).alloc _
  have cel4 : W.cell? ⟨w.heap.size + 1 + 1 + 1 + 1 + 1 + 1, 4, none⟩ = some (.slice (some ⟨w.heap.size + 1 + 1 + 1 + 1, 0, none⟩) 2 2) := by rw [hW]; simp [go_sem]
  have own5 : W.ownsRow w.heap.size 3 1 (.slice (some ⟨w.heap.size + 1 + 1 + 1 + 1 + 1, 0, none⟩) 3 3) 3 (intCells [1, 2, 1]) := by rw [hW]; exact (own_lit_n #[.int .i64 1, .int .i64 2, .int .i64 1] 3 (by simp) (by simp; try omega) (by decide) rfl).alloc _
  have cel5 : W.cell? ⟨w.heap.size + 1 + 1 + 1 + 1 + 1 + 1, 5, none⟩ = some (.slice (some ⟨w.heap.size + 1 + 1 + 1 + 1 + 1, 0, none⟩) 3 3) := by rw [hW]; simp [go_sem]
  have hcW := hc.below hbW
  have hgW := Below.to_grown hbW (some p)
  clear hbW hc
  go_enter Tryz.func27, Tryz.ntmps27
  go_wp2_with fail
  rw [← hW]
  clear hW
  refine (l1Below_any W p hcW 6 (by omega) (by omega)).mono ?_
  rintro e w2 ⟨k, rfl, hk, hc2, hg2⟩
  have hg := hgW.trans hg2
  rcases (show k = 0 ∨ k = 1 ∨ k = 2 ∨ k = 3 ∨ k = 4 ∨ k = 5 by omega) with rfl | rfl | rfl | rfl | rfl | rfl
  · have hd := hg2.cell cel0 (fun e => by have := Option.some.inj e; simp at this; omega)
    have ho := own_cur own0 hg2 hp
    clear own0 cel0 own1 cel1 own2 cel2 own3 cel3 own4 cel4 own5 cel5
    go_wp2
    go_ret
    exact ⟨_, _, [1], rfl, by simp, by simp, by simp [I64], ho, hc2, hg⟩
  · have hd := hg2.cell cel1 (fun e => by have := Option.some.inj e; simp at this; omega)
    have ho := own_cur own1 hg2 hp
    clear own0 cel0 own1 cel1 own2 cel2 own3 cel3 own4 cel4 own5 cel5
    go_wp2
    go_ret
    exact ⟨_, _, [2], rfl, by simp, by simp, by simp [I64], ho, hc2, hg⟩
  · have hd := hg2.cell cel2 (fun e => by have := Option.some.inj e; simp at this; omega)
    have ho := own_cur own2 hg2 hp
    clear own0 cel0 own1 cel1 own2 cel2 own3 cel3 own4 cel4 own5 cel5
    go_wp2
    go_ret
    exact ⟨_, _, [1, 2], rfl, by simp, by simp, by simp [I64], ho, hc2, hg⟩
  · have hd := hg2.cell cel3 (fun e => by have := Option.some.inj e; simp at this; omega)
    have ho := own_cur own3 hg2 hp
    clear own0 cel0 own1 cel1 own2 cel2 own3 cel3 own4 cel4 own5 cel5
    go_wp2
    go_ret
    exact ⟨_, _, [1, 1], rfl, by simp, by simp, by simp [I64], ho, hc2, hg⟩
  · have hd := hg2.cell cel4 (fun e => by have := Option.some.inj e; simp at this; omega)
    have ho := own_cur own4 hg2 hp
    clear own0 cel0 own1 cel1 own2 cel2 own3 cel3 own4 cel4 own5 cel5
    go_wp2
    go_ret
    exact ⟨_, _, [2, 1], rfl, by simp, by simp, by simp [I64], ho, hc2, hg⟩
  · have hd := hg2.cell cel5 (fun e => by have := Option.some.inj e; simp at this; omega)
    have ho := own_cur own5 hg2 hp
    clear own0 cel0 own1 cel1 own2 cel2 own3 cel3 own4 cel4 own5 cel5
    go_wp2
    go_ret
    exact ⟨_, _, [1, 2, 1], rfl, by simp, by simp, by simp [I64], ho, hc2, hg⟩
end Go.Proofs.YtgpimlmolcjeoaaGreatDoor
