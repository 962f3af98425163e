/-
  The reference's copies of rows: l4Copy, l4All.
-/
import Derived.Test.YtgpimlmolcjeoaaGreatDoorRdraw2
import Derived.Test.YtgpimlmolcjeoaaGreatDoorPutv0
namespace Go.Proofs.YtgpimlmolcjeoaaGreatDoor
open Go.RowKit
set_option linter.unusedVariables false
set_option maxRecDepth 100000

theorem own_empty_m {w : World} {base size n : Nat} {e : TypeId} (hn : n = w.heap.size) (hb : base ≤ w.heap.size) : (w.alloc (.cells #[] e)).ownsRow base e size (.slice (some ⟨n, 0, none⟩) 0 0) 0 [] := by
  subst hn
  exact own_empty hb
theorem vone (vs : List V) : ∀ u ∈ valCells vs, u.oneCell' = true := by
  intro u hu
  obtain ⟨v, _, hv⟩ := List.mem_flatMap.1 hu
  simp only [V.enc, List.mem_cons, List.not_mem_nil, or_false] at hv
  rcases hv with rfl | rfl | rfl <;> rfl
set_option maxHeartbeats 6400000 in
theorem l4Copy_any (w : World) (id : Int) (b c : Nat) (vs : List V) (hv0 : 0 < vs.length) (hv : vs.length ≤ 1048576) (hr : Reads w w.heap.size 3 (some ⟨b, 0, none⟩) vs.length (valCells vs)) :
    Calls Tryz.prog 57 #[.agg #[.int .i64 id, .slice (some ⟨b, 0, none⟩) vs.length c]] w fun e w' => ∃ A' c', e = .returned (.agg #[.int .i64 id, .slice A' vs.length c']) ∧
      w'.ownsRow w.heap.size 49 3 (.slice A' vs.length c') vs.length (valCells vs) ∧ Below w.heap.size w w' := by
  obtain ⟨i0, hi0, hz0, hz1, hz2⟩ := info_parts info_Val
  obtain ⟨n, hn⟩ : ∃ n, n = vs.length := ⟨_, rfl⟩
  have hr2 := hr.2 hv0
  have hvl := valCells_length vs
  obtain ⟨xs, hxs⟩ : ∃ xs, xs = valCells vs := ⟨_, rfl⟩
  have hone := vone vs
  rw [← hxs] at hone hvl hr2 ⊢
  rw [← hn] at hv0 hv hvl ⊢
  have hsrc : ∀ j u, xs[j]? = some u → w.cell? ⟨b, j, none⟩ = some u := by
    obtain ⟨b', off, e, hb, hc⟩ := hr2
    injection e with e
    injection e with e1 e2
    subst e1
    subst e2
    intro j u hj
    have := hc j u hj
    simpa using this
  have hb0 : b < w.heap.size := by
    obtain ⟨b', off, e, hb, hc⟩ := hr2
    injection e with e
    injection e with e1 e2
    subst e1
    exact hb
  clear hr hr2 hn hxs
  obtain ⟨W, hW⟩ : ∃ W, W = (w.alloc (.cells #[.int .i64 id, .slice (some ⟨b, 0, none⟩) n c] 27)).alloc (.cells #[.int .i64 0, .slice none 0 0] 27) := ⟨_, rfl⟩
  have hbW : Below w.heap.size w W := by rw [hW]; exact Below.alloc0 (Below.alloc0 (Below.refl _ _) _) _
  have f0 : W.cell? ⟨w.heap.size, 0, none⟩ = some (.int .i64 id) := by rw [hW]; simp [go_sem]
  have f1 : W.cell? ⟨w.heap.size, 1, none⟩ = some (.slice (some ⟨b, 0, none⟩) n c) := by rw [hW]; simp [go_sem]
  have q0 : W.cell? ⟨w.heap.size + 1, 0, none⟩ = some (.int .i64 0) := by rw [hW]; simp [go_sem]
  have q1 : W.cell? ⟨w.heap.size + 1, 1, none⟩ = some (.slice none 0 0) := by rw [hW]; simp [go_sem]
  have z0 : W.frozen? ⟨w.heap.size + 1, 0, none⟩ = false := by rw [hW]; simp [go_sem]
  have z1 : W.frozen? ⟨w.heap.size + 1, 1, none⟩ = false := by rw [hW]; simp [go_sem]
  have hszW : W.heap.size = w.heap.size + 2 := by rw [hW]; simp
  have hsrcW : ∀ j u, xs[j]? = some u → W.cell? ⟨b, j, none⟩ = some u := fun j u hj => (hbW.cell (p := ⟨b, j, none⟩) hb0).trans (hsrc j u hj)
  clear hsrc
  obtain ⟨R, hR⟩ : ∃ R, R = w.heap.size + 1 := ⟨_, rfl⟩
  go_enter Tryz.func57, Tryz.ntmps57
  go_wp2_with fail
  rw [← hW]
  clear hW
  refine wp_region_any (by kernel_rfl) ?_
  change wpAny _ _ _ _ _ _ _ (World.drew _)
  refine wpAny_take (i := 0) (v := .pointer (some ⟨w.heap.size, 0, none⟩)) rfl (by kernel_rfl) (by kernel_rfl) (by kernel_rfl) (fun _ _ _ h => h) (Or.inl ⟨by kernel_rfl, fun _ => by go_simp⟩) ?_
  refine wpAny_take (i := 3) (v := .pointer (some ⟨w.heap.size, 1, none⟩)) rfl (by kernel_rfl) (by kernel_rfl) (by kernel_rfl) (fun _ _ _ h => h) (Or.inl ⟨by kernel_rfl, fun _ => by go_simp⟩) ?_
  refine wpAny_ready (rs := [1, 2, 4]) (by kernel_rfl) (by simp) ?_
  refine (AllReady.cons rfl (fun K hK => ?_) (AllReady.cons rfl (fun K hK => ?_) (AllReady.cons rfl (fun K hK => ?_) AllReady.nil)))
  · go_simp
    refine hK _ _ ?_
    clear hK K
    refine wpAny_ready (rs := [2, 4]) (by kernel_rfl) (by simp) ?_
    refine (AllReady.cons rfl (fun K hK => ?_) (AllReady.cons rfl (fun K hK => ?_) AllReady.nil))
    · go_simp
      refine hK _ _ ?_
      clear hK K
      refine wpAny_ready (rs := [4]) (by kernel_rfl) (by simp) ?_
      refine (AllReady.cons rfl (fun K hK => ?_) AllReady.nil)
      go_simp
      refine hK _ _ ?_
      clear hK K
      refine wpAny_ready (rs := [5]) (by kernel_rfl) (by simp) ?_
      refine (AllReady.cons rfl (fun K hK => ?_) AllReady.nil)
      have hown0 : (W.alloc (.cells #[] 49)).drew.ownsRow W.heap.size 49 3 (.slice (some ⟨w.heap.size + 2, 0, none⟩) 0 0) 0 [] := own_empty_m (w := W) (base := W.heap.size) (size := 3) (e := 49) (n := w.heap.size + 2) hszW.symm (Nat.le_refl _)
      refine append_some_wp (.tmp 5) (.tmp 7) 25 rfl W.heap.size 49 i0 _ 3 32 Tryz.underlying25 hi0 hz0 hz1 hz2 rfl (by omega) (by omega) _ 0 0 _ rfl hown0 b n c xs rfl (fun j u hj => (show (W.alloc (.cells #[] 49)).cell? ⟨b, j, none⟩ = some u from (World.cell?_alloc_lt _ _ _ (by simp; omega)).trans (hsrcW j u hj))) hvl hv0 hone (by simp) (by omega) (by omega) ?_
      intro A4 c4 w4 hown4 hb4
      have hb5 : Below W.heap.size W w4 := (((Below.refl W.heap.size W).alloc (Nat.le_refl _) (.cells #[] 49)).drew).trans hb4
      rw [Nat.zero_add, List.nil_append] at hown4
      rw [Nat.zero_add]
      replace f0 := cell_keep hb5 f0
      replace q0 := cell_keep hb5 q0
      replace q1 := cell_keep hb5 q1
      replace z0 := (hb5.frozen (p := ⟨w.heap.size + 1, 0, none⟩) (by simp; omega)).trans z0
      replace z1 := (hb5.frozen (p := ⟨w.heap.size + 1, 1, none⟩) (by simp; omega)).trans z1
      have hbF := hbW.trans (hb5.mono hbW.size)
      clear hb4 hsrcW hown0
      refine hK _ _ ?_
      clear hK K
      refine wpAny_ready (rs := [6]) (by kernel_rfl) (by simp) ?_
      refine (AllReady.cons rfl (fun K hK => ?_) AllReady.nil)
      go_simp
      refine hK _ _ ?_
      clear hK K
      refine wpAny_ready (rs := [7]) (by kernel_rfl) (by simp) ?_
      refine (AllReady.cons rfl (fun K hK => ?_) AllReady.nil)
      have hne : w.heap.size + 1 ≠ w.heap.size := by omega
      have hown5 := own_low4 hown4 (show w.heap.size ≤ W.heap.size by omega)
      have hg1 := (grown_set w4 (w.heap.size + 1) 0 (.int .i64 id)).trans (grown_set _ (w.heap.size + 1) 1 (.slice A4 n c4))
      have hown6 := own_low4 (own_cur hown4 hg1 (by omega)) (show w.heap.size ≤ W.heap.size by omega)
      have hb6 := hbF.grown hg1 hbF.size (fun q hq => by have := Option.some.inj hq; omega)
      have r0 : ((w4.setCell ⟨w.heap.size + 1, 0, none⟩ (.int .i64 id)).setCell ⟨w.heap.size + 1, 1, none⟩ (.slice A4 n c4)).cell? ⟨w.heap.size + 1, 0, none⟩ = some (.int .i64 id) := (World.cell?_setCell_other _ _ _ _ (by simp)).trans (World.cell?_setCell_same _ _ _ q0)
      have r1 : ((w4.setCell ⟨w.heap.size + 1, 0, none⟩ (.int .i64 id)).setCell ⟨w.heap.size + 1, 1, none⟩ (.slice A4 n c4)).cell? ⟨w.heap.size + 1, 1, none⟩ = some (.slice A4 n c4) := World.cell?_setCell_same _ _ _ ((World.cell?_setCell_other _ _ _ _ (by simp)).trans q1)
      go_simp
      refine hK _ _ ?_
      clear hK K
      refine wpAny_done (by kernel_rfl) ?_ _
      go_wp2_with fail
      exact bodyPost_ret (v := .agg #[.int .i64 id, .slice A4 n c4]) (by simp [results, Tryz.results57, go_sem, r0, r1]) rfl ⟨A4, c4, rfl, hown6, hb6⟩
    · go_simp
      refine hK _ _ ?_
      clear hK K
      refine wpAny_ready (rs := [2]) (by kernel_rfl) (by simp) ?_
      refine (AllReady.cons rfl (fun K hK => ?_) AllReady.nil)
      go_simp
      refine hK _ _ ?_
      clear hK K
      refine wpAny_ready (rs := [5]) (by kernel_rfl) (by simp) ?_
      refine (AllReady.cons rfl (fun K hK => ?_) AllReady.nil)
      have hown0 : (W.alloc (.cells #[] 49)).drew.ownsRow W.heap.size 49 3 (.slice (some ⟨w.heap.size + 2, 0, none⟩) 0 0) 0 [] := own_empty_m (w := W) (base := W.heap.size) (size := 3) (e := 49) (n := w.heap.size + 2) hszW.symm (Nat.le_refl _)
      refine append_some_wp (.tmp 5) (.tmp 7) 25 rfl W.heap.size 49 i0 _ 3 32 Tryz.underlying25 hi0 hz0 hz1 hz2 rfl (by omega) (by omega) _ 0 0 _ rfl hown0 b n c xs rfl (fun j u hj => (show (W.alloc (.cells #[] 49)).cell? ⟨b, j, none⟩ = some u from (World.cell?_alloc_lt _ _ _ (by simp; omega)).trans (hsrcW j u hj))) hvl hv0 hone (by simp) (by omega) (by omega) ?_
      intro A4 c4 w4 hown4 hb4
      have hb5 : Below W.heap.size W w4 := (((Below.refl W.heap.size W).alloc (Nat.le_refl _) (.cells #[] 49)).drew).trans hb4
      rw [Nat.zero_add, List.nil_append] at hown4
      rw [Nat.zero_add]
      replace f0 := cell_keep hb5 f0
      replace q0 := cell_keep hb5 q0
      replace q1 := cell_keep hb5 q1
      replace z0 := (hb5.frozen (p := ⟨w.heap.size + 1, 0, none⟩) (by simp; omega)).trans z0
      replace z1 := (hb5.frozen (p := ⟨w.heap.size + 1, 1, none⟩) (by simp; omega)).trans z1
      have hbF := hbW.trans (hb5.mono hbW.size)
      clear hb4 hsrcW hown0
      refine hK _ _ ?_
      clear hK K
      refine wpAny_ready (rs := [6]) (by kernel_rfl) (by simp) ?_
      refine (AllReady.cons rfl (fun K hK => ?_) AllReady.nil)
      go_simp
      refine hK _ _ ?_
      clear hK K
      refine wpAny_ready (rs := [7]) (by kernel_rfl) (by simp) ?_
      refine (AllReady.cons rfl (fun K hK => ?_) AllReady.nil)
      have hne : w.heap.size + 1 ≠ w.heap.size := by omega
      have hown5 := own_low4 hown4 (show w.heap.size ≤ W.heap.size by omega)
      have hg1 := (grown_set w4 (w.heap.size + 1) 0 (.int .i64 id)).trans (grown_set _ (w.heap.size + 1) 1 (.slice A4 n c4))
      have hown6 := own_low4 (own_cur hown4 hg1 (by omega)) (show w.heap.size ≤ W.heap.size by omega)
      have hb6 := hbF.grown hg1 hbF.size (fun q hq => by have := Option.some.inj hq; omega)
      have r0 : ((w4.setCell ⟨w.heap.size + 1, 0, none⟩ (.int .i64 id)).setCell ⟨w.heap.size + 1, 1, none⟩ (.slice A4 n c4)).cell? ⟨w.heap.size + 1, 0, none⟩ = some (.int .i64 id) := (World.cell?_setCell_other _ _ _ _ (by simp)).trans (World.cell?_setCell_same _ _ _ q0)
      have r1 : ((w4.setCell ⟨w.heap.size + 1, 0, none⟩ (.int .i64 id)).setCell ⟨w.heap.size + 1, 1, none⟩ (.slice A4 n c4)).cell? ⟨w.heap.size + 1, 1, none⟩ = some (.slice A4 n c4) := World.cell?_setCell_same _ _ _ ((World.cell?_setCell_other _ _ _ _ (by simp)).trans q1)
      go_simp
      refine hK _ _ ?_
      clear hK K
      refine wpAny_done (by kernel_rfl) ?_ _
      go_wp2_with fail
      exact bodyPost_ret (v := .agg #[.int .i64 id, .slice A4 n c4]) (by simp [results, Tryz.results57, go_sem, r0, r1]) rfl ⟨A4, c4, rfl, hown6, hb6⟩
  · go_simp
    refine hK _ _ ?_
    clear hK K
    refine wpAny_ready (rs := [1, 4]) (by kernel_rfl) (by simp) ?_
    refine (AllReady.cons rfl (fun K hK => ?_) (AllReady.cons rfl (fun K hK => ?_) AllReady.nil))
    · go_simp
      refine hK _ _ ?_
      clear hK K
      refine wpAny_ready (rs := [4]) (by kernel_rfl) (by simp) ?_
      refine (AllReady.cons rfl (fun K hK => ?_) AllReady.nil)
      go_simp
      refine hK _ _ ?_
      clear hK K
      refine wpAny_ready (rs := [5]) (by kernel_rfl) (by simp) ?_
      refine (AllReady.cons rfl (fun K hK => ?_) AllReady.nil)
      have hown0 : (W.alloc (.cells #[] 49)).drew.ownsRow W.heap.size 49 3 (.slice (some ⟨w.heap.size + 2, 0, none⟩) 0 0) 0 [] := own_empty_m (w := W) (base := W.heap.size) (size := 3) (e := 49) (n := w.heap.size + 2) hszW.symm (Nat.le_refl _)
      refine append_some_wp (.tmp 5) (.tmp 7) 25 rfl W.heap.size 49 i0 _ 3 32 Tryz.underlying25 hi0 hz0 hz1 hz2 rfl (by omega) (by omega) _ 0 0 _ rfl hown0 b n c xs rfl (fun j u hj => (show (W.alloc (.cells #[] 49)).cell? ⟨b, j, none⟩ = some u from (World.cell?_alloc_lt _ _ _ (by simp; omega)).trans (hsrcW j u hj))) hvl hv0 hone (by simp) (by omega) (by omega) ?_
      intro A4 c4 w4 hown4 hb4
      have hb5 : Below W.heap.size W w4 := (((Below.refl W.heap.size W).alloc (Nat.le_refl _) (.cells #[] 49)).drew).trans hb4
      rw [Nat.zero_add, List.nil_append] at hown4
      rw [Nat.zero_add]
      replace f0 := cell_keep hb5 f0
      replace q0 := cell_keep hb5 q0
      replace q1 := cell_keep hb5 q1
      replace z0 := (hb5.frozen (p := ⟨w.heap.size + 1, 0, none⟩) (by simp; omega)).trans z0
      replace z1 := (hb5.frozen (p := ⟨w.heap.size + 1, 1, none⟩) (by simp; omega)).trans z1
      have hbF := hbW.trans (hb5.mono hbW.size)
      clear hb4 hsrcW hown0
      refine hK _ _ ?_
      clear hK K
      refine wpAny_ready (rs := [6]) (by kernel_rfl) (by simp) ?_
      refine (AllReady.cons rfl (fun K hK => ?_) AllReady.nil)
      go_simp
      refine hK _ _ ?_
      clear hK K
      refine wpAny_ready (rs := [7]) (by kernel_rfl) (by simp) ?_
      refine (AllReady.cons rfl (fun K hK => ?_) AllReady.nil)
      have hne : w.heap.size + 1 ≠ w.heap.size := by omega
      have hown5 := own_low4 hown4 (show w.heap.size ≤ W.heap.size by omega)
      have hg1 := (grown_set w4 (w.heap.size + 1) 0 (.int .i64 id)).trans (grown_set _ (w.heap.size + 1) 1 (.slice A4 n c4))
      have hown6 := own_low4 (own_cur hown4 hg1 (by omega)) (show w.heap.size ≤ W.heap.size by omega)
      have hb6 := hbF.grown hg1 hbF.size (fun q hq => by have := Option.some.inj hq; omega)
      have r0 : ((w4.setCell ⟨w.heap.size + 1, 0, none⟩ (.int .i64 id)).setCell ⟨w.heap.size + 1, 1, none⟩ (.slice A4 n c4)).cell? ⟨w.heap.size + 1, 0, none⟩ = some (.int .i64 id) := (World.cell?_setCell_other _ _ _ _ (by simp)).trans (World.cell?_setCell_same _ _ _ q0)
      have r1 : ((w4.setCell ⟨w.heap.size + 1, 0, none⟩ (.int .i64 id)).setCell ⟨w.heap.size + 1, 1, none⟩ (.slice A4 n c4)).cell? ⟨w.heap.size + 1, 1, none⟩ = some (.slice A4 n c4) := World.cell?_setCell_same _ _ _ ((World.cell?_setCell_other _ _ _ _ (by simp)).trans q1)
      go_simp
      refine hK _ _ ?_
      clear hK K
      refine wpAny_done (by kernel_rfl) ?_ _
      go_wp2_with fail
      exact bodyPost_ret (v := .agg #[.int .i64 id, .slice A4 n c4]) (by simp [results, Tryz.results57, go_sem, r0, r1]) rfl ⟨A4, c4, rfl, hown6, hb6⟩
    · go_simp
      refine hK _ _ ?_
      clear hK K
      refine wpAny_ready (rs := [1, 5]) (by kernel_rfl) (by simp) ?_
      refine (AllReady.cons rfl (fun K hK => ?_) (AllReady.cons rfl (fun K hK => ?_) AllReady.nil))
      · go_simp
        refine hK _ _ ?_
        clear hK K
        refine wpAny_ready (rs := [5]) (by kernel_rfl) (by simp) ?_
        refine (AllReady.cons rfl (fun K hK => ?_) AllReady.nil)
        have hown0 : (W.alloc (.cells #[] 49)).drew.ownsRow W.heap.size 49 3 (.slice (some ⟨w.heap.size + 2, 0, none⟩) 0 0) 0 [] := own_empty_m (w := W) (base := W.heap.size) (size := 3) (e := 49) (n := w.heap.size + 2) hszW.symm (Nat.le_refl _)
        refine append_some_wp (.tmp 5) (.tmp 7) 25 rfl W.heap.size 49 i0 _ 3 32 Tryz.underlying25 hi0 hz0 hz1 hz2 rfl (by omega) (by omega) _ 0 0 _ rfl hown0 b n c xs rfl (fun j u hj => (show (W.alloc (.cells #[] 49)).cell? ⟨b, j, none⟩ = some u from (World.cell?_alloc_lt _ _ _ (by simp; omega)).trans (hsrcW j u hj))) hvl hv0 hone (by simp) (by omega) (by omega) ?_
        intro A4 c4 w4 hown4 hb4
        have hb5 : Below W.heap.size W w4 := (((Below.refl W.heap.size W).alloc (Nat.le_refl _) (.cells #[] 49)).drew).trans hb4
        rw [Nat.zero_add, List.nil_append] at hown4
        rw [Nat.zero_add]
        replace f0 := cell_keep hb5 f0
        replace q0 := cell_keep hb5 q0
        replace q1 := cell_keep hb5 q1
        replace z0 := (hb5.frozen (p := ⟨w.heap.size + 1, 0, none⟩) (by simp; omega)).trans z0
        replace z1 := (hb5.frozen (p := ⟨w.heap.size + 1, 1, none⟩) (by simp; omega)).trans z1
        have hbF := hbW.trans (hb5.mono hbW.size)
        clear hb4 hsrcW hown0
        refine hK _ _ ?_
        clear hK K
        refine wpAny_ready (rs := [6]) (by kernel_rfl) (by simp) ?_
        refine (AllReady.cons rfl (fun K hK => ?_) AllReady.nil)
        go_simp
        refine hK _ _ ?_
        clear hK K
        refine wpAny_ready (rs := [7]) (by kernel_rfl) (by simp) ?_
        refine (AllReady.cons rfl (fun K hK => ?_) AllReady.nil)
        have hne : w.heap.size + 1 ≠ w.heap.size := by omega
        have hown5 := own_low4 hown4 (show w.heap.size ≤ W.heap.size by omega)
        have hg1 := (grown_set w4 (w.heap.size + 1) 0 (.int .i64 id)).trans (grown_set _ (w.heap.size + 1) 1 (.slice A4 n c4))
        have hown6 := own_low4 (own_cur hown4 hg1 (by omega)) (show w.heap.size ≤ W.heap.size by omega)
        have hb6 := hbF.grown hg1 hbF.size (fun q hq => by have := Option.some.inj hq; omega)
        have r0 : ((w4.setCell ⟨w.heap.size + 1, 0, none⟩ (.int .i64 id)).setCell ⟨w.heap.size + 1, 1, none⟩ (.slice A4 n c4)).cell? ⟨w.heap.size + 1, 0, none⟩ = some (.int .i64 id) := (World.cell?_setCell_other _ _ _ _ (by simp)).trans (World.cell?_setCell_same _ _ _ q0)
        have r1 : ((w4.setCell ⟨w.heap.size + 1, 0, none⟩ (.int .i64 id)).setCell ⟨w.heap.size + 1, 1, none⟩ (.slice A4 n c4)).cell? ⟨w.heap.size + 1, 1, none⟩ = some (.slice A4 n c4) := World.cell?_setCell_same _ _ _ ((World.cell?_setCell_other _ _ _ _ (by simp)).trans q1)
        go_simp
        refine hK _ _ ?_
        clear hK K
        refine wpAny_done (by kernel_rfl) ?_ _
        go_wp2_with fail
        exact bodyPost_ret (v := .agg #[.int .i64 id, .slice A4 n c4]) (by simp [results, Tryz.results57, go_sem, r0, r1]) rfl ⟨A4, c4, rfl, hown6, hb6⟩
      · have hown0 : (W.alloc (.cells #[] 49)).drew.ownsRow W.heap.size 49 3 (.slice (some ⟨w.heap.size + 2, 0, none⟩) 0 0) 0 [] := own_empty_m (w := W) (base := W.heap.size) (size := 3) (e := 49) (n := w.heap.size + 2) hszW.symm (Nat.le_refl _)
        refine append_some_wp (.tmp 5) (.tmp 7) 25 rfl W.heap.size 49 i0 _ 3 32 Tryz.underlying25 hi0 hz0 hz1 hz2 rfl (by omega) (by omega) _ 0 0 _ rfl hown0 b n c xs rfl (fun j u hj => (show (W.alloc (.cells #[] 49)).cell? ⟨b, j, none⟩ = some u from (World.cell?_alloc_lt _ _ _ (by simp; omega)).trans (hsrcW j u hj))) hvl hv0 hone (by simp) (by omega) (by omega) ?_
        intro A4 c4 w4 hown4 hb4
        have hb5 : Below W.heap.size W w4 := (((Below.refl W.heap.size W).alloc (Nat.le_refl _) (.cells #[] 49)).drew).trans hb4
        rw [Nat.zero_add, List.nil_append] at hown4
        rw [Nat.zero_add]
        replace f0 := cell_keep hb5 f0
        replace q0 := cell_keep hb5 q0
        replace q1 := cell_keep hb5 q1
        replace z0 := (hb5.frozen (p := ⟨w.heap.size + 1, 0, none⟩) (by simp; omega)).trans z0
        replace z1 := (hb5.frozen (p := ⟨w.heap.size + 1, 1, none⟩) (by simp; omega)).trans z1
        have hbF := hbW.trans (hb5.mono hbW.size)
        clear hb4 hsrcW hown0
        refine hK _ _ ?_
        clear hK K
        refine wpAny_ready (rs := [1]) (by kernel_rfl) (by simp) ?_
        refine (AllReady.cons rfl (fun K hK => ?_) AllReady.nil)
        go_simp
        refine hK _ _ ?_
        clear hK K
        refine wpAny_ready (rs := [6]) (by kernel_rfl) (by simp) ?_
        refine (AllReady.cons rfl (fun K hK => ?_) AllReady.nil)
        go_simp
        refine hK _ _ ?_
        clear hK K
        refine wpAny_ready (rs := [7]) (by kernel_rfl) (by simp) ?_
        refine (AllReady.cons rfl (fun K hK => ?_) AllReady.nil)
        have hne : w.heap.size + 1 ≠ w.heap.size := by omega
        have hown5 := own_low4 hown4 (show w.heap.size ≤ W.heap.size by omega)
        have hg1 := (grown_set w4 (w.heap.size + 1) 0 (.int .i64 id)).trans (grown_set _ (w.heap.size + 1) 1 (.slice A4 n c4))
        have hown6 := own_low4 (own_cur hown4 hg1 (by omega)) (show w.heap.size ≤ W.heap.size by omega)
        have hb6 := hbF.grown hg1 hbF.size (fun q hq => by have := Option.some.inj hq; omega)
        have r0 : ((w4.setCell ⟨w.heap.size + 1, 0, none⟩ (.int .i64 id)).setCell ⟨w.heap.size + 1, 1, none⟩ (.slice A4 n c4)).cell? ⟨w.heap.size + 1, 0, none⟩ = some (.int .i64 id) := (World.cell?_setCell_other _ _ _ _ (by simp)).trans (World.cell?_setCell_same _ _ _ q0)
        have r1 : ((w4.setCell ⟨w.heap.size + 1, 0, none⟩ (.int .i64 id)).setCell ⟨w.heap.size + 1, 1, none⟩ (.slice A4 n c4)).cell? ⟨w.heap.size + 1, 1, none⟩ = some (.slice A4 n c4) := World.cell?_setCell_same _ _ _ ((World.cell?_setCell_other _ _ _ _ (by simp)).trans q1)
        go_simp
        refine hK _ _ ?_
        clear hK K
        refine wpAny_done (by kernel_rfl) ?_ _
        go_wp2_with fail
        exact bodyPost_ret (v := .agg #[.int .i64 id, .slice A4 n c4]) (by simp [results, Tryz.results57, go_sem, r0, r1]) rfl ⟨A4, c4, rfl, hown6, hb6⟩
  · go_simp
    refine hK _ _ ?_
    clear hK K
    refine wpAny_ready (rs := [1, 2]) (by kernel_rfl) (by simp) ?_
    refine (AllReady.cons rfl (fun K hK => ?_) (AllReady.cons rfl (fun K hK => ?_) AllReady.nil))
    · go_simp
      refine hK _ _ ?_
      clear hK K
      refine wpAny_ready (rs := [2]) (by kernel_rfl) (by simp) ?_
      refine (AllReady.cons rfl (fun K hK => ?_) AllReady.nil)
      go_simp
      refine hK _ _ ?_
      clear hK K
      refine wpAny_ready (rs := [5]) (by kernel_rfl) (by simp) ?_
      refine (AllReady.cons rfl (fun K hK => ?_) AllReady.nil)
      have hown0 : (W.alloc (.cells #[] 49)).drew.ownsRow W.heap.size 49 3 (.slice (some ⟨w.heap.size + 2, 0, none⟩) 0 0) 0 [] := own_empty_m (w := W) (base := W.heap.size) (size := 3) (e := 49) (n := w.heap.size + 2) hszW.symm (Nat.le_refl _)
      refine append_some_wp (.tmp 5) (.tmp 7) 25 rfl W.heap.size 49 i0 _ 3 32 Tryz.underlying25 hi0 hz0 hz1 hz2 rfl (by omega) (by omega) _ 0 0 _ rfl hown0 b n c xs rfl (fun j u hj => (show (W.alloc (.cells #[] 49)).cell? ⟨b, j, none⟩ = some u from (World.cell?_alloc_lt _ _ _ (by simp; omega)).trans (hsrcW j u hj))) hvl hv0 hone (by simp) (by omega) (by omega) ?_
      intro A4 c4 w4 hown4 hb4
      have hb5 : Below W.heap.size W w4 := (((Below.refl W.heap.size W).alloc (Nat.le_refl _) (.cells #[] 49)).drew).trans hb4
      rw [Nat.zero_add, List.nil_append] at hown4
      rw [Nat.zero_add]
      replace f0 := cell_keep hb5 f0
      replace q0 := cell_keep hb5 q0
      replace q1 := cell_keep hb5 q1
      replace z0 := (hb5.frozen (p := ⟨w.heap.size + 1, 0, none⟩) (by simp; omega)).trans z0
      replace z1 := (hb5.frozen (p := ⟨w.heap.size + 1, 1, none⟩) (by simp; omega)).trans z1
      have hbF := hbW.trans (hb5.mono hbW.size)
      clear hb4 hsrcW hown0
      refine hK _ _ ?_
      clear hK K
      refine wpAny_ready (rs := [6]) (by kernel_rfl) (by simp) ?_
      refine (AllReady.cons rfl (fun K hK => ?_) AllReady.nil)
      go_simp
      refine hK _ _ ?_
      clear hK K
      refine wpAny_ready (rs := [7]) (by kernel_rfl) (by simp) ?_
      refine (AllReady.cons rfl (fun K hK => ?_) AllReady.nil)
      have hne : w.heap.size + 1 ≠ w.heap.size := by omega
      have hown5 := own_low4 hown4 (show w.heap.size ≤ W.heap.size by omega)
      have hg1 := (grown_set w4 (w.heap.size + 1) 0 (.int .i64 id)).trans (grown_set _ (w.heap.size + 1) 1 (.slice A4 n c4))
      have hown6 := own_low4 (own_cur hown4 hg1 (by omega)) (show w.heap.size ≤ W.heap.size by omega)
      have hb6 := hbF.grown hg1 hbF.size (fun q hq => by have := Option.some.inj hq; omega)
      have r0 : ((w4.setCell ⟨w.heap.size + 1, 0, none⟩ (.int .i64 id)).setCell ⟨w.heap.size + 1, 1, none⟩ (.slice A4 n c4)).cell? ⟨w.heap.size + 1, 0, none⟩ = some (.int .i64 id) := (World.cell?_setCell_other _ _ _ _ (by simp)).trans (World.cell?_setCell_same _ _ _ q0)
      have r1 : ((w4.setCell ⟨w.heap.size + 1, 0, none⟩ (.int .i64 id)).setCell ⟨w.heap.size + 1, 1, none⟩ (.slice A4 n c4)).cell? ⟨w.heap.size + 1, 1, none⟩ = some (.slice A4 n c4) := World.cell?_setCell_same _ _ _ ((World.cell?_setCell_other _ _ _ _ (by simp)).trans q1)
      go_simp
      refine hK _ _ ?_
      clear hK K
      refine wpAny_done (by kernel_rfl) ?_ _
      go_wp2_with fail
      exact bodyPost_ret (v := .agg #[.int .i64 id, .slice A4 n c4]) (by simp [results, Tryz.results57, go_sem, r0, r1]) rfl ⟨A4, c4, rfl, hown6, hb6⟩
    · go_simp
      refine hK _ _ ?_
      clear hK K
      refine wpAny_ready (rs := [1, 5]) (by kernel_rfl) (by simp) ?_
      refine (AllReady.cons rfl (fun K hK => ?_) (AllReady.cons rfl (fun K hK => ?_) AllReady.nil))
      · go_simp
        refine hK _ _ ?_
        clear hK K
        refine wpAny_ready (rs := [5]) (by kernel_rfl) (by simp) ?_
        refine (AllReady.cons rfl (fun K hK => ?_) AllReady.nil)
        have hown0 : (W.alloc (.cells #[] 49)).drew.ownsRow W.heap.size 49 3 (.slice (some ⟨w.heap.size + 2, 0, none⟩) 0 0) 0 [] := own_empty_m (w := W) (base := W.heap.size) (size := 3) (e := 49) (n := w.heap.size + 2) hszW.symm (Nat.le_refl _)
        refine append_some_wp (.tmp 5) (.tmp 7) 25 rfl W.heap.size 49 i0 _ 3 32 Tryz.underlying25 hi0 hz0 hz1 hz2 rfl (by omega) (by omega) _ 0 0 _ rfl hown0 b n c xs rfl (fun j u hj => (show (W.alloc (.cells #[] 49)).cell? ⟨b, j, none⟩ = some u from (World.cell?_alloc_lt _ _ _ (by simp; omega)).trans (hsrcW j u hj))) hvl hv0 hone (by simp) (by omega) (by omega) ?_
        intro A4 c4 w4 hown4 hb4
        have hb5 : Below W.heap.size W w4 := (((Below.refl W.heap.size W).alloc (Nat.le_refl _) (.cells #[] 49)).drew).trans hb4
        rw [Nat.zero_add, List.nil_append] at hown4
        rw [Nat.zero_add]
        replace f0 := cell_keep hb5 f0
        replace q0 := cell_keep hb5 q0
        replace q1 := cell_keep hb5 q1
        replace z0 := (hb5.frozen (p := ⟨w.heap.size + 1, 0, none⟩) (by simp; omega)).trans z0
        replace z1 := (hb5.frozen (p := ⟨w.heap.size + 1, 1, none⟩) (by simp; omega)).trans z1
        have hbF := hbW.trans (hb5.mono hbW.size)
        clear hb4 hsrcW hown0
        refine hK _ _ ?_
        clear hK K
        refine wpAny_ready (rs := [6]) (by kernel_rfl) (by simp) ?_
        refine (AllReady.cons rfl (fun K hK => ?_) AllReady.nil)
        go_simp
        refine hK _ _ ?_
        clear hK K
        refine wpAny_ready (rs := [7]) (by kernel_rfl) (by simp) ?_
        refine (AllReady.cons rfl (fun K hK => ?_) AllReady.nil)
        have hne : w.heap.size + 1 ≠ w.heap.size := by omega
        have hown5 := own_low4 hown4 (show w.heap.size ≤ W.heap.size by omega)
        have hg1 := (grown_set w4 (w.heap.size + 1) 0 (.int .i64 id)).trans (grown_set _ (w.heap.size + 1) 1 (.slice A4 n c4))
        have hown6 := own_low4 (own_cur hown4 hg1 (by omega)) (show w.heap.size ≤ W.heap.size by omega)
        have hb6 := hbF.grown hg1 hbF.size (fun q hq => by have := Option.some.inj hq; omega)
        have r0 : ((w4.setCell ⟨w.heap.size + 1, 0, none⟩ (.int .i64 id)).setCell ⟨w.heap.size + 1, 1, none⟩ (.slice A4 n c4)).cell? ⟨w.heap.size + 1, 0, none⟩ = some (.int .i64 id) := (World.cell?_setCell_other _ _ _ _ (by simp)).trans (World.cell?_setCell_same _ _ _ q0)
        have r1 : ((w4.setCell ⟨w.heap.size + 1, 0, none⟩ (.int .i64 id)).setCell ⟨w.heap.size + 1, 1, none⟩ (.slice A4 n c4)).cell? ⟨w.heap.size + 1, 1, none⟩ = some (.slice A4 n c4) := World.cell?_setCell_same _ _ _ ((World.cell?_setCell_other _ _ _ _ (by simp)).trans q1)
        go_simp
        refine hK _ _ ?_
        clear hK K
        refine wpAny_done (by kernel_rfl) ?_ _
        go_wp2_with fail
        exact bodyPost_ret (v := .agg #[.int .i64 id, .slice A4 n c4]) (by simp [results, Tryz.results57, go_sem, r0, r1]) rfl ⟨A4, c4, rfl, hown6, hb6⟩
      · have hown0 : (W.alloc (.cells #[] 49)).drew.ownsRow W.heap.size 49 3 (.slice (some ⟨w.heap.size + 2, 0, none⟩) 0 0) 0 [] := own_empty_m (w := W) (base := W.heap.size) (size := 3) (e := 49) (n := w.heap.size + 2) hszW.symm (Nat.le_refl _)
        refine append_some_wp (.tmp 5) (.tmp 7) 25 rfl W.heap.size 49 i0 _ 3 32 Tryz.underlying25 hi0 hz0 hz1 hz2 rfl (by omega) (by omega) _ 0 0 _ rfl hown0 b n c xs rfl (fun j u hj => (show (W.alloc (.cells #[] 49)).cell? ⟨b, j, none⟩ = some u from (World.cell?_alloc_lt _ _ _ (by simp; omega)).trans (hsrcW j u hj))) hvl hv0 hone (by simp) (by omega) (by omega) ?_
        intro A4 c4 w4 hown4 hb4
        have hb5 : Below W.heap.size W w4 := (((Below.refl W.heap.size W).alloc (Nat.le_refl _) (.cells #[] 49)).drew).trans hb4
        rw [Nat.zero_add, List.nil_append] at hown4
        rw [Nat.zero_add]
        replace f0 := cell_keep hb5 f0
        replace q0 := cell_keep hb5 q0
        replace q1 := cell_keep hb5 q1
        replace z0 := (hb5.frozen (p := ⟨w.heap.size + 1, 0, none⟩) (by simp; omega)).trans z0
        replace z1 := (hb5.frozen (p := ⟨w.heap.size + 1, 1, none⟩) (by simp; omega)).trans z1
        have hbF := hbW.trans (hb5.mono hbW.size)
        clear hb4 hsrcW hown0
        refine hK _ _ ?_
        clear hK K
        refine wpAny_ready (rs := [1]) (by kernel_rfl) (by simp) ?_
        refine (AllReady.cons rfl (fun K hK => ?_) AllReady.nil)
        go_simp
        refine hK _ _ ?_
        clear hK K
        refine wpAny_ready (rs := [6]) (by kernel_rfl) (by simp) ?_
        refine (AllReady.cons rfl (fun K hK => ?_) AllReady.nil)
        go_simp
        refine hK _ _ ?_
        clear hK K
        refine wpAny_ready (rs := [7]) (by kernel_rfl) (by simp) ?_
        refine (AllReady.cons rfl (fun K hK => ?_) AllReady.nil)
        have hne : w.heap.size + 1 ≠ w.heap.size := by omega
        have hown5 := own_low4 hown4 (show w.heap.size ≤ W.heap.size by omega)
        have hg1 := (grown_set w4 (w.heap.size + 1) 0 (.int .i64 id)).trans (grown_set _ (w.heap.size + 1) 1 (.slice A4 n c4))
        have hown6 := own_low4 (own_cur hown4 hg1 (by omega)) (show w.heap.size ≤ W.heap.size by omega)
        have hb6 := hbF.grown hg1 hbF.size (fun q hq => by have := Option.some.inj hq; omega)
        have r0 : ((w4.setCell ⟨w.heap.size + 1, 0, none⟩ (.int .i64 id)).setCell ⟨w.heap.size + 1, 1, none⟩ (.slice A4 n c4)).cell? ⟨w.heap.size + 1, 0, none⟩ = some (.int .i64 id) := (World.cell?_setCell_other _ _ _ _ (by simp)).trans (World.cell?_setCell_same _ _ _ q0)
        have r1 : ((w4.setCell ⟨w.heap.size + 1, 0, none⟩ (.int .i64 id)).setCell ⟨w.heap.size + 1, 1, none⟩ (.slice A4 n c4)).cell? ⟨w.heap.size + 1, 1, none⟩ = some (.slice A4 n c4) := World.cell?_setCell_same _ _ _ ((World.cell?_setCell_other _ _ _ _ (by simp)).trans q1)
        go_simp
        refine hK _ _ ?_
        clear hK K
        refine wpAny_done (by kernel_rfl) ?_ _
        go_wp2_with fail
        exact bodyPost_ret (v := .agg #[.int .i64 id, .slice A4 n c4]) (by simp [results, Tryz.results57, go_sem, r0, r1]) rfl ⟨A4, c4, rfl, hown6, hb6⟩
end Go.Proofs.YtgpimlmolcjeoaaGreatDoor
