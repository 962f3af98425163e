/-
  Contract of the laws' sameRows; of the laws' sameVals on equal lists.
-/
import Derived.Test.YtgpimlmolcjeoaaGreatDoorRows2
import Derived.Test.YtgpimlmolcjeoaaGreatDoorSamev
namespace Go.Proofs.YtgpimlmolcjeoaaGreatDoor
open Go.RowKit Go.Deep
set_option linter.unusedVariables false
set_option maxRecDepth 100000

theorem laws_sameVals_self (w : World) (A : Option Addr) (c : Nat) (a : List V) (A' : Option Addr) (c' : Nat) (hr : Reads w w.heap.size 3 A a.length (valCells a)) (hr' : Reads w w.heap.size 3 A' a.length (valCells a)) (hl : a.length ≤ 1099511627776) (hi : ∀ x ∈ a, x.ok) :
    Calls Tryz.prog 20 #[.slice A a.length c, .slice A' a.length c'] w fun e w' => e = .returned (.bool true) ∧ Below w.heap.size w w' := by
  have h := laws_sameVals w A c a hr hl hi A' c' a hr' hl hi
  rw [sameVals_self] at h
  exact h
set_option maxHeartbeats 3200000 in
theorem laws_sameRows (w : World) (A : Option Addr) (c n : Nat) (a : List RowV) (hn : a.length = n) (hr : Reads w w.heap.size 2 A n (a.flatMap RowV.enc)) (hin : RowsIn w w.heap.size a) (hsm : Small a) (hl : n ≤ 1099511627776) (A' : Option Addr) (c' n' : Nat) (b : List RowV) (hn' : b.length = n') (hr' : Reads w w.heap.size 2 A' n' (b.flatMap RowV.enc)) (hin' : RowsIn w w.heap.size b) (hsm' : Small b) (hl' : n' ≤ 1099511627776) :
    Calls Tryz.prog 23 #[.slice A n c, .slice A' n' c'] w fun e w' => e = .returned (.bool (sameRows a b)) ∧ Below w.heap.size w w' := by
  have HIN := Lib.hid hin
  have HIN' := Lib.hid hin'
  have HS := Lib.hid hsm
  have HS' := Lib.hid hsm'
  have HN := Lib.hid hn
  have HN' := Lib.hid hn'
  clear hin hin' hsm hsm' hn hn'
  by_cases hlen : n = n'
  case neg =>
    have ho := Lib.hid (rows_len (a := a) (b := b) (by rw [HN.out, HN'.out]; exact hlen))
    have hne : ((n : Int) != (n' : Int)) = true := by simp; omega
    clear hr hr'
    go_enter Tryz.func23, Tryz.ntmps23
    go_wp2
    go_ret
    exact ⟨ret_bool ho.out.symm, Below.refl _ _⟩
  subst hlen
  go_enter Tryz.func23, Tryz.ntmps23
  go_wp2
  go_loopw [5] (fun i wr => ∃ k : Nat, k ≤ n ∧ i = .int .i64 k ∧ Hid (KeysTo a b k) ∧ Below w.heap.size w wr) (fun i _ => n - (intOf i).toNat)
  case atStart => exact ⟨0, Nat.zero_le _, rfl, Lib.hid (KeysTo.zero a b), Below.refl _ _⟩
  case round =>
    obtain ⟨k, hk, rfl, hKT, hbl⟩ := hrel
    by_cases hlt : k < n
    · obtain ⟨p, off, x, rfl, hb, hx, hc0, hc1⟩ := Reads.row (xs := a) (by rw [HN.out]; exact hr) (by rw [HN.out]; exact hlt)
      obtain ⟨p', off', y, rfl, hb', hy, hc0', hc1'⟩ := Reads.row (xs := b) (by rw [HN'.out]; exact hr') (by rw [HN'.out]; exact hlt)
      have hxr := ((HIN.out x (List.mem_of_getElem? hx.out)).below hbl (Nat.le_refl _)).more hbl.size
      have hyr := ((HIN'.out y (List.mem_of_getElem? hy.out)).below hbl (Nat.le_refl _)).more hbl.size
      obtain ⟨hx1, hx2⟩ := HS.out x (List.mem_of_getElem? hx.out)
      obtain ⟨hy1, hy2⟩ := HS'.out y (List.mem_of_getElem? hy.out)
      have hd0 : wr.cell? ⟨p, off + k * 2, none⟩ = some (.int .i64 x.id) := (hbl.cell (p := ⟨p, off + k * 2, none⟩) hb).trans hc0
      have hd1 : wr.cell? ⟨p, off + k * 2 + 1, none⟩ = some (.slice x.A x.l.length x.c) := (hbl.cell (p := ⟨p, off + k * 2 + 1, none⟩) hb).trans hc1
      have he0 : wr.cell? ⟨p', off' + k * 2, none⟩ = some (.int .i64 y.id) := (hbl.cell (p := ⟨p', off' + k * 2, none⟩) hb').trans hc0'
      have he1 : wr.cell? ⟨p', off' + k * 2 + 1, none⟩ = some (.slice y.A y.l.length y.c) := (hbl.cell (p := ⟨p', off' + k * 2 + 1, none⟩) hb').trans hc1'
      clear hr hr' hc0 hc1 hc0' hc1'
      by_cases hid : x.id = y.id
      case neg =>
        have ho := Lib.hid (rows_diff hx.out hy.out (sameRow_no (a := x.l) (b := y.l) hid))
        have hne : (x.id != y.id) = true := by simp [hid]
        clear hid hx hy hKT hxr hyr
        go_wp2_with fail
        go_quiet (fail)
        all_goals go_wp2
        go_ret
        exact ⟨ret_bool ho.out.symm, below_drewN hbl _⟩
      case pos =>
        rw [← hid] at he0
        have HQ := Lib.hid (And.intro hid True.intro)
        have hne : (x.id != x.id) = false := by simp
        obtain ⟨sv, hsv⟩ : ∃ sv, sv = sameVals x.l y.l := ⟨_, rfl⟩
        have HV := Lib.hid hsv
        have hSV : ∀ w : World, Reads w w.heap.size 3 x.A x.l.length (valCells x.l) → Reads w w.heap.size 3 y.A y.l.length (valCells y.l) → Calls Tryz.prog 20 #[.slice x.A x.l.length x.c, .slice y.A y.l.length y.c] w fun e w' => e = .returned (.bool sv) ∧ Below w.heap.size w w' := fun w h1 h2 => by rw [hsv]; exact laws_sameVals w _ _ x.l h1 (by omega) hx2 _ _ y.l h2 (by omega) hy2
        clear hid hsv hx1 hx2 hy1 hy2
        go_wp2_with fail
        go_region_held3 (fun w' => w'.cell? ⟨p, off + k * 2, none⟩ = some (.int .i64 x.id) ∧ w'.cell? ⟨p, off + k * 2 + 1, none⟩ = some (.slice x.A x.l.length x.c) ∧ w'.cell? ⟨p', off' + k * 2, none⟩ = some (.int .i64 x.id) ∧ w'.cell? ⟨p', off' + k * 2 + 1, none⟩ = some (.slice y.A y.l.length y.c) ∧ Below wr.heap.size wr w')
          (first
            | (exact ⟨hd0, hd1, he0, he1, (Below.refl _ _).drew⟩)
            | (go_split_ands; exact ⟨cell_keep hb3 (by assumption), cell_keep hb3 (by assumption), cell_keep hb3 (by assumption), cell_keep hb3 (by assumption), Below.trans (by assumption) (hb3.mono (Below.size (by assumption)))⟩))
          (first
            | (go_at_call 20; refine (hSV _ ((hxr.below (show _ ∧ _ ∧ _ ∧ _ ∧ Below wr.heap.size wr _ by assumption).2.2.2.2 (Nat.le_refl _)).more (Below.size (show _ ∧ _ ∧ _ ∧ _ ∧ Below wr.heap.size wr _ by assumption).2.2.2.2)) ((hyr.below (show _ ∧ _ ∧ _ ∧ _ ∧ Below wr.heap.size wr _ by assumption).2.2.2.2 (Nat.le_refl _)).more (Below.size (show _ ∧ _ ∧ _ ∧ _ ∧ Below wr.heap.size wr _ by assumption).2.2.2.2))).mono ?_; rintro e w3 ⟨rfl, hb3⟩))
        have hBR : Below wr.heap.size wr w3 := (show _ ∧ _ ∧ _ ∧ _ ∧ Below wr.heap.size wr w3 by assumption).2.2.2.2
        have hbl3 := hbl.trans (hBR.mono hbl.size)
        clear hb3 hBR hxr hyr hSV hbl hd0 hd1 he0 he1
        cases sv
        · have ho := Lib.hid (rows_diff hx.out hy.out (by rw [sameRow, ← HV.out]; simp))
          clear hx hy hKT HV
          go_wp2
          go_ret
          exact ⟨ret_bool ho.out.symm, hbl3⟩
        · have hkt2 : Hid (KeysTo a b (k + 1)) := Lib.hid (by
            have h := HV.out.symm
            simp only [sameVals, decide_eq_true_eq] at h
            exact hKT.out.succ hx.out hy.out HQ.out.1 h)
          clear hx hy hKT HV HQ
          go_wp2
          go_roundw
          case rel => exact ⟨k + 1, by omega, by go_num, hkt2, hbl3⟩
          case measure => simp [intOf]; omega
    · have hkn : k = n := by omega
      have ho := Lib.hid (KeysTo.done (a := a) (b := b) (by rw [HN.out, ← hkn]; exact hKT.out) (by rw [HN.out, HN'.out]))
      go_wp2
      go_ret
      exact ⟨ret_bool ho.out.symm, hbl⟩
end Go.Proofs.YtgpimlmolcjeoaaGreatDoor
