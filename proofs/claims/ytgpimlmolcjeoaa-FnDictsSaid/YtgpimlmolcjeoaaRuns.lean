/-
  Contracts of Runs, in the program and in the reference.
-/
import Derived.Test.YtgpimlmolcjeoaaAppend
namespace Go.Proofs.Ytgpimlmolcjeoaa
open Go.RowKit
set_option linter.unusedVariables false
set_option maxRecDepth 100000

def runStep (out : List (V × Int)) (v : V) : List (V × Int) :=
  match out.getLast? with
  | some (u, q) => if u = v then out.dropLast ++ [(u, q + 1)] else out ++ [(v, 1)]
  | none => [(v, 1)]
def runsOf (vs : List V) : List (V × Int) := vs.foldl runStep []
theorem runsOf_snoc {vs : List V} {k : Nat} {x : V} (h : vs[k]? = some x) : runsOf (vs.take (k + 1)) = runStep (runsOf (vs.take k)) x := by
  unfold runsOf
  rw [List.take_add_one, h]
  simp [List.foldl_append]
theorem runStep_nil (x : V) : runStep [] x = [(x, 1)] := rfl
theorem runStep_same (rs : List (V × Int)) (x : V) (q : Int) : runStep (rs ++ [(x, q)]) x = rs ++ [(x, q + 1)] := by simp [runStep]
theorem runStep_new {rs : List (V × Int)} {y x : V} {q : Int} (h : y ≠ x) : runStep (rs ++ [(y, q)]) x = rs ++ [(y, q)] ++ [(x, 1)] := by simp [runStep, h]
theorem runCells_len (rs : List (V × Int)) : (runCells rs).length = rs.length * 4 := flatMap_length_u runEnc 4 (fun _ => rfl) rs
theorem runCells_snoc (rs : List (V × Int)) (x : V) (q : Int) : runCells rs ++ [.int .i64 x.ty, .int .i64 x.n, .string x.s, .int .i64 q] = runCells (rs ++ [(x, q)]) := by simp [runCells, runEnc]
theorem run_set (rs : List (V × Int)) (x : V) (q q2 : Int) : (runCells (rs ++ [(x, q)])).set (rs.length * 4 + 3) (.int .i64 q2) = runCells (rs ++ [(x, q2)]) := by
  rw [← runCells_snoc, ← runCells_snoc, ← runCells_len, List.set_append_right _ _ (by omega)]
  simp
theorem run_get (rs : List (V × Int)) (x : V) (q : Int) (r : Nat) (hr : r < 4) : (runCells (rs ++ [(x, q)]))[rs.length * 4 + r]? = (runEnc (x, q))[r]? := by
  rw [← runCells_snoc, ← runCells_len, List.getElem?_append_right (by omega)]
  simp [runEnc]
/-- what stands after k rounds: the last run is of the value before. -/
def RunsAt (vs : List V) (k : Nat) (rs : List (V × Int)) : Prop := runsOf (vs.take k) = rs ∧ rs.length ≤ k ∧ (k = 0 → rs = []) ∧ (0 < k → ∃ pre y q, rs = pre ++ [(y, q)] ∧ vs[k - 1]? = some y ∧ 1 ≤ q ∧ q ≤ (k : Int))
theorem RunsAt.zero (vs : List V) : RunsAt vs 0 [] := ⟨rfl, Nat.le_refl _, fun _ => rfl, fun h => absurd h (by omega)⟩
theorem RunsAt.first {vs : List V} {x : V} (h : vs[0]? = some x) : RunsAt vs 1 [(x, 1)] := by
  refine ⟨by rw [runsOf_snoc (k := 0) h]; rfl, Nat.le_refl _, fun h => absurd h (by omega), fun _ => ⟨[], x, 1, rfl, h, by omega, by omega⟩⟩
theorem RunsAt.same {vs : List V} {k : Nat} {pre : List (V × Int)} {x : V} {q : Int} (h : RunsAt vs k (pre ++ [(x, q)])) (h1 : 1 ≤ q) (h2 : q ≤ k) (hx : vs[k]? = some x) : RunsAt vs (k + 1) (pre ++ [(x, q + 1)]) := by
  refine ⟨by rw [runsOf_snoc hx, h.1, runStep_same], ?_, fun h => absurd h (by omega), fun _ => ⟨pre, x, q + 1, rfl, by simpa using hx, by omega, by omega⟩⟩
  have := h.2.1
  simp at this ⊢
  omega
theorem RunsAt.new {vs : List V} {k : Nat} {pre : List (V × Int)} {x y : V} {q : Int} (h : RunsAt vs k (pre ++ [(y, q)])) (hn : y ≠ x) (hx : vs[k]? = some x) : RunsAt vs (k + 1) (pre ++ [(y, q)] ++ [(x, 1)]) := by
  refine ⟨by rw [runsOf_snoc hx, h.1, runStep_new hn], ?_, fun h => absurd h (by omega), fun _ => ⟨pre ++ [(y, q)], x, 1, rfl, by simpa using hx, by omega, by omega⟩⟩
  have := h.2.1
  simp at this ⊢
  omega
theorem RunsAt.done {vs : List V} {rs : List (V × Int)} (h : RunsAt vs vs.length rs) : runsOf vs = rs := by
  have := h.1
  rwa [List.take_of_length_le (Nat.le_refl _)] at this
theorem runsOf_len (vs : List V) : (runsOf vs).length ≤ vs.length := by
  have key : ∀ (l : List V) (a : List (V × Int)), (l.foldl runStep a).length ≤ a.length + l.length := by
    intro l
    induction l with
    | nil => intro a; simp
    | cons x l ih =>
      intro a
      have h1 : (runStep a x).length ≤ a.length + 1 := by
        unfold runStep
        split
        · split
          · simp <;> omega
          · simp
        · simp
      have := ih (runStep a x)
      simp only [List.foldl_cons, List.length_cons]
      omega
  simpa [runsOf] using key vs []
theorem info_Run : (Try.prog.info? 44).map (fun i => (i.zero, i.size, i.bytes)) = some (some (.agg #[.int .i64 0, .int .i64 0, .string ByteArray.empty, .int .i64 0]), 4, 40) := by kernel_rfl

theorem own_run {w : World} {base g c j : Nat} {e : TypeId} {pre : List (V × Int)} {x : V} {q : Int} (h : w.ownsRow base e 4 (.slice (some ⟨g, 0, none⟩) (j + 1) c) (j + 1) (runCells (pre ++ [(x, q)]))) (hj : pre.length = j) :
    w.cell? ⟨g, j * 4, none⟩ = some (.int .i64 x.ty) ∧ w.cell? ⟨g, j * 4 + 1, none⟩ = some (.int .i64 x.n) ∧ w.cell? ⟨g, j * 4 + 2, none⟩ = some (.string x.s) ∧ w.cell? ⟨g, j * 4 + 3, none⟩ = some (.int .i64 q) ∧
      ∀ q2, (w.setCell ⟨g, j * 4 + 3, none⟩ (.int .i64 q2)).ownsRow base e 4 (.slice (some ⟨g, 0, none⟩) (j + 1) c) (j + 1) (runCells (pre ++ [(x, q2)])) ∧ w.grownBy (w.setCell ⟨g, j * 4 + 3, none⟩ (.int .i64 q2)) (some g) := by
  subst hj
  refine ⟨(h.cellAt (pre.length * 4) (by omega)).trans (run_get pre x q 0 (by omega)), (h.cellAt (pre.length * 4 + 1) (by omega)).trans (run_get pre x q 1 (by omega)), (h.cellAt (pre.length * 4 + 2) (by omega)).trans (run_get pre x q 2 (by omega)), (h.cellAt (pre.length * 4 + 3) (by omega)).trans (run_get pre x q 3 (by omega)), fun q2 => ?_⟩
  obtain ⟨h1, g1⟩ := h.stored (pre.length * 4 + 3) (.int .i64 q2)
  rw [run_set] at h1
  exact ⟨h1, g1⟩

set_option maxHeartbeats 1600000 in
theorem spec_Runs (w : World) (A : Option Addr) (c : Nat) (vs : List V) (hr : Reads w w.heap.size 3 A vs.length (valCells vs)) (hl : vs.length ≤ 1099511627776) (hi : ∀ x ∈ vs, x.ok) :
    Calls Try.prog 65 #[.slice A vs.length c] w fun e w' => ∃ A' c', e = .returned (.slice A' (runsOf vs).length c') ∧ w'.ownsRow w.heap.size 44 4 (.slice A' (runsOf vs).length c') (runsOf vs).length (runCells (runsOf vs)) ∧ Below w.heap.size w w' := by
  clear hi
  have hgt := eqGuard_Val
  obtain ⟨i0, hi0, hz0, hz1, hz2⟩ := info_parts info_Run
  go_enter Try.func65, Try.ntmps65
  go_wp2
  go_loopw [3, 4] (fun o i wr => ∃ (k : Nat) (A' : Option Addr) (c' : Nat) (rs : List (V × Int)) (m : Nat), k ≤ vs.length ∧ i = .int .i64 k ∧ o = .slice A' m c' ∧ wr.ownsRow w.heap.size 44 4 (.slice A' m c') m (runCells rs) ∧ Hid (RunsAt vs k rs ∧ rs.length = m) ∧ Below w.heap.size w wr) (fun _ i _ => vs.length - (intOf i).toNat)
  case atStart => exact ⟨0, _, _, [], 0, Nat.zero_le _, rfl, rfl, own_empty (Nat.le_refl _), Lib.hid ⟨RunsAt.zero vs, rfl⟩, (Below.refl _ _).alloc (Nat.le_refl _) _⟩
  case round =>
    obtain ⟨k, A', c', rs, m, hk, rfl, rfl, hown, hR, hbl⟩ := hrel
    have hsz := hbl.size
    by_cases hlt : k < vs.length
    · obtain ⟨p, off, x, rfl, hb, hx, hc0, hc1, hc2⟩ := hr.v hlt
      have hd0 : wr.cell? ⟨p, off + k * 3, none⟩ = some (.int .i64 x.ty) := (hbl.cell (p := ⟨p, off + k * 3, none⟩) hb).trans hc0
      have hd1 : wr.cell? ⟨p, off + k * 3 + 1, none⟩ = some (.int .i64 x.n) := (hbl.cell (p := ⟨p, off + k * 3 + 1, none⟩) hb).trans hc1
      have hd2 : wr.cell? ⟨p, off + k * 3 + 2, none⟩ = some (.string x.s) := (hbl.cell (p := ⟨p, off + k * 3 + 2, none⟩) hb).trans hc2
      clear hr hc0 hc1 hc2
      by_cases hk0 : k = 0
      · have hrs := hR.out.1.2.2.1 hk0
        subst hrs
        subst hk0
        obtain rfl : 0 = m := hR.out.2
        have hR2 := Lib.hid (And.intro (RunsAt.first hx.out) (show ([] ++ [(x, (1 : Int))]).length = 0 + 1 from rfl))
        clear hR hx
        simp only [Nat.zero_mul, Nat.add_zero] at hd0 hd1 hd2
        go_wp2
        go_quiet (fail)
        replace hd0 : (wr.drewN nq).cell? ⟨p, off, none⟩ = some (.int .i64 x.ty) := hd0
        replace hd1 : (wr.drewN nq).cell? ⟨p, off + 1, none⟩ = some (.int .i64 x.n) := hd1
        replace hd2 : (wr.drewN nq).cell? ⟨p, off + 2, none⟩ = some (.string x.s) := hd2
        replace hbl := below_drewN hbl nq
        replace hsz := hbl.size
        replace hown : (wr.drewN nq).ownsRow w.heap.size 44 4 (.slice A' 0 c') 0 (runCells []) := hown
        generalize wr.drewN nq = wq at hd0 hd1 hd2 hbl hsz hown ⊢
        go_wp2_with (at_builtin; go_loud (refine append_one rfl (.tmp 42) (.tmp 48) 40 rfl w.heap.size 44 i0 _ 4 40 Try.underlying40 hi0 hz0 hz1 hz2 rfl (by omega) (by omega) A' 0 c' _ rfl hown [.int .i64 x.ty, .int .i64 x.n, .string x.s, .int .i64 1] _ rfl (by first | rfl | simp) rfl (by simp [Value.oneCell']) hsz (by omega) ?_); intro A2 c2 w2 hown2 hb2)
        rw [runCells_snoc] at hown2
        have hbl2 := hbl.trans hb2
        clear hown hbl hb2 hd0 hd1 hd2
        go_wp2
        go_roundw
        case rel => exact ⟨1, A2, c2, _, 1, by omega, by go_num, rfl, hown2, hR2, hbl2⟩
        case measure => simp [intOf]; omega
      · obtain ⟨pre, y, q, rfl, hy, hq1, hq2⟩ := hR.out.1.2.2.2 (by omega)
        obtain ⟨j, hj⟩ : ∃ j, pre.length = j := ⟨_, rfl⟩
        obtain rfl : j + 1 = m := by rw [← hR.out.2]; simp [hj]
        have hjk : j + 1 ≤ k := by have := hR.out.1.2.1; simp [hj] at this; omega
        obtain ⟨g, cap, hv, hg, hgl⟩ := hown.form (by omega)
        obtain ⟨rfl, rfl⟩ : A' = some ⟨g, 0, none⟩ ∧ c' = cap := by injection hv with h1 h2 h3; exact ⟨h1, h3⟩
        obtain ⟨e0, e1, e2, e3, est⟩ := own_run hown hj
        have hf3 := hown.frozenAt (j * 4 + 3)
        have heq := equalIn_Val y x
        cases hv2 : veq y x
        · rw [hv2] at heq
          have hR2 := Lib.hid (And.intro (hR.out.1.new (fun e => by subst e; rw [veq_self] at hv2; cases hv2) hx.out) (show (pre ++ [(y, q)] ++ [(x, 1)]).length = j + 1 + 1 by simp [hj]))
          clear hR hx hv hv2 hy
          go_wp2
          go_quiet (fail)
          clear e0 e1 e2 e3 est heq hf3
          replace hd0 : (wr.drewN nq).cell? ⟨p, off + k * 3, none⟩ = some (.int .i64 x.ty) := hd0
          replace hd1 : (wr.drewN nq).cell? ⟨p, off + k * 3 + 1, none⟩ = some (.int .i64 x.n) := hd1
          replace hd2 : (wr.drewN nq).cell? ⟨p, off + k * 3 + 2, none⟩ = some (.string x.s) := hd2
          replace hbl := below_drewN hbl nq
          replace hsz := hbl.size
          replace hown : (wr.drewN nq).ownsRow w.heap.size 44 4 (.slice (some ⟨g, 0, none⟩) (j + 1) c') (j + 1) (runCells (pre ++ [(y, q)])) := hown
          generalize wr.drewN nq = wq at hd0 hd1 hd2 hbl hsz hown ⊢
          go_wp2_with (at_builtin; go_loud (refine append_one rfl (.tmp 42) (.tmp 48) 40 rfl w.heap.size 44 i0 _ 4 40 Try.underlying40 hi0 hz0 hz1 hz2 rfl (by omega) (by omega) (some ⟨g, 0, none⟩) (j + 1) c' _ rfl hown [.int .i64 x.ty, .int .i64 x.n, .string x.s, .int .i64 1] _ rfl (by first | rfl | simp) rfl (by simp [Value.oneCell']) hsz (by omega) ?_); intro A2 c2 w2 hown2 hb2)
          rw [runCells_snoc] at hown2
          have hbl2 := hbl.trans hb2
          clear hown hbl hb2 hd0 hd1 hd2
          go_wp2
          go_roundw
          case rel => exact ⟨k + 1, A2, c2, _, j + 1 + 1, by omega, by go_num, rfl, hown2, hR2, hbl2⟩
          case measure => simp [intOf]; omega
        · rw [hv2] at heq
          obtain rfl := veq_iff.1 hv2
          have hR2 := Lib.hid (And.intro (hR.out.1.same hq1 hq2 hx.out) (show (pre ++ [(y, q + 1)]).length = j + 1 by simp [hj]))
          clear hR hx hv hv2 hy
          go_wp2
          go_quiet (fail)
          replace e3 : (wr.drewN nq).cell? ⟨g, j * 4 + 3, none⟩ = some (.int .i64 q) := e3
          replace hf3 : (wr.drewN nq).frozen? ⟨g, j * 4 + 3, none⟩ = false := hf3
          obtain ⟨hown2, hgr⟩ : (((wr.drewN nq).setCell ⟨g, j * 4 + 3, none⟩ (.int .i64 (q + 1))).ownsRow w.heap.size 44 4 (.slice (some ⟨g, 0, none⟩) (j + 1) c') (j + 1) (runCells (pre ++ [(y, q + 1)]))) ∧ (wr.drewN nq).grownBy ((wr.drewN nq).setCell ⟨g, j * 4 + 3, none⟩ (.int .i64 (q + 1))) (some g) := (own_run (w := wr.drewN nq) hown hj).2.2.2.2 (q + 1)
          replace hbl := below_drewN hbl nq
          have hbl2 := hbl.grown hgr hbl.size (fun q hq => by injection hq with hq; omega)
          clear hown e0 e1 e2 est hbl hgr hd0 hd1 hd2 heq
          generalize wr.drewN nq = wq at e3 hf3 hown2 hbl2 ⊢
          go_wp2
          go_roundw
          case rel => exact ⟨k + 1, _, _, _, j + 1, by omega, by go_num, rfl, hown2, hR2, hbl2⟩
          case measure => simp [intOf]; omega
    · have hkn : k = vs.length := by omega
      subst hkn
      have hn := Lib.hid hR.out.1.done
      have hm := hR.out.2
      subst hm
      clear hR
      go_wp2
      go_ret
      rw [hn.out]
      exact ⟨_, _, rfl, hown, hbl⟩

set_option maxHeartbeats 1600000 in
theorem impl_Runs (w : World) (A : Option Addr) (c : Nat) (vs : List V) (hr : Reads w w.heap.size 3 A vs.length (valCells vs)) (hl : vs.length ≤ 1099511627776) (hi : ∀ x ∈ vs, x.ok) :
    Calls Try.prog 21 #[.slice A vs.length c] w fun e w' => ∃ A' c', e = .returned (.slice A' (runsOf vs).length c') ∧ w'.ownsRow w.heap.size 44 4 (.slice A' (runsOf vs).length c') (runsOf vs).length (runCells (runsOf vs)) ∧ Below w.heap.size w w' := by
  clear hi
  have hgt := eqGuard_Val
  obtain ⟨i0, hi0, hz0, hz1, hz2⟩ := info_parts info_Run
  go_enter Try.func21, Try.ntmps21
  go_wp2
  go_loopw [3, 9] (fun o i wr => ∃ (k : Nat) (A' : Option Addr) (c' : Nat) (rs : List (V × Int)) (m : Nat), k ≤ vs.length ∧ i = .int .i64 k ∧ o = .slice A' m c' ∧ wr.ownsRow w.heap.size 44 4 (.slice A' m c') m (runCells rs) ∧ Hid (RunsAt vs k rs ∧ rs.length = m) ∧ Below w.heap.size w wr) (fun _ i _ => vs.length - (intOf i).toNat)
  case atStart => exact ⟨0, _, _, [], 0, Nat.zero_le _, rfl, rfl, own_empty (Nat.le_refl _), Lib.hid ⟨RunsAt.zero vs, rfl⟩, (Below.refl _ _).alloc (Nat.le_refl _) _⟩
  case round =>
    obtain ⟨k, A', c', rs, m, hk, rfl, rfl, hown, hR, hbl⟩ := hrel
    have hsz := hbl.size
    by_cases hlt : k < vs.length
    · obtain ⟨p, off, x, rfl, hb, hx, hc0, hc1, hc2⟩ := hr.v hlt
      have hd0 : wr.cell? ⟨p, off + k * 3, none⟩ = some (.int .i64 x.ty) := (hbl.cell (p := ⟨p, off + k * 3, none⟩) hb).trans hc0
      have hd1 : wr.cell? ⟨p, off + k * 3 + 1, none⟩ = some (.int .i64 x.n) := (hbl.cell (p := ⟨p, off + k * 3 + 1, none⟩) hb).trans hc1
      have hd2 : wr.cell? ⟨p, off + k * 3 + 2, none⟩ = some (.string x.s) := (hbl.cell (p := ⟨p, off + k * 3 + 2, none⟩) hb).trans hc2
      obtain ⟨W, hW⟩ : ∃ W, W = wr.alloc (.cells #[.int .i64 x.ty, .int .i64 x.n, .string x.s] 37) := ⟨_, rfl⟩
      have f0 : W.cell? ⟨wr.heap.size, 0, none⟩ = some (.int .i64 x.ty) := by rw [hW]; simp [go_sem]
      have f1 : W.cell? ⟨wr.heap.size, 1, none⟩ = some (.int .i64 x.n) := by rw [hW]; simp [go_sem]
      have f2 : W.cell? ⟨wr.heap.size, 2, none⟩ = some (.string x.s) := by rw [hW]; simp [go_sem]
      have hblW : Below w.heap.size w W := by rw [hW]; exact hbl.alloc hbl.size _
      have hownW : W.ownsRow w.heap.size 44 4 (.slice A' m c') m (runCells rs) := by rw [hW]; exact hown.alloc _
      have HW := Lib.hid hW
      clear hW hc0 hc1 hc2
      by_cases hk0 : k = 0
      · have hrs := hR.out.1.2.2.1 hk0
        subst hrs
        subst hk0
        obtain rfl : 0 = m := hR.out.2
        have hR2 := Lib.hid (And.intro (RunsAt.first hx.out) (show ([] ++ [(x, (1 : Int))]).length = 0 + 1 from rfl))
        clear hR hx
        simp only [Nat.zero_mul, Nat.add_zero] at hd0 hd1 hd2
        clear hr
        go_wp2_with fail
        rw [← HW.out]
        clear HW hbl hown hsz hd0 hd1 hd2
        go_quiet (fail)
        replace f0 : (W.drewN nq).cell? ⟨wr.heap.size, 0, none⟩ = some (.int .i64 x.ty) := f0
        replace f1 : (W.drewN nq).cell? ⟨wr.heap.size, 1, none⟩ = some (.int .i64 x.n) := f1
        replace f2 : (W.drewN nq).cell? ⟨wr.heap.size, 2, none⟩ = some (.string x.s) := f2
        have hbl := below_drewN hblW nq
        have hsz := hbl.size
        have hown : (W.drewN nq).ownsRow w.heap.size 44 4 (.slice A' 0 c') 0 (runCells []) := hownW
        clear hblW hownW
        generalize W.drewN nq = wq at f0 f1 f2 hbl hsz hown ⊢
        go_wp2_with (at_builtin; go_loud (refine append_one rfl (.tmp 35) (.tmp 38) 40 rfl w.heap.size 44 i0 _ 4 40 Try.underlying40 hi0 hz0 hz1 hz2 rfl (by omega) (by omega) A' 0 c' _ rfl hown [.int .i64 x.ty, .int .i64 x.n, .string x.s, .int .i64 1] _ rfl (by first | rfl | simp) rfl (by simp [Value.oneCell']) hsz (by omega) ?_); intro A2 c2 w2 hown2 hb2)
        rw [runCells_snoc] at hown2
        have hbl2 := hbl.trans hb2
        clear hown hbl hb2 f0 f1 f2
        go_wp2
        go_roundw
        case rel => exact ⟨1, A2, c2, _, 1, by omega, by go_num, rfl, hown2, hR2, hbl2⟩
        case measure => simp [intOf]; omega
      · obtain ⟨pre, y, q, rfl, hy, hq1, hq2⟩ := hR.out.1.2.2.2 (by omega)
        obtain ⟨j, hj⟩ : ∃ j, pre.length = j := ⟨_, rfl⟩
        obtain rfl : j + 1 = m := by rw [← hR.out.2]; simp [hj]
        obtain ⟨p', off', x', hpp, hb', hx', hc0, hc1, hc2⟩ := hr.v (show k - 1 < vs.length by omega)
        obtain ⟨rfl, rfl⟩ : p = p' ∧ off = off' := by injection hpp with h; injection h with h1 h2; exact ⟨h1, h2⟩
        obtain rfl : x' = y := Option.some.inj (hx'.out.symm.trans hy)
        have b0 : W.cell? ⟨p, off + (k - 1) * 3, none⟩ = some (.int .i64 x'.ty) := (hblW.cell (p := ⟨p, off + (k - 1) * 3, none⟩) hb).trans hc0
        have b1 : W.cell? ⟨p, off + (k - 1) * 3 + 1, none⟩ = some (.int .i64 x'.n) := (hblW.cell (p := ⟨p, off + (k - 1) * 3 + 1, none⟩) hb).trans hc1
        have b2 : W.cell? ⟨p, off + (k - 1) * 3 + 2, none⟩ = some (.string x'.s) := (hblW.cell (p := ⟨p, off + (k - 1) * 3 + 2, none⟩) hb).trans hc2
        clear hc0 hc1 hc2 hpp hb' hx' hr
        have hjk : j + 1 ≤ k := by have := hR.out.1.2.1; simp [hj] at this; omega
        obtain ⟨g, cap, hv, hg, hgl⟩ := hownW.form (by omega)
        obtain ⟨rfl, rfl⟩ : A' = some ⟨g, 0, none⟩ ∧ c' = cap := by injection hv with h1 h2 h3; exact ⟨h1, h3⟩
        have heq := equalIn_Val x' x
        cases hv2 : veq x' x
        · rw [hv2] at heq
          have hR2 := Lib.hid (And.intro (hR.out.1.new (fun e => by subst e; rw [veq_self] at hv2; cases hv2) hx.out) (show (pre ++ [(x', q)] ++ [(x, 1)]).length = j + 1 + 1 by simp [hj]))
          clear hR hx hv hv2 hy
          obtain ⟨i, hi⟩ : ∃ i, k = i + 1 := ⟨k - 1, by omega⟩
          subst hi
          simp only [Nat.add_sub_cancel] at b0 b1 b2
          go_wp2_with fail
          rw [← HW.out]
          clear HW hbl hown hsz hd0 hd1 hd2
          go_quiet (fail)
          clear b0 b1 b2
          replace f0 : (W.drewN nq).cell? ⟨wr.heap.size, 0, none⟩ = some (.int .i64 x.ty) := f0
          replace f1 : (W.drewN nq).cell? ⟨wr.heap.size, 1, none⟩ = some (.int .i64 x.n) := f1
          replace f2 : (W.drewN nq).cell? ⟨wr.heap.size, 2, none⟩ = some (.string x.s) := f2
          have hbl := below_drewN hblW nq
          have hsz := hbl.size
          have hown : (W.drewN nq).ownsRow w.heap.size 44 4 (.slice (some ⟨g, 0, none⟩) (j + 1) c') (j + 1) (runCells (pre ++ [(x', q)])) := hownW
          clear hblW hownW heq
          generalize W.drewN nq = wq at f0 f1 f2 hbl hsz hown ⊢
          go_wp2_with (at_builtin; go_loud (refine append_one rfl (.tmp 35) (.tmp 38) 40 rfl w.heap.size 44 i0 _ 4 40 Try.underlying40 hi0 hz0 hz1 hz2 rfl (by omega) (by omega) (some ⟨g, 0, none⟩) (j + 1) c' _ rfl hown [.int .i64 x.ty, .int .i64 x.n, .string x.s, .int .i64 1] _ rfl (by first | rfl | simp) rfl (by simp [Value.oneCell']) hsz (by omega) ?_); intro A2 c2 w2 hown2 hb2)
          rw [runCells_snoc] at hown2
          have hbl2 := hbl.trans hb2
          clear hown hbl hb2 f0 f1 f2
          go_wp2
          go_roundw
          case rel => exact ⟨i + 1 + 1, A2, c2, _, j + 1 + 1, by omega, by go_num, rfl, hown2, hR2, hbl2⟩
          case measure => simp [intOf]; omega
        · rw [hv2] at heq
          obtain rfl := veq_iff.1 hv2
          have hR2 := Lib.hid (And.intro (hR.out.1.same hq1 hq2 hx.out) (show (pre ++ [(x', q + 1)]).length = j + 1 by simp [hj]))
          clear hR hx hv hv2 hy
          obtain ⟨i, hi⟩ : ∃ i, k = i + 1 := ⟨k - 1, by omega⟩
          subst hi
          simp only [Nat.add_sub_cancel] at b0 b1 b2
          go_wp2_with fail
          rw [← HW.out]
          clear HW hbl hown hsz hd0 hd1 hd2
          go_quiet (fail)
          clear b0 b1 b2 f0 f1 f2 heq
          have hown : (W.drewN nq).ownsRow w.heap.size 44 4 (.slice (some ⟨g, 0, none⟩) (j + 1) c') (j + 1) (runCells (pre ++ [(x', q)])) := hownW
          have e3 := (own_run hown hj).2.2.2.1
          have hf3 := hown.frozenAt (j * 4 + 3)
          obtain ⟨hown2, hgr⟩ := (own_run hown hj).2.2.2.2 (q + 1)
          have hbl := below_drewN hblW nq
          have hbl2 := hbl.grown hgr hbl.size (fun q hq => by injection hq with hq; omega)
          clear hown hgr hbl hblW hownW
          generalize W.drewN nq = wq at e3 hf3 hown2 hbl2 ⊢
          go_wp2
          go_roundw
          case rel => exact ⟨i + 1 + 1, _, _, _, j + 1, by omega, by go_num, rfl, hown2, hR2, hbl2⟩
          case measure => simp [intOf]; omega
    · have hkn : k = vs.length := by omega
      subst hkn
      have hn := Lib.hid hR.out.1.done
      have hm := hR.out.2
      subst hm
      clear hR
      go_wp2
      go_ret
      rw [hn.out]
      exact ⟨_, _, rfl, hown, hbl⟩

end Go.Proofs.Ytgpimlmolcjeoaa
