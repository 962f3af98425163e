/-
  Contract of slices.Compact at values.
-/
import Derived.Test.YtgpimlmolcjeoaaSortv
import Derived.Lib.SliceRun
import Derived.BigQuiet
import Derived.Deep.QuietTactic
namespace Go.Proofs.Ytgpimlmolcjeoaa
open Go.RowKit
set_option linter.unusedVariables false
set_option maxRecDepth 100000

theorem vc_app (a b : List V) : valCells (a ++ b) = valCells a ++ valCells b := by simp [valCells]
theorem own_v {w : World} {base g n cap i : Nat} {e : TypeId} {B : List V} {x : V} (h : w.ownsRow base e 3 (.slice (some ⟨g, 0, none⟩) n cap) n (valCells B)) (hx : B[i]? = some x) (hi : i < n) :
    w.cell? ⟨g, i * 3, none⟩ = some (.int .i64 x.ty) ∧ w.cell? ⟨g, i * 3 + 1, none⟩ = some (.int .i64 x.n) ∧ w.cell? ⟨g, i * 3 + 2, none⟩ = some (.string x.s) := by
  have hf := fun r (hr : r < 3) => flatMap_get_u V.enc 3 (fun _ => rfl) B i r hr
  rw [hx] at hf
  exact ⟨(h.cellAt _ (by omega)).trans (hf 0 (by omega)), (h.cellAt _ (by omega)).trans (hf 1 (by omega)), (h.cellAt _ (by omega)).trans (hf 2 (by omega))⟩
theorem vc_set (B : List V) (K : Nat) (x : V) : ((((valCells B).set (K * 3) (.int .i64 x.ty)).set (K * 3 + 1) (.int .i64 x.n)).set (K * 3 + 2) (.string x.s)) = valCells (B.set K x) := by
  induction B generalizing K with
  | nil => simp [valCells]
  | cons y B ih =>
    cases K with
    | zero => simp [valCells, V.enc]
    | succ K =>
      have e : valCells (y :: B) = V.enc y ++ valCells B := rfl
      have e2 : valCells ((y :: B).set (K + 1) x) = V.enc y ++ valCells (B.set K x) := rfl
      have hy : (V.enc y).length = 3 := rfl
      rw [e, e2, ← ih K, show (K + 1) * 3 = 3 + K * 3 by omega]
      rw [List.set_append_right _ _ (by rw [hy]; omega), List.set_append_right _ _ (by rw [hy]; omega), List.set_append_right _ _ (by rw [hy]; omega), hy]
      rw [show 3 + K * 3 - 3 = K * 3 by omega, show 3 + K * 3 + 1 - 3 = K * 3 + 1 by omega, show 3 + K * 3 + 2 - 3 = K * 3 + 2 by omega]
theorem own_store3 {w : World} {base g n cap : Nat} {e : TypeId} {B : List V} (h : w.ownsRow base e 3 (.slice (some ⟨g, 0, none⟩) n cap) n (valCells B)) (K : Nat) (x : V) :
    (((w.setCell ⟨g, K * 3, none⟩ (.int .i64 x.ty)).setCell ⟨g, K * 3 + 1, none⟩ (.int .i64 x.n)).setCell ⟨g, K * 3 + 2, none⟩ (.string x.s)).ownsRow base e 3 (.slice (some ⟨g, 0, none⟩) n cap) n (valCells (B.set K x)) := by
  have h1 := (h.stored (K * 3) (.int .i64 x.ty)).1
  have h2 := (h1.stored (K * 3 + 1) (.int .i64 x.n)).1
  have h3 := (h2.stored (K * 3 + 2) (.string x.s)).1
  rw [vc_set] at h3
  exact h3
theorem own_shrink3 {w : World} {base g n cap k : Nat} {e : TypeId} {B : List V} (h : w.ownsRow base e 3 (.slice (some ⟨g, 0, none⟩) n cap) n (valCells B)) (hk : k ≤ n) (hB : B.length = n) : w.ownsRow base e 3 (.slice (some ⟨g, 0, none⟩) k cap) k (valCells (B.take k)) := by
  refine ⟨by rw [vc_len]; simp; omega, ?_⟩
  rcases h.2 with ⟨hv, _⟩ | ⟨g', cap', cur, hv, h1, h2, h3, h4, h5, h6⟩
  · cases hv
  · injection hv with e1 e2 e3
    injection e1 with e1
    injection e1 with e1
    subst e1; subst e3
    refine .inr ⟨g, cap, cur, rfl, h1, h2, by omega, h4, h5, ?_⟩
    have e : valCells (B.take k) = (valCells B).take (k * 3) := by
      have e0 : valCells B = valCells (B.take k) ++ valCells (B.drop k) := by
        rw [← vc_app, List.take_append_drop]
      rw [e0, List.take_left' (by rw [vc_len]; simp; omega)]
    rw [e, ← h6, List.take_take]
    congr 1
    omega
theorem run_clear_k {P : Program} (w : World) (t e ty : TypeId) (z : Value) (ht : P.underlying t = some (.slice e)) (hv : ∀ w, (zeroValue e).run P w = .ok z w) (b o n c : Nat) (hn : 0 < n) (L : List Value) (hL : (Builtin.zeroCells z.cells n).toList = L)
    (h1 : ∀ v ∈ L, v.oneCell' = true) (hc : ∀ j, j < L.length → (w.cell? ⟨b, o + j, none⟩).isSome = true) (hf : ∀ j, j < L.length → w.frozen? ⟨b, o + j, none⟩ = false) :
    (Builtin.clear_ #[t] ty #[.slice (some ⟨b, o, none⟩) n c]).run P w = .ok (.tuple #[]) (w.setCells b o L) := by
  have hst := run_storeCells_cells (P := P) b o L 0 w (by simpa using hc) (by simpa using hf) h1
  simp only [Nat.add_zero] at hst
  obtain ⟨m, rfl⟩ : ∃ m, n = m + 1 := ⟨n - 1, by omega⟩
  simp [Builtin.clear_, run_underlying ht, hv, hL, hst]
theorem own_clear {base g cap n k : Nat} {e : TypeId} {w : World} {B : List V} (L : List Value) (h : w.ownsRow base e 3 (.slice (some ⟨g, 0, none⟩) n cap) n (valCells B)) (hB : B.length = n) (hk : k ≤ n) (hL : k * 3 + L.length ≤ n * 3) :
    (w.setCells g (k * 3) L).ownsRow base e 3 (.slice (some ⟨g, 0, none⟩) k cap) k (valCells (B.take k)) := by
  have h0 := own_shrink3 h hk hB
  have hh := own_setCells L (k * 3) w _ h (by rw [vc_len, hB]; exact hL)
  refine ⟨h0.1, ?_⟩
  rcases hh.2 with ⟨hv, _⟩ | ⟨g', cap', cur, hv, h1, h2, h3, h4, h5, h6⟩
  · cases hv
  · injection hv with e1 e2 e3
    injection e1 with e1
    injection e1 with e1
    subst e1; subst e3
    refine .inr ⟨g, cap, cur, rfl, h1, h2, by omega, h4, h5, ?_⟩
    have e : valCells (B.take k) = (valCells B).take (k * 3) := by
      have e0 : valCells B = valCells (B.take k) ++ valCells (B.drop k) := by
        rw [← vc_app, List.take_append_drop]
      rw [e0, List.take_left' (by rw [vc_len]; simp; omega)]
    have h7 := congrArg (List.take (k * 3)) h6
    rw [List.take_take, show min (k * 3) (n * 3) = k * 3 by omega, List.append_assoc, List.take_append_of_le_length (by simp [vc_len]; omega), List.take_take, Nat.min_self] at h7
    rw [h7, e]
theorem zero3 (n : Nat) : (Builtin.zeroCells (Value.agg #[.int .i64 0, .int .i64 0, .string ⟨#[]⟩]).cells n).toList.length = n * 3 ∧ ∀ v ∈ (Builtin.zeroCells (Value.agg #[.int .i64 0, .int .i64 0, .string ⟨#[]⟩]).cells n).toList, v.oneCell' = true := by
  have hz : (Value.agg #[.int .i64 0, .int .i64 0, .string ⟨#[]⟩]).cells = #[.int .i64 0, .int .i64 0, .string ⟨#[]⟩] := rfl
  rw [hz]
  refine ⟨by simp [Builtin.zeroCells], ?_⟩
  intro v hv
  simp only [Builtin.zeroCells, Array.toList_map, List.mem_map] at hv
  obtain ⟨i, _, rfl⟩ := hv
  have h3 : i % 3 = 0 ∨ i % 3 = 1 ∨ i % 3 = 2 := by omega
  rcases h3 with h | h | h <;> simp [h, Value.oneCell']
theorem comp_small {s : List V} (h : s.length < 2) : compTo s s.length = s := by
  match s, h with
  | [], _ => rfl
  | [x], _ => simp [compTo]
theorem comp_full {s : List V} {k : Nat} (h : compTo s k = s.take k) (hk : k = s.length) : compTo s s.length = s := by
  rw [hk] at h
  rw [h, List.take_of_length_le (Nat.le_refl _)]
set_option maxHeartbeats 3200000 in
theorem compact_V (w : World) (base : Nat) (A : Option Addr) (cap : Nat) (s : List V) (hown : w.ownsRow base 37 3 (.slice A s.length cap) s.length (valCells s)) (hl : s.length ≤ 1099511627776) :
    Calls Try.prog 47 #[.slice A s.length cap] w fun e w' => ∃ A', e = .returned (.slice A' (compTo s s.length).length cap) ∧
      w'.ownsRow base 37 3 (.slice A' (compTo s s.length).length cap) (compTo s s.length).length (valCells (compTo s s.length)) ∧ Below base w w' := by
  have hgt := eqGuard_Val
  by_cases h2 : s.length < 2
  · have hc := Lib.hid (comp_small h2)
    have h2b : decide ((s.length : Int) < 2) = true := decide_eq_true (by omega)
    go_enter Try.func47, Try.ntmps47
    go_wp2
    go_ret
    rw [hc.out]
    exact ⟨A, rfl, hown, Below.refl _ _⟩
  obtain ⟨g, cap', hv, hg, hgl⟩ := hown.form (by omega)
  obtain ⟨rfl, rfl⟩ : A = some ⟨g, 0, none⟩ ∧ cap = cap' := by injection hv with h1 h2 h3; exact ⟨h1, h3⟩
  have hcapn : s.length ≤ cap := by
    rcases hown.2 with ⟨hv, _⟩ | ⟨g', cap', cur, hv, h1, h2, h3, _⟩
    · cases hv
    · injection hv with e1 e2 e3
      omega
  clear hv
  go_enter Try.func47, Try.ntmps47
  go_wp2
  go_loopw [3] (fun k wr => ∃ K : Nat, 1 ≤ K ∧ K ≤ s.length ∧ k = .int .i64 K ∧ Hid (compTo s K = s.take K) ∧ wr.ownsRow base 37 3 (.slice (some ⟨g, 0, none⟩) s.length cap) s.length (valCells s) ∧ Below base w wr) (fun k _ => s.length - (intOf k).toNat)
  case atStart => exact ⟨1, Nat.le_refl _, by omega, rfl, Lib.hid (by
      obtain ⟨x, hx⟩ : ∃ x, s[0]? = some x := ⟨_, List.getElem?_eq_getElem (by omega)⟩
      rw [compTo_new hx (fun h => absurd h (by omega)), List.take_add_one, hx]
      simp [compTo]), hown, Below.refl _ _⟩
  case round =>
    clear hown
    obtain ⟨K, hK1, hK2, rfl, hC, hown, hbl⟩ := hrel
    by_cases hlt : K < s.length
    · obtain ⟨x, hx⟩ : ∃ x, s[K]? = some x := ⟨_, List.getElem?_eq_getElem hlt⟩
      obtain ⟨J, hJ⟩ : ∃ J, K = J + 1 := ⟨K - 1, by omega⟩
      obtain ⟨y, hy⟩ : ∃ y, s[J]? = some y := ⟨_, List.getElem?_eq_getElem (by omega)⟩
      obtain ⟨c0, c1, c2⟩ := own_v hown hx hlt
      obtain ⟨d0, d1, d2⟩ := own_v hown hy (by omega)
      have hkm : IntKind.i64.wrap ((K : Int) - 1) = (J : Int) := by rw [IntKind.wrap_i64]; omega
      have hjb : (J : Int) < (s.length : Int) := by omega
      have heq := equalIn_Val x y
      have HX := Lib.hid hx
      have HY := Lib.hid hy
      have HJ := Lib.hid hJ
      clear hx hy hJ
      cases hv : veq x y
      · rw [hv] at heq
        have hC2 : compTo s (K + 1) = s.take (K + 1) := by
          rw [compTo_new HX.out (fun _ h => by
            rw [HJ.out, Nat.add_sub_cancel, HY.out] at h
            have := Option.some.inj h
            rw [this, veq_self] at hv
            cases hv), hC.out, List.take_add_one, HX.out]
          rfl
        have HC2 := Lib.hid hC2
        clear hv hC hC2
        go_wp2_with fail
        go_quiet (fail)
        have hown2 : (wr.drewN nq).ownsRow base 37 3 (.slice (some ⟨g, 0, none⟩) s.length cap) s.length (valCells s) := hown
        clear hown c0 c1 c2 d0 d1 d2
        go_wp2
        go_roundw
        case rel => exact ⟨K + 1, by omega, by omega, by go_num, HC2, hown2, below_drewN hbl _⟩
        case measure => simp [intOf]; omega
      · rw [hv] at heq
        have hxy := veq_iff.1 hv
        subst hxy
        have hC2 : compTo s (K + 1) = s.take K := by
          rw [compTo_same HX.out (by omega) (by rw [HJ.out, Nat.add_sub_cancel]; exact HY.out), hC.out]
        have HC2 := Lib.hid hC2
        clear hv hC hC2
        go_wp2_with fail
        go_quiet (fail)
        have hown2 : (wr.drewN nq).ownsRow base 37 3 (.slice (some ⟨g, 0, none⟩) s.length cap) s.length (valCells s) := hown
        have hbl2 := below_drewN hbl nq
        generalize wr.drewN nq = w2 at hown2 hbl2 ⊢
        clear hown c0 c1 c2 d0 d1 d2 hbl
        go_wp2
        go_loopw [3, 5] (fun k k2 wr => ∃ (M t : Nat) (B : List V), 1 ≤ t ∧ K + t ≤ s.length ∧ M + 1 ≤ K + t ∧ k = .int .i64 M ∧ k2 = .int .i64 t ∧ Hid (B.length = s.length) ∧ Hid (B.take M = compTo s (K + t)) ∧ Hid (∀ i, M ≤ i → B[i]? = s[i]?) ∧ wr.ownsRow base 37 3 (.slice (some ⟨g, 0, none⟩) s.length cap) s.length (valCells B) ∧ Below base w wr) (fun _ k2 _ => s.length - K - (intOf k2).toNat)
        case atStart => exact ⟨K, 1, s, Nat.le_refl _, by omega, Nat.le_refl _, rfl, rfl, Lib.hid rfl, Lib.hid HC2.out.symm, Lib.hid (fun _ _ => rfl), hown2, hbl2⟩
        case round =>
          clear hown2 hbl2
          obtain ⟨M, t, B, ht1, hKt, hMK, rfl, rfl, hBl, hBt, hBr, hown, hbl⟩ := hrel
          by_cases htl : K + t < s.length
          · obtain ⟨x, hx⟩ : ∃ x, s[K + t]? = some x := ⟨_, List.getElem?_eq_getElem htl⟩
            obtain ⟨u, hu⟩ : ∃ u, t = u + 1 := ⟨t - 1, by omega⟩
            obtain ⟨y, hy⟩ : ∃ y, s[K + u]? = some y := ⟨_, List.getElem?_eq_getElem (by omega)⟩
            have hxB := (hBr.out (K + t) (by omega)).trans hx
            have hyB := (hBr.out (K + u) (by omega)).trans hy
            obtain ⟨c0, c1, c2⟩ := own_v hown hxB htl
            obtain ⟨d0, d1, d2⟩ := own_v hown hyB (by omega)
            rw [show (K + t) * 3 = K * 3 + t * 3 by omega] at c0 c1 c2
            rw [show (K + u) * 3 = K * 3 + u * 3 by omega] at d0 d1 d2
            have htm : IntKind.i64.wrap ((t : Int) - 1) = (u : Int) := by rw [IntKind.wrap_i64]; omega
            have htb : (t : Int) < ((s.length - K : Nat) : Int) := by omega
            have hub : (u : Int) < ((s.length - K : Nat) : Int) := by omega
            have heq := equalIn_Val x y
            have HX := Lib.hid hx
            have HY := Lib.hid hy
            have HU := Lib.hid hu
            have hut : u < t := by omega
            clear hx hy hu hxB hyB
            cases hv : veq x y
            · rw [hv] at heq
              have hC2 : compTo s (K + t + 1) = compTo s (K + t) ++ [x] := compTo_new HX.out (fun _ h => by
                rw [show K + t - 1 = K + u by have := HU.out; omega, HY.out] at h
                have := Option.some.inj h
                rw [this, veq_self] at hv
                cases hv)
              have HC3 := Lib.hid hC2
              clear hv hC2
              go_wp2_with fail
              go_quiet (fail)
              have hown3 : (wr.drewN nq).ownsRow base 37 3 (.slice (some ⟨g, 0, none⟩) s.length cap) s.length (valCells B) := hown
              have hbl3 := below_drewN hbl nq
              have e0 : (wr.drewN nq).cell? ⟨g, K * 3 + t * 3, none⟩ = some (.int .i64 x.ty) := c0
              have e1 : (wr.drewN nq).cell? ⟨g, K * 3 + t * 3 + 1, none⟩ = some (.int .i64 x.n) := c1
              have e2 : (wr.drewN nq).cell? ⟨g, K * 3 + t * 3 + 2, none⟩ = some (.string x.s) := c2
              clear hown hbl c0 c1 c2 d0 d1 d2
              generalize wr.drewN nq = w2 at hown3 hbl3 e0 e1 e2 ⊢
              have hMl : M < B.length := by rw [hBl.out]; omega
              obtain ⟨zz, hzz⟩ : ∃ zz, B[M]? = some zz := ⟨_, List.getElem?_eq_getElem hMl⟩
              obtain ⟨z0, z1, z2⟩ := own_v hown3 hzz (by omega)
              have f0 := hown3.frozenAt (M * 3)
              have f1 := hown3.frozenAt (M * 3 + 1)
              have f2 := hown3.frozenAt (M * 3 + 2)
              have hMb : (M : Int) < (s.length : Int) := by omega
              have hst := own_store3 hown3 M x
              have hb4 : Below base w (((w2.setCell ⟨g, M * 3, none⟩ (.int .i64 x.ty)).setCell ⟨g, M * 3 + 1, none⟩ (.int .i64 x.n)).setCell ⟨g, M * 3 + 2, none⟩ (.string x.s)) := ((hbl3.setCell hg _).setCell hg _).setCell hg _
              have hTk : (B.set M x).take (M + 1) = compTo s (K + (t + 1)) := by
                rw [← Nat.add_assoc, HC3.out, ← hBt.out, List.take_add_one, List.getElem?_set_self hMl, List.take_set, List.set_eq_of_length_le (by simp; omega)]
                rfl
              have HT := Lib.hid hTk
              have HLn := Lib.hid (show (B.set M x).length = s.length by rw [List.length_set]; exact hBl.out)
              have HR := Lib.hid (show ∀ i, M + 1 ≤ i → (B.set M x)[i]? = s[i]? from fun i hi => by rw [List.getElem?_set_ne (by omega)]; exact hBr.out i (by omega))
              clear hown3 hbl3 hTk hBt hBr hBl hMl hzz
              go_wp2
              go_roundw
              case rel => exact ⟨M + 1, t + 1, B.set M x, by omega, by omega, by omega, by go_num, by go_num, HLn, HT, HR, hst, hb4⟩
              case measure => simp [intOf]; omega
            · rw [hv] at heq
              have hxy := veq_iff.1 hv
              subst hxy
              have hC2 : compTo s (K + t + 1) = compTo s (K + t) := compTo_same HX.out (by omega) (by rw [show K + t - 1 = K + u by have := HU.out; omega]; exact HY.out)
              have HC3 := Lib.hid (show B.take M = compTo s (K + (t + 1)) by rw [← Nat.add_assoc, hC2, hBt.out])
              clear hv hC2
              go_wp2_with fail
              go_quiet (fail)
              have hown3 : (wr.drewN nq).ownsRow base 37 3 (.slice (some ⟨g, 0, none⟩) s.length cap) s.length (valCells B) := hown
              have hbl3 := below_drewN hbl nq
              clear hown hbl c0 c1 c2 d0 d1 d2
              go_wp2
              go_roundw
              case rel => exact ⟨M, t + 1, B, by omega, by omega, by omega, rfl, by go_num, hBl, HC3, hBr, hown3, hbl3⟩
              case measure => simp [intOf]; omega
          · have hKn : K + t = s.length := by omega
            obtain ⟨L, hL⟩ : ∃ L, (Builtin.zeroCells (Value.agg #[.int .i64 0, .int .i64 0, .string ⟨#[]⟩]).cells (s.length - M)).toList = L := ⟨_, rfl⟩
            obtain ⟨hL1, hL2⟩ := zero3 (s.length - M)
            rw [hL] at hL1 hL2
            have hcl : ∀ ty, (Builtin.clear_ #[24] ty #[.slice (some ⟨g, M * 3, none⟩) (s.length - M) (cap - M)]).run Try.prog wr = .ok (.tuple #[]) (wr.setCells g (M * 3) L) := fun ty =>
              run_clear_k wr 24 37 ty _ Try.underlying24 Try.zeroValue37 g (M * 3) _ _ (by omega) L hL hL2 (fun j hj => by
                rw [hown.cellAt (M * 3 + j) (by omega), List.getElem?_eq_getElem (by rw [vc_len, hBl.out]; omega)]
                rfl) (fun j hj => hown.frozenAt (M * 3 + j))
            have hoc := own_clear L hown hBl.out (show M ≤ s.length by omega) (by omega)
            have hbc := hbl.trans (below_setCells hg L (M * 3) wr)
            rw [hBt.out, hKn] at hoc
            have hlc : (compTo s s.length).length = M := by
              have := congrArg List.length hBt.out
              rw [hKn] at this
              rw [← this]
              simp [hBl.out]
              omega
            have HLC := Lib.hid hlc
            have hMb : (M : Int) ≤ (s.length : Int) := by omega
            have hMc : (M : Int) ≤ (cap : Int) := by omega
            clear hown hbl hBl hBt hBr hlc hL hL1 hL2
            go_wp2
            go_ret
            rw [HLC.out]
            exact ⟨_, rfl, hoc, hbc⟩
    · have hkn : K = s.length := by omega
      have hfin := Lib.hid (comp_full hC.out hkn)
      clear hC
      go_wp2
      go_ret
      rw [hfin.out]
      exact ⟨_, rfl, hown, hbl⟩

end Go.Proofs.Ytgpimlmolcjeoaa
