/-
  Contracts of Dict, in the program and in the reference.
-/
import Derived.Test.YtgpimlmolcjeoaaCompact
import Derived.Test.YtgpimlmolcjeoaaPutv
import Derived.StillTailTactics
import Derived.Maps.AppendAt
import Derived.Test.YtgpimlmolcjeoaaVdraw
namespace Go.Proofs.Ytgpimlmolcjeoaa
open Go.RowKit
set_option linter.unusedVariables false
set_option maxRecDepth 100000

theorem vc_one (vs : List V) : ∀ u ∈ valCells vs, u.oneCell' = true := by
  intro u hu
  simp only [valCells, List.mem_flatMap, V.enc] at hu
  obtain ⟨v, _, hu⟩ := hu
  simp at hu
  rcases hu with rfl | rfl | rfl <;> rfl
theorem impl_cloneVals (w : World) (A : Option Addr) (c : Nat) (l : List V) (hr : Reads w w.heap.size 3 A l.length (valCells l)) (hA : A = none → l.length = 0 ∧ c = 0) (hl : l.length ≤ 1099511627776) :
    Calls Try.prog 44 #[.slice A l.length c] w fun e w' => ∃ A' c', e = .returned (.slice A' l.length c') ∧ w'.ownsRow w.heap.size 37 3 (.slice A' l.length c') l.length (valCells l) ∧ Below w.heap.size w w' := by
  obtain ⟨i0, hi0, hz0, hz1, hz2⟩ := info_parts info_Val
  go_enter Try.func44, Try.ntmps44
  go_wp2_with (at_builtin; go_loud (refine append_slice rfl (.tmp 3) (.tmp 4) 24 rfl w.heap.size 37 i0 _ 3 32 Try.underlying24 hi0 hz0 hz1 hz2 rfl (by omega) (by omega) (some ⟨w.heap.size, 0, none⟩) 0 0 _ rfl (own_empty (Nat.le_refl _)) w.heap.size l.length c A _ rfl hA (hr.alloc (Nat.le_refl _) _) (vc_one _) (by simp) (by omega) (by omega) ?_); intro A1 c1 w1 hown hbl)
  rw [Nat.zero_add, List.nil_append] at hown
  have hbl2 := (Below.alloc0 (Below.refl w.heap.size w) (.cells #[] 37)).trans hbl
  go_ret
  exact ⟨A1, c1, by simp, hown, hbl2⟩
theorem impl_Dict (w : World) (A : Option Addr) (c : Nat) (l : List V) (hr : Reads w w.heap.size 3 A l.length (valCells l)) (hA : A = none → l.length = 0 ∧ c = 0) (hl : l.length ≤ 1000000000) (hi : ∀ x ∈ l, x.ok) :
    Calls Try.prog 9 #[.slice A l.length c] w fun e w' => ∃ A' c', e = .returned (.slice A' (dictOf l).length c') ∧ w'.ownsRow w.heap.size 37 3 (.slice A' (dictOf l).length c') (dictOf l).length (valCells (dictOf l)) ∧ Below w.heap.size w w' := by
  go_enter Try.func9, Try.ntmps9
  go_wp2_with fail
  refine (impl_cloneVals _ _ _ l hr hA (by omega)).mono ?_
  rintro e w1 ⟨A1, c1, rfl, hown1, hb1⟩
  have hsort : Calls Try.prog 45 #[.slice A1 l.length c1, .func (.func 46) #[] #[]] w1 fun e w' => e = .returned (.tuple #[]) ∧ ∃ s : List V, s.length = l.length ∧ compTo s s.length = dictOf l ∧
      w'.ownsRow w.heap.size 37 3 (.slice A1 l.length c1) l.length (valCells s) ∧ Below w.heap.size w1 w' := by
    by_cases h0 : l.length = 0
    · obtain rfl : l = [] := List.eq_nil_of_length_eq_zero h0
      have h := AnyF.slices_SortFunc_none Try.sortV A1 c1 (.func (.func 46) #[] #[]) w1
      refine Calls.mono h ?_
      rintro e w' ⟨he, rfl⟩
      exact ⟨he, [], rfl, rfl, hown1, Below.refl _ _⟩
    · obtain ⟨g, cap, hv, hg, hgl⟩ := hown1.form (by omega)
      obtain ⟨rfl, rfl⟩ : A1 = some ⟨g, 0, none⟩ ∧ c1 = cap := by injection hv with h1 h2 h3; exact ⟨h1, h3⟩
      refine (sort_V w1 w.heap.size g c1 l hown1 (by omega)).mono ?_
      rintro e w' ⟨he, s, hp, hs, hown, hb⟩
      exact ⟨he, s, hp.length_eq, dict_of_sorted hp hs, hown, hb⟩
  clear hr hown1
  go_wp2_with fail
  refine hsort.mono ?_
  rintro e w2 ⟨rfl, s, hsl, hsd, hown2, hb2⟩
  have hbl2 := hb1.trans hb2
  rw [← hsl] at hown2
  clear hsort hb1 hb2
  go_wp2_with fail
  rw [← hsl]
  refine (compact_V w2 w.heap.size A1 c1 s hown2 (by omega)).mono ?_
  rintro e w3 ⟨A3, rfl, hown3, hb3⟩
  rw [hsd] at hown3 ⊢
  have hbl3 := hbl2.trans hb3
  clear hown2 hb3 hsl hsd
  go_wp2
  go_ret
  exact ⟨_, _, rfl, hown3, hbl3⟩
theorem append_any_wp {P : Program} {W : World} {o : Oper} {a : Act} {K : Act → World → Prop} {Q : Exit → Act → World → Prop} (s x : Operand) (t : TypeId)
    (ho : o.op = .call { callee := .builtin .append, args := #[s, x], argTypes := #[t, t] })
    (base : Nat) (e : TypeId) (i : TypeInfo) (z : Value) (size bytes : Nat) (ht : P.underlying t = some (.slice e)) (hi : P.info? e = some i) (hz : i.zero = some z)
    (hsize : i.size = size) (hby : i.bytes = bytes) (hzs : z.cells.size = size) (hsz : 0 < size) (hbb : bytes ≤ 64)
    (g n c : Nat) (xs : List Value) (hs : a.eval s = .slice (some ⟨g, 0, none⟩) n c) (hown : W.ownsRow base e size (.slice (some ⟨g, 0, none⟩) n c) n xs)
    (b off m c2 : Nat) (news : List Value) (hx : a.eval x = .slice (some ⟨b, off, none⟩) m c2) (hr : ∀ j u, news[j]? = some u → W.cell? ⟨b, off + j, none⟩ = some u) (hnl : news.length = m * size) (h1 : ∀ u ∈ news, u.oneCell' = true) (hb : base ≤ W.heap.size) (hn : n ≤ 1099511627776) (hm : m ≤ 1099511627776)
    (h : ∀ g' c' w', w'.ownsRow base e size (.slice (some ⟨g', 0, none⟩) (n + m) c') (n + m) (xs ++ news) → Below base W w' → W.grownBy w' (some g) → (g' = g ∨ g' = W.heap.size) → K (a.put o.dst (.slice (some ⟨g', 0, none⟩) (n + m) c')) w') :
    o.wp P a W K Q := by
  obtain ⟨v', w', hrun, h2, h3, h4, h5⟩ := run_append_own_at (P := P) W base t o.type e i z size bytes ht hi hz hsize hby hzs hsz (.slice (some ⟨g, 0, none⟩) n c) n xs hown ⟨b, off, none⟩ m c2 news hnl (fun j u hu => by rw [add_form]; exact hr j u hu) h1 (by unfold maxLen; omega) (by
    have : (n + m) * bytes ≤ 2199023255552 * 64 := Nat.mul_le_mul (by omega) hbb
    omega) hb
  unfold Oper.wp execOp
  simp only [ho, resolve, invoke, builtin, Sem.run_bind, Sem.run_pure, Result.andThen_ok, List.map_toArray, List.map_cons, List.map_nil, hs, hx, hrun]
  rcases h2.2 with ⟨hv, hz⟩ | ⟨g', cap', cur, hv, _⟩
  · exfalso
    have := (h4.1 hv).1
    cases this
  · subst hv
    have hg : (Value.slice (some ⟨g, 0, none⟩) n c).ownBlock = some g := rfl
    refine h g' cap' w' h2 ((Below.refl base W).grown h3 hb (fun k hk => (hown.lt k hk).1)) h3 ?_
    rcases h5 with h5 | h5
    · exact .inl (Option.some.inj h5)
    · exact .inr (Option.some.inj h5)
theorem take_cell {w : World} {base g cap j : Nat} {e : TypeId} {D : List V} (h : w.ownsRow base e 3 (.slice (some ⟨g, 0, none⟩) D.length cap) D.length (valCells D)) {i : Nat} {u : Value} (hu : (valCells (D.take j))[i]? = some u) : w.cell? ⟨g, i, none⟩ = some u := by
  have hl := (List.getElem?_eq_some_iff.1 hu).1
  have e0 : valCells D = valCells (D.take j) ++ valCells (D.drop j) := by rw [← vc_app, List.take_append_drop]
  have hl2 : i < D.length * 3 := by
    have := congrArg List.length e0
    rw [List.length_append, vc_len D] at this
    omega
  rw [h.cellAt i hl2, e0, List.getElem?_append_left hl]
  exact hu
theorem drop_cell {w : World} {base g cap j : Nat} {e : TypeId} {D : List V} (h : w.ownsRow base e 3 (.slice (some ⟨g, 0, none⟩) D.length cap) D.length (valCells D)) (hj : j ≤ D.length) {i : Nat} {u : Value} (hu : (valCells (D.drop j))[i]? = some u) : w.cell? ⟨g, j * 3 + i, none⟩ = some u := by
  have hl := (List.getElem?_eq_some_iff.1 hu).1
  have e0 : valCells D = valCells (D.take j) ++ valCells (D.drop j) := by rw [← vc_app, List.take_append_drop]
  have e1 : (valCells (D.take j)).length = j * 3 := by rw [vc_len]; simp; omega
  rw [vc_len] at hl
  simp at hl
  rw [h.cellAt (j * 3 + i) (by omega), e0, List.getElem?_append_right (by omega), e1, Nat.add_sub_cancel_left]
  exact hu
theorem box_cell {w : World} {b : Nat} {x : V} (h : Box w b x) {i : Nat} {u : Value} (hu : [Value.int .i64 x.ty, .int .i64 x.n, .string x.s][i]? = some u) : w.cell? ⟨b, i, none⟩ = some u := by
  obtain ⟨c0, c1, c2, _⟩ := h.cells
  match i, hu with
  | 0, hu => rw [c0]; simpa using hu
  | 1, hu => rw [c1]; simpa using hu
  | 2, hu => rw [c2]; simpa using hu
  | n + 3, hu => simp at hu
theorem drop_cell2 {w : World} {base g cap j o : Nat} {e : TypeId} {D : List V} (h : w.ownsRow base e 3 (.slice (some ⟨g, 0, none⟩) D.length cap) D.length (valCells D)) (hj : j ≤ D.length) (hc : D.length ≤ cap) (ho : o = if cap = j then 0 else j * 3) {i : Nat} {u : Value} (hu : (valCells (D.drop j))[i]? = some u) : w.cell? ⟨g, o + i, none⟩ = some u := by
  have hl := (List.getElem?_eq_some_iff.1 hu).1
  rw [vc_len] at hl
  simp at hl
  rw [ho, if_neg (by omega)]
  exact drop_cell h hj hu
theorem own_below {w w' : World} {base g n cap size : Nat} {e : TypeId} {xs : List Value} (Z : Nat) (h : w.ownsRow base e size (.slice (some ⟨g, 0, none⟩) n cap) n xs) (hb : Below Z w w') (hg : g < Z) : w'.ownsRow base e size (.slice (some ⟨g, 0, none⟩) n cap) n xs := by
  refine ⟨h.1, ?_⟩
  rcases h.2 with ⟨hv, _⟩ | ⟨g', cap', cur, hv, h1, h2, h3⟩
  · cases hv
  · have hv' := hv
    injection hv with e1 e2 e3
    injection e1 with e1
    injection e1 with e1
    subst e1
    exact .inr ⟨g, cap', cur, hv', h1, (hb.block g hg).trans h2, h3⟩
theorem dict_take_len (l : List V) (k : Nat) : (dictOf (l.take k)).length ≤ l.length := by
  have h1 := dict_len (l.take k)
  have h2 : (l.take k).length ≤ l.length := by simp; omega
  omega
set_option maxHeartbeats 3200000 in
theorem spec_Dict (w : World) (A : Option Addr) (c : Nat) (l : List V) (hr : Reads w w.heap.size 3 A l.length (valCells l)) (hA : A = none → l.length = 0 ∧ c = 0) (hl : l.length ≤ 1000000000) (hi : ∀ x ∈ l, x.ok) :
    Calls Try.prog 16 #[.slice A l.length c] w fun e w' => ∃ A' c', e = .returned (.slice A' (dictOf l).length c') ∧ w'.ownsRow w.heap.size 37 3 (.slice A' (dictOf l).length c') (dictOf l).length (valCells (dictOf l)) ∧ Below w.heap.size w w' := by
  clear hA
  obtain ⟨i0, hi0, hz0, hz1, hz2⟩ := info_parts info_Val
  have hgt := eqGuard_Val
  go_enter Try.func16, Try.ntmps16
  go_wp2
  go_loopw [3, 4] (fun o i wr => ∃ (k g c' : Nat), k ≤ l.length ∧ i = .int .i64 k ∧ o = .slice (some ⟨g, 0, none⟩) (dictOf (l.take k)).length c' ∧ wr.ownsRow w.heap.size 37 3 (.slice (some ⟨g, 0, none⟩) (dictOf (l.take k)).length c') (dictOf (l.take k)).length (valCells (dictOf (l.take k))) ∧ Below w.heap.size w wr) (fun _ i _ => l.length - (intOf i).toNat)
  case atStart => exact ⟨0, _, _, Nat.zero_le _, rfl, rfl, own_empty (Nat.le_refl _), Below.alloc0 (Below.refl _ _) _⟩
  case round =>
    obtain ⟨k, g, c', hk, rfl, rfl, hown, hbl⟩ := hrel
    have hsz := hbl.size
    have hDl := dict_take_len l k
    by_cases hlt : k < l.length
    · obtain ⟨p, off, x, rfl, hb, hx, hc0, hc1, hc2⟩ := hr.v hlt
      have hsn := Lib.hid (dict_snoc hx.out)
      have d0 : wr.cell? ⟨p, off + k * 3, none⟩ = some (.int .i64 x.ty) := (hbl.cell (p := ⟨p, off + k * 3, none⟩) hb).trans hc0
      have d1 : wr.cell? ⟨p, off + k * 3 + 1, none⟩ = some (.int .i64 x.n) := (hbl.cell (p := ⟨p, off + k * 3 + 1, none⟩) hb).trans hc1
      have d2 : wr.cell? ⟨p, off + k * 3 + 2, none⟩ = some (.string x.s) := (hbl.cell (p := ⟨p, off + k * 3 + 2, none⟩) hb).trans hc2
      clear hc0 hc1 hc2
      generalize dictOf (l.take k) = D at hsn hown hDl ⊢
      have hgl := hown.lt g rfl
      have hgb := hgl.1
      replace hgl := hgl.2
      have hpw : p < wr.heap.size := Nat.lt_of_lt_of_le hb hsz
      go_wp2
      go_loopw [5] (fun q wq => ∃ j : Nat, j ≤ D.length ∧ q = .int .i64 j ∧ Hid (∀ i y, i < j → D[i]? = some y → lessV y x = true) ∧ Below wr.heap.size wr wq) (fun q _ => D.length - (intOf q).toNat)
      case atStart => exact ⟨0, Nat.zero_le _, rfl, Lib.hid (fun i y h => absurd h (by omega)), Below.refl _ _⟩
      case round =>
        obtain ⟨j, hj, rfl, hL, hbq⟩ := hrel
        have hownq := own_step hown hbq
        have e0 := cell_keep hbq d0
        have e1 := cell_keep hbq d1
        have e2 := cell_keep hbq d2
        have hsq := hbq.size
        by_cases hjl : j < D.length
        · obtain ⟨y, hy⟩ : ∃ y, D[j]? = some y := ⟨_, List.getElem?_eq_getElem hjl⟩
          obtain ⟨y0, y1, y2⟩ := own_v hownq hy hjl
          have HY := Lib.hid hy
          have hjt : decide (j < D.length) = true := decide_eq_true hjl
          clear hy
          go_wp2_with fail
          go_still_tail 13, (by kernel_rfl)
          change wpList _ _ _ _ _ wr.drew
          have hbq2 := hbq.drew
          have f0 : wr.drew.cell? ⟨p, off + k * 3, none⟩ = some (.int .i64 x.ty) := e0
          have f1 : wr.drew.cell? ⟨p, off + k * 3 + 1, none⟩ = some (.int .i64 x.n) := e1
          have f2 : wr.drew.cell? ⟨p, off + k * 3 + 2, none⟩ = some (.string x.s) := e2
          have n0 : wr.drew.cell? ⟨g, j * 3, none⟩ = some (.int .i64 y.ty) := y0
          have n1 : wr.drew.cell? ⟨g, j * 3 + 1, none⟩ = some (.int .i64 y.n) := y1
          have n2 : wr.drew.cell? ⟨g, j * 3 + 2, none⟩ = some (.string y.s) := y2
          have hownq2 : wr.drew.ownsRow w.heap.size 37 3 (.slice (some ⟨g, 0, none⟩) D.length c') D.length (valCells D) := hownq
          clear hbq e0 e1 e2 y0 y1 y2 hownq
          generalize wr.drew = w2 at hbq2 f0 f1 f2 n0 n1 n2 hownq2 ⊢
          go_wp2_with fail
          refine (spec_LessVal w2 y x).mono ?_
          rintro e w3 ⟨rfl, hb3⟩
          have hbq3 := hbq2.trans (hb3.mono hbq2.size)
          have g0 := cell_keep hb3 f0
          have g1 := cell_keep hb3 f1
          have g2 := cell_keep hb3 f2
          have m0 := cell_keep hb3 n0
          have m1 := cell_keep hb3 n1
          have m2 := cell_keep hb3 n2
          have hownX := own_step hownq2 hb3
          clear hbq2 f0 f1 f2 n0 n1 n2 hb3 hownq2
          cases hlv : lessV y x
          · have hins : insV x D = if (∃ y, D[j]? = some y ∧ veq y x = true) then D else D.take j ++ x :: D.drop j := insV_at (fun i z hi hz => hL.out i z hi hz) (fun z hz => by rw [HY.out] at hz; rw [← Option.some.inj hz]; exact hlv) hj
            have heq := equalIn_Val y x
            have hjn : ((j : Int) == (D.length : Int)) = false := beq_eq_false_iff_ne.2 (by omega)
            have hjn2 : decide (j = D.length) = false := decide_eq_false (by omega)
            cases hv : veq y x
            · rw [hv] at heq
              have HC : Hid (dictOf (l.take (k + 1)) = D.take j ++ x :: D.drop j) := by
                show _ = _
                rw [hsn.out, hins, if_neg (by rintro ⟨z, hz, hz2⟩; rw [HY.out] at hz; rw [← Option.some.inj hz, hv] at hz2; cases hz2)]
              clear hlv hins hv hL hown
              go_wp2_with fail
              go_quiet (fail)
              have hbX := hbl.trans ((below_drewN hbq3 nq).mono hsz)
              have hownX2 : (w3.drewN nq).ownsRow w.heap.size 37 3 (.slice (some ⟨g, 0, none⟩) D.length c') D.length (valCells D) := hownX
              have x0 : (w3.drewN nq).cell? ⟨p, off + k * 3, none⟩ = some (.int .i64 x.ty) := g0
              have x1 : (w3.drewN nq).cell? ⟨p, off + k * 3 + 1, none⟩ = some (.int .i64 x.n) := g1
              have x2 : (w3.drewN nq).cell? ⟨p, off + k * 3 + 2, none⟩ = some (.string x.s) := g2
              clear hbq3 g0 g1 g2 m0 m1 m2 hownX hbl
              have hownX := hownX2
              clear hownX2
              generalize w3.drewN nq = wX at hbX hownX x0 x1 x2 ⊢
              have hcap := own_cap hownX
              have k0 : (0 : Int) ≤ (j : Int) := by omega
              have k1 : (j : Int) ≤ (c' : Int) := by omega
              have k2 : (j : Int) ≤ (D.length : Int) := by omega
              have k3 : (k : Int) < (l.length : Int) := by omega
              have k4 : (D.length : Int) ≤ (c' : Int) := by omega
              go_wp2_with fail
              refine wp_region_any (by kernel_rfl) ?_
              change wpAny _ _ _ _ _ _ _ (World.drew _)
              have O0 : wX.drew.ownsRow w.heap.size 37 3 (.slice (some ⟨g, 0, none⟩) D.length c') D.length (valCells D) := hownX
              have X00 : wX.drew.cell? ⟨p, off + k * 3, none⟩ = some (.int .i64 x.ty) := x0
              have X10 : wX.drew.cell? ⟨p, off + k * 3 + 1, none⟩ = some (.int .i64 x.n) := x1
              have X20 : wX.drew.cell? ⟨p, off + k * 3 + 2, none⟩ = some (.string x.s) := x2
              replace hbX := hbX.drew
              have hgx := (O0.lt g rfl).2
              have hpx := World.block_lt_of_cell? _ _ X00
              clear hownX x0 x1 x2
              generalize wX.drew = W0 at O0 X00 X10 X20 hbX hgx hpx ⊢
              obtain ⟨Z, hZe⟩ : ∃ Z, Z = W0.heap.size := ⟨_, rfl⟩
              have hZ : Z ≤ W0.heap.size := by omega
              have hgZ : g < Z := by omega
              have hpZ : p < Z := by simp at hpx; omega
              have hzX : w.heap.size ≤ Z := by have := hbX.size; omega
              have Bl0 : Below Z W0 W0 := Below.refl _ _
              clear hZe hgx hpx
              refine wpAny_take (i := 1) (v := .slice (some ⟨g, 0, none⟩) D.length c') rfl (by kernel_rfl) (by kernel_rfl) (by kernel_rfl) (fun _ _ _ h => h) (Or.inl ⟨by kernel_rfl, fun _ => by kernel_rfl⟩) ?_
              refine wpAny_take (i := 2) (v := .int .i64 (j : Int)) rfl (by kernel_rfl) (by kernel_rfl) (by kernel_rfl) (fun _ _ _ h => h) (Or.inl ⟨by kernel_rfl, fun _ => by kernel_rfl⟩) ?_
              refine wpAny_take (i := 3) (v := .slice (some ⟨g, 0, none⟩) j c') rfl (by kernel_rfl) (by kernel_rfl) (by kernel_rfl) (fun _ _ _ h => h) (Or.inl ⟨by kernel_rfl, fun _ => by go_simp⟩) ?_
              refine wpAny_take (i := 5) (v := .slice (some ⟨p, off, none⟩) l.length c) rfl (by kernel_rfl) (by kernel_rfl) (by kernel_rfl) (fun _ _ _ h => h) (Or.inl ⟨by kernel_rfl, fun _ => by kernel_rfl⟩) ?_
              refine wpAny_take (i := 6) (v := .int .i64 (k : Int)) rfl (by kernel_rfl) (by kernel_rfl) (by kernel_rfl) (fun _ _ _ h => h) (Or.inl ⟨by kernel_rfl, fun _ => by kernel_rfl⟩) ?_
              refine wpAny_take (i := 7) (v := .pointer (some ⟨p, off + k * 3, none⟩)) rfl (by kernel_rfl) (by kernel_rfl) (by kernel_rfl) (fun _ _ _ h => h) (Or.inl ⟨by kernel_rfl, fun _ => by go_simp⟩) ?_
              refine wpAny_take (i := 11) (v := .slice (some ⟨g, 0, none⟩) D.length c') rfl (by kernel_rfl) (by kernel_rfl) (by kernel_rfl) (fun _ _ _ h => h) (Or.inl ⟨by kernel_rfl, fun _ => by kernel_rfl⟩) ?_
              refine wpAny_take (i := 12) (v := .int .i64 (j : Int)) rfl (by kernel_rfl) (by kernel_rfl) (by kernel_rfl) (fun _ _ _ h => h) (Or.inl ⟨by kernel_rfl, fun _ => by kernel_rfl⟩) ?_
              obtain ⟨o13, ho⟩ : ∃ o, o = if c' = j then 0 else j * 3 := ⟨_, rfl⟩
              refine wpAny_take (i := 13) (v := .slice (some ⟨g, o13, none⟩) (D.length - j) (c' - j)) rfl (by kernel_rfl) (by kernel_rfl) (by kernel_rfl) (fun _ _ _ h => h) (Or.inl ⟨by kernel_rfl, fun _ => by rw [ho]; go_simp; split <;> rfl⟩) ?_
              have HO := Lib.hid ho
              clear ho
              refine wpAny_ready (rs := [0, 8]) (by kernel_rfl) (by simp) ?_
              refine AllReady.cons rfl (fun K hK => ?_) (AllReady.cons rfl (fun K hK => ?_) AllReady.nil)
              · go_simp
                refine hK _ _ ?_
                clear hK K
                have st := (Below.refl W0.heap.size W0).alloc (Nat.le_refl _) (.cells #[] 37)
                have E1 := own_empty (w := W0) (base := Z) (e := 37) (size := 3) (Nat.le_trans hZ Bl0.size)
                obtain ⟨a0, ha0⟩ : ∃ a, a = W0.heap.size := ⟨_, rfl⟩
                obtain ⟨W1, hW⟩ : ∃ W, W = W0.alloc (.cells #[] 37) := ⟨_, rfl⟩
                rw [← hW] at st E1 ⊢
                rw [← ha0] at E1 ⊢
                have O1 := own_step O0 st
                have X01 := cell_keep st X00
                have X11 := cell_keep st X10
                have X21 := cell_keep st X20
                have Bl1 := Bl0.trans (st.mono (Nat.le_trans hZ Bl0.size))
                clear st hW O0 X00 X10 X20 Bl0 ha0
                refine wpAny_ready (rs := [4, 8]) (by kernel_rfl) (by simp) ?_
                refine AllReady.cons rfl (fun K hK => ?_) (AllReady.cons rfl (fun K hK => ?_) AllReady.nil)
                · rw [if_pos (by kernel_rfl)]
                  refine append_any_wp (.tmp 45) (.tmp 48) 24 rfl Z 37 i0 _ 3 32 Try.underlying24 hi0 hz0 hz1 hz2 rfl (by omega) (by omega) a0 0 0 _ rfl E1 g 0 j c' (valCells (D.take j)) rfl (fun i u hu => by rw [Nat.zero_add]; exact take_cell O1 hu) (by rw [vc_len]; simp; omega) (vc_one _) (Nat.le_trans hZ Bl1.size) (by omega) (by omega) ?_
                  intro g4 c4 W2 F2 st gr at4
                  refine hK _ _ ?_
                  clear hK K
                  rw [Nat.zero_add] at F2 ⊢
                  rw [List.nil_append] at F2
                  have O2 := own_below Z O1 st hgZ
                  have Bl2 := Bl1.trans st
                  have X02 := (st.cell (p := ⟨p, off + k * 3, none⟩) hpZ).trans X01
                  have X12 := (st.cell (p := ⟨p, off + k * 3 + 1, none⟩) hpZ).trans X11
                  have X22 := (st.cell (p := ⟨p, off + k * 3 + 2, none⟩) hpZ).trans X21
                  clear st gr O1 X01 X11 X21 Bl1 at4
                  refine wpAny_ready (rs := [8]) (by kernel_rfl) (by simp) ?_
                  refine AllReady.cons rfl (fun K hK => ?_) AllReady.nil
                  go_simp
                  refine hK _ _ ?_
                  clear hK K
                  refine wpAny_ready (rs := [9]) (by kernel_rfl) (by simp) ?_
                  refine AllReady.cons rfl (fun K hK => ?_) AllReady.nil
                  go_simp
                  refine hK _ _ ?_
                  clear hK K
                  have st := (Below.refl W2.heap.size W2).alloc (Nat.le_refl _) (.cells #[.int .i64 x.ty, .int .i64 x.n, .string x.s] 37)
                  have N3 := Box.new W2 x
                  obtain ⟨b9, hb9⟩ : ∃ a, a = W2.heap.size := ⟨_, rfl⟩
                  obtain ⟨W3, hW⟩ : ∃ W, W = W2.alloc (.cells #[.int .i64 x.ty, .int .i64 x.n, .string x.s] 37) := ⟨_, rfl⟩
                  rw [← hW] at st N3 ⊢
                  rw [← hb9] at N3 ⊢
                  have ne : g4 ≠ b9 := by have := (F2.lt g4 rfl).2; omega
                  have F3 := own_step F2 st
                  have O3 := own_step O2 st
                  have X03 := cell_keep st X02
                  have X13 := cell_keep st X12
                  have X23 := cell_keep st X22
                  have Bl3 := Bl2.trans (st.mono (Nat.le_trans hZ Bl2.size))
                  clear st hW O2 X02 X12 X22 Bl2 hb9
                  refine wpAny_ready (rs := [10]) (by kernel_rfl) (by simp) ?_
                  refine AllReady.cons rfl (fun K hK => ?_) AllReady.nil
                  rw [if_pos (by kernel_rfl)]
                  refine append_any_wp (.tmp 49) (.tmp 54) 24 rfl Z 37 i0 _ 3 32 Try.underlying24 hi0 hz0 hz1 hz2 rfl (by omega) (by omega) g4 j c4 _ rfl F3 b9 0 1 1 [.int .i64 x.ty, .int .i64 x.n, .string x.s] rfl (fun i u hu => by rw [Nat.zero_add]; exact box_cell N3 hu) rfl (by simp [Value.oneCell']) (Nat.le_trans hZ Bl3.size) (by omega) (by omega) ?_
                  intro g5 c5 W4 G4 st gr at5
                  refine hK _ _ ?_
                  clear hK K
                  rw [valCells_app] at G4
                  have O4 := own_below Z O3 st hgZ
                  have Bl4 := Bl3.trans st
                  have X04 := (st.cell (p := ⟨p, off + k * 3, none⟩) hpZ).trans X03
                  have X14 := (st.cell (p := ⟨p, off + k * 3 + 1, none⟩) hpZ).trans X13
                  have X24 := (st.cell (p := ⟨p, off + k * 3 + 2, none⟩) hpZ).trans X23
                  clear st gr O3 X03 X13 X23 Bl3 at5
                  refine wpAny_ready (rs := [14]) (by kernel_rfl) (by simp) ?_
                  refine AllReady.cons rfl (fun K hK => ?_) AllReady.nil
                  rw [if_pos (by kernel_rfl)]
                  refine append_any_wp (.tmp 55) (.tmp 58) 24 rfl Z 37 i0 _ 3 32 Try.underlying24 hi0 hz0 hz1 hz2 rfl (by omega) (by omega) g5 (j + 1) c5 _ rfl G4 g o13 (D.length - j) (c' - j) (valCells (D.drop j)) rfl (fun i u hu => drop_cell2 O4 hj hcap HO.out hu) (by rw [vc_len]; simp) (vc_one _) (Nat.le_trans hZ Bl4.size) (by omega) (by omega) ?_
                  intro g6 c6 W5 H5 st gr at6
                  refine hK _ _ ?_
                  clear hK K
                  rw [← vc_app, show j + 1 + (D.length - j) = D.length + 1 by omega] at H5
                  rw [show j + 1 + (D.length - j) = D.length + 1 by omega]
                  have O5 := own_below Z O4 st hgZ
                  have Bl5 := Bl4.trans st
                  have X05 := (st.cell (p := ⟨p, off + k * 3, none⟩) hpZ).trans X04
                  have X15 := (st.cell (p := ⟨p, off + k * 3 + 1, none⟩) hpZ).trans X14
                  have X25 := (st.cell (p := ⟨p, off + k * 3 + 2, none⟩) hpZ).trans X24
                  clear st gr O4 X04 X14 X24 Bl4 at6
                  refine wpAny_ready (rs := [15]) (by kernel_rfl) (by simp) ?_
                  refine AllReady.cons rfl (fun K hK => ?_) AllReady.nil
                  go_simp
                  refine hK _ _ ?_
                  clear hK K
                  refine wpAny_done (by kernel_rfl) ?_ _
                  have hbF := hbX.trans (Bl5.mono hzX)
                  have hownF := own_lower H5 hzX
                  have HCn := HC.out
                  have hlF : (dictOf (l.take (k + 1))).length = D.length + 1 := by rw [HCn]; simp; omega
                  rw [show D.take j ++ [x] ++ D.drop j = dictOf (l.take (k + 1)) by rw [HCn]; simp] at hownF
                  rw [← hlF] at hownF ⊢
                  clear Bl5 O5 X05 X15 X25 H5 HCn hlF
                  go_wp2
                  go_roundw
                  case rel => exact ⟨k + 1, g6, c6, by omega, by go_num, rfl, hownF, hbF⟩
                  case measure => simp [intOf]; omega
                · go_simp
                  refine hK _ _ ?_
                  clear hK K
                  refine wpAny_ready (rs := [4, 9]) (by kernel_rfl) (by simp) ?_
                  refine AllReady.cons rfl (fun K hK => ?_) (AllReady.cons rfl (fun K hK => ?_) AllReady.nil)
                  · rw [if_pos (by kernel_rfl)]
                    refine append_any_wp (.tmp 45) (.tmp 48) 24 rfl Z 37 i0 _ 3 32 Try.underlying24 hi0 hz0 hz1 hz2 rfl (by omega) (by omega) a0 0 0 _ rfl E1 g 0 j c' (valCells (D.take j)) rfl (fun i u hu => by rw [Nat.zero_add]; exact take_cell O1 hu) (by rw [vc_len]; simp; omega) (vc_one _) (Nat.le_trans hZ Bl1.size) (by omega) (by omega) ?_
                    intro g4 c4 W2 F2 st gr at4
                    refine hK _ _ ?_
                    clear hK K
                    rw [Nat.zero_add] at F2 ⊢
                    rw [List.nil_append] at F2
                    have O2 := own_below Z O1 st hgZ
                    have Bl2 := Bl1.trans st
                    have X02 := (st.cell (p := ⟨p, off + k * 3, none⟩) hpZ).trans X01
                    have X12 := (st.cell (p := ⟨p, off + k * 3 + 1, none⟩) hpZ).trans X11
                    have X22 := (st.cell (p := ⟨p, off + k * 3 + 2, none⟩) hpZ).trans X21
                    clear st gr O1 X01 X11 X21 Bl1 at4
                    refine wpAny_ready (rs := [9]) (by kernel_rfl) (by simp) ?_
                    refine AllReady.cons rfl (fun K hK => ?_) AllReady.nil
                    go_simp
                    refine hK _ _ ?_
                    clear hK K
                    have st := (Below.refl W2.heap.size W2).alloc (Nat.le_refl _) (.cells #[.int .i64 x.ty, .int .i64 x.n, .string x.s] 37)
                    have N3 := Box.new W2 x
                    obtain ⟨b9, hb9⟩ : ∃ a, a = W2.heap.size := ⟨_, rfl⟩
                    obtain ⟨W3, hW⟩ : ∃ W, W = W2.alloc (.cells #[.int .i64 x.ty, .int .i64 x.n, .string x.s] 37) := ⟨_, rfl⟩
                    rw [← hW] at st N3 ⊢
                    rw [← hb9] at N3 ⊢
                    have ne : g4 ≠ b9 := by have := (F2.lt g4 rfl).2; omega
                    have F3 := own_step F2 st
                    have O3 := own_step O2 st
                    have X03 := cell_keep st X02
                    have X13 := cell_keep st X12
                    have X23 := cell_keep st X22
                    have Bl3 := Bl2.trans (st.mono (Nat.le_trans hZ Bl2.size))
                    clear st hW O2 X02 X12 X22 Bl2 hb9
                    refine wpAny_ready (rs := [10]) (by kernel_rfl) (by simp) ?_
                    refine AllReady.cons rfl (fun K hK => ?_) AllReady.nil
                    rw [if_pos (by kernel_rfl)]
                    refine append_any_wp (.tmp 49) (.tmp 54) 24 rfl Z 37 i0 _ 3 32 Try.underlying24 hi0 hz0 hz1 hz2 rfl (by omega) (by omega) g4 j c4 _ rfl F3 b9 0 1 1 [.int .i64 x.ty, .int .i64 x.n, .string x.s] rfl (fun i u hu => by rw [Nat.zero_add]; exact box_cell N3 hu) rfl (by simp [Value.oneCell']) (Nat.le_trans hZ Bl3.size) (by omega) (by omega) ?_
                    intro g5 c5 W4 G4 st gr at5
                    refine hK _ _ ?_
                    clear hK K
                    rw [valCells_app] at G4
                    have O4 := own_below Z O3 st hgZ
                    have Bl4 := Bl3.trans st
                    have X04 := (st.cell (p := ⟨p, off + k * 3, none⟩) hpZ).trans X03
                    have X14 := (st.cell (p := ⟨p, off + k * 3 + 1, none⟩) hpZ).trans X13
                    have X24 := (st.cell (p := ⟨p, off + k * 3 + 2, none⟩) hpZ).trans X23
                    clear st gr O3 X03 X13 X23 Bl3 at5
                    refine wpAny_ready (rs := [14]) (by kernel_rfl) (by simp) ?_
                    refine AllReady.cons rfl (fun K hK => ?_) AllReady.nil
                    rw [if_pos (by kernel_rfl)]
                    refine append_any_wp (.tmp 55) (.tmp 58) 24 rfl Z 37 i0 _ 3 32 Try.underlying24 hi0 hz0 hz1 hz2 rfl (by omega) (by omega) g5 (j + 1) c5 _ rfl G4 g o13 (D.length - j) (c' - j) (valCells (D.drop j)) rfl (fun i u hu => drop_cell2 O4 hj hcap HO.out hu) (by rw [vc_len]; simp) (vc_one _) (Nat.le_trans hZ Bl4.size) (by omega) (by omega) ?_
                    intro g6 c6 W5 H5 st gr at6
                    refine hK _ _ ?_
                    clear hK K
                    rw [← vc_app, show j + 1 + (D.length - j) = D.length + 1 by omega] at H5
                    rw [show j + 1 + (D.length - j) = D.length + 1 by omega]
                    have O5 := own_below Z O4 st hgZ
                    have Bl5 := Bl4.trans st
                    have X05 := (st.cell (p := ⟨p, off + k * 3, none⟩) hpZ).trans X04
                    have X15 := (st.cell (p := ⟨p, off + k * 3 + 1, none⟩) hpZ).trans X14
                    have X25 := (st.cell (p := ⟨p, off + k * 3 + 2, none⟩) hpZ).trans X24
                    clear st gr O4 X04 X14 X24 Bl4 at6
                    refine wpAny_ready (rs := [15]) (by kernel_rfl) (by simp) ?_
                    refine AllReady.cons rfl (fun K hK => ?_) AllReady.nil
                    go_simp
                    refine hK _ _ ?_
                    clear hK K
                    refine wpAny_done (by kernel_rfl) ?_ _
                    have hbF := hbX.trans (Bl5.mono hzX)
                    have hownF := own_lower H5 hzX
                    have HCn := HC.out
                    have hlF : (dictOf (l.take (k + 1))).length = D.length + 1 := by rw [HCn]; simp; omega
                    rw [show D.take j ++ [x] ++ D.drop j = dictOf (l.take (k + 1)) by rw [HCn]; simp] at hownF
                    rw [← hlF] at hownF ⊢
                    clear Bl5 O5 X05 X15 X25 H5 HCn hlF
                    go_wp2
                    go_roundw
                    case rel => exact ⟨k + 1, g6, c6, by omega, by go_num, rfl, hownF, hbF⟩
                    case measure => simp [intOf]; omega
                  · go_simp
                    refine hK _ _ ?_
                    clear hK K
                    have st := (Below.refl W1.heap.size W1).alloc (Nat.le_refl _) (.cells #[.int .i64 x.ty, .int .i64 x.n, .string x.s] 37)
                    have N2 := Box.new W1 x
                    obtain ⟨b9, hb9⟩ : ∃ a, a = W1.heap.size := ⟨_, rfl⟩
                    obtain ⟨W2, hW⟩ : ∃ W, W = W1.alloc (.cells #[.int .i64 x.ty, .int .i64 x.n, .string x.s] 37) := ⟨_, rfl⟩
                    rw [← hW] at st N2 ⊢
                    rw [← hb9] at N2 ⊢
                    have ne : a0 ≠ b9 := by have := (E1.lt a0 rfl).2; omega
                    have E2 := own_step E1 st
                    have O2 := own_step O1 st
                    have X02 := cell_keep st X01
                    have X12 := cell_keep st X11
                    have X22 := cell_keep st X21
                    have Bl2 := Bl1.trans (st.mono (Nat.le_trans hZ Bl1.size))
                    clear st hW O1 X01 X11 X21 Bl1 hb9
                    refine wpAny_ready (rs := [4]) (by kernel_rfl) (by simp) ?_
                    refine AllReady.cons rfl (fun K hK => ?_) AllReady.nil
                    rw [if_pos (by kernel_rfl)]
                    refine append_any_wp (.tmp 45) (.tmp 48) 24 rfl Z 37 i0 _ 3 32 Try.underlying24 hi0 hz0 hz1 hz2 rfl (by omega) (by omega) a0 0 0 _ rfl E2 g 0 j c' (valCells (D.take j)) rfl (fun i u hu => by rw [Nat.zero_add]; exact take_cell O2 hu) (by rw [vc_len]; simp; omega) (vc_one _) (Nat.le_trans hZ Bl2.size) (by omega) (by omega) ?_
                    intro g4 c4 W3 F3 st gr at4
                    refine hK _ _ ?_
                    clear hK K
                    rw [Nat.zero_add] at F3 ⊢
                    rw [List.nil_append] at F3
                    have ne4 : g4 ≠ b9 := by have := N2.lt; omega
                    have N3 := N2.grown gr (fun e => ne e.symm)
                    have O3 := own_below Z O2 st hgZ
                    have Bl3 := Bl2.trans st
                    have X03 := (st.cell (p := ⟨p, off + k * 3, none⟩) hpZ).trans X02
                    have X13 := (st.cell (p := ⟨p, off + k * 3 + 1, none⟩) hpZ).trans X12
                    have X23 := (st.cell (p := ⟨p, off + k * 3 + 2, none⟩) hpZ).trans X22
                    clear st gr O2 X02 X12 X22 Bl2 at4
                    refine wpAny_ready (rs := [10]) (by kernel_rfl) (by simp) ?_
                    refine AllReady.cons rfl (fun K hK => ?_) AllReady.nil
                    rw [if_pos (by kernel_rfl)]
                    refine append_any_wp (.tmp 49) (.tmp 54) 24 rfl Z 37 i0 _ 3 32 Try.underlying24 hi0 hz0 hz1 hz2 rfl (by omega) (by omega) g4 j c4 _ rfl F3 b9 0 1 1 [.int .i64 x.ty, .int .i64 x.n, .string x.s] rfl (fun i u hu => by rw [Nat.zero_add]; exact box_cell N3 hu) rfl (by simp [Value.oneCell']) (Nat.le_trans hZ Bl3.size) (by omega) (by omega) ?_
                    intro g5 c5 W4 G4 st gr at5
                    refine hK _ _ ?_
                    clear hK K
                    rw [valCells_app] at G4
                    have O4 := own_below Z O3 st hgZ
                    have Bl4 := Bl3.trans st
                    have X04 := (st.cell (p := ⟨p, off + k * 3, none⟩) hpZ).trans X03
                    have X14 := (st.cell (p := ⟨p, off + k * 3 + 1, none⟩) hpZ).trans X13
                    have X24 := (st.cell (p := ⟨p, off + k * 3 + 2, none⟩) hpZ).trans X23
                    clear st gr O3 X03 X13 X23 Bl3 at5
                    refine wpAny_ready (rs := [14]) (by kernel_rfl) (by simp) ?_
                    refine AllReady.cons rfl (fun K hK => ?_) AllReady.nil
                    rw [if_pos (by kernel_rfl)]
                    refine append_any_wp (.tmp 55) (.tmp 58) 24 rfl Z 37 i0 _ 3 32 Try.underlying24 hi0 hz0 hz1 hz2 rfl (by omega) (by omega) g5 (j + 1) c5 _ rfl G4 g o13 (D.length - j) (c' - j) (valCells (D.drop j)) rfl (fun i u hu => drop_cell2 O4 hj hcap HO.out hu) (by rw [vc_len]; simp) (vc_one _) (Nat.le_trans hZ Bl4.size) (by omega) (by omega) ?_
                    intro g6 c6 W5 H5 st gr at6
                    refine hK _ _ ?_
                    clear hK K
                    rw [← vc_app, show j + 1 + (D.length - j) = D.length + 1 by omega] at H5
                    rw [show j + 1 + (D.length - j) = D.length + 1 by omega]
                    have O5 := own_below Z O4 st hgZ
                    have Bl5 := Bl4.trans st
                    have X05 := (st.cell (p := ⟨p, off + k * 3, none⟩) hpZ).trans X04
                    have X15 := (st.cell (p := ⟨p, off + k * 3 + 1, none⟩) hpZ).trans X14
                    have X25 := (st.cell (p := ⟨p, off + k * 3 + 2, none⟩) hpZ).trans X24
                    clear st gr O4 X04 X14 X24 Bl4 at6
                    refine wpAny_ready (rs := [15]) (by kernel_rfl) (by simp) ?_
                    refine AllReady.cons rfl (fun K hK => ?_) AllReady.nil
                    go_simp
                    refine hK _ _ ?_
                    clear hK K
                    refine wpAny_done (by kernel_rfl) ?_ _
                    have hbF := hbX.trans (Bl5.mono hzX)
                    have hownF := own_lower H5 hzX
                    have HCn := HC.out
                    have hlF : (dictOf (l.take (k + 1))).length = D.length + 1 := by rw [HCn]; simp; omega
                    rw [show D.take j ++ [x] ++ D.drop j = dictOf (l.take (k + 1)) by rw [HCn]; simp] at hownF
                    rw [← hlF] at hownF ⊢
                    clear Bl5 O5 X05 X15 X25 H5 HCn hlF
                    go_wp2
                    go_roundw
                    case rel => exact ⟨k + 1, g6, c6, by omega, by go_num, rfl, hownF, hbF⟩
                    case measure => simp [intOf]; omega
              · go_simp
                refine hK _ _ ?_
                clear hK K
                refine wpAny_ready (rs := [0, 9]) (by kernel_rfl) (by simp) ?_
                refine AllReady.cons rfl (fun K hK => ?_) (AllReady.cons rfl (fun K hK => ?_) AllReady.nil)
                · go_simp
                  refine hK _ _ ?_
                  clear hK K
                  have st := (Below.refl W0.heap.size W0).alloc (Nat.le_refl _) (.cells #[] 37)
                  have E1 := own_empty (w := W0) (base := Z) (e := 37) (size := 3) (Nat.le_trans hZ Bl0.size)
                  obtain ⟨a0, ha0⟩ : ∃ a, a = W0.heap.size := ⟨_, rfl⟩
                  obtain ⟨W1, hW⟩ : ∃ W, W = W0.alloc (.cells #[] 37) := ⟨_, rfl⟩
                  rw [← hW] at st E1 ⊢
                  rw [← ha0] at E1 ⊢
                  have O1 := own_step O0 st
                  have X01 := cell_keep st X00
                  have X11 := cell_keep st X10
                  have X21 := cell_keep st X20
                  have Bl1 := Bl0.trans (st.mono (Nat.le_trans hZ Bl0.size))
                  clear st hW O0 X00 X10 X20 Bl0 ha0
                  refine wpAny_ready (rs := [4, 9]) (by kernel_rfl) (by simp) ?_
                  refine AllReady.cons rfl (fun K hK => ?_) (AllReady.cons rfl (fun K hK => ?_) AllReady.nil)
                  · rw [if_pos (by kernel_rfl)]
                    refine append_any_wp (.tmp 45) (.tmp 48) 24 rfl Z 37 i0 _ 3 32 Try.underlying24 hi0 hz0 hz1 hz2 rfl (by omega) (by omega) a0 0 0 _ rfl E1 g 0 j c' (valCells (D.take j)) rfl (fun i u hu => by rw [Nat.zero_add]; exact take_cell O1 hu) (by rw [vc_len]; simp; omega) (vc_one _) (Nat.le_trans hZ Bl1.size) (by omega) (by omega) ?_
                    intro g4 c4 W2 F2 st gr at4
                    refine hK _ _ ?_
                    clear hK K
                    rw [Nat.zero_add] at F2 ⊢
                    rw [List.nil_append] at F2
                    have O2 := own_below Z O1 st hgZ
                    have Bl2 := Bl1.trans st
                    have X02 := (st.cell (p := ⟨p, off + k * 3, none⟩) hpZ).trans X01
                    have X12 := (st.cell (p := ⟨p, off + k * 3 + 1, none⟩) hpZ).trans X11
                    have X22 := (st.cell (p := ⟨p, off + k * 3 + 2, none⟩) hpZ).trans X21
                    clear st gr O1 X01 X11 X21 Bl1 at4
                    refine wpAny_ready (rs := [9]) (by kernel_rfl) (by simp) ?_
                    refine AllReady.cons rfl (fun K hK => ?_) AllReady.nil
                    go_simp
                    refine hK _ _ ?_
                    clear hK K
                    have st := (Below.refl W2.heap.size W2).alloc (Nat.le_refl _) (.cells #[.int .i64 x.ty, .int .i64 x.n, .string x.s] 37)
                    have N3 := Box.new W2 x
                    obtain ⟨b9, hb9⟩ : ∃ a, a = W2.heap.size := ⟨_, rfl⟩
                    obtain ⟨W3, hW⟩ : ∃ W, W = W2.alloc (.cells #[.int .i64 x.ty, .int .i64 x.n, .string x.s] 37) := ⟨_, rfl⟩
                    rw [← hW] at st N3 ⊢
                    rw [← hb9] at N3 ⊢
                    have ne : g4 ≠ b9 := by have := (F2.lt g4 rfl).2; omega
                    have F3 := own_step F2 st
                    have O3 := own_step O2 st
                    have X03 := cell_keep st X02
                    have X13 := cell_keep st X12
                    have X23 := cell_keep st X22
                    have Bl3 := Bl2.trans (st.mono (Nat.le_trans hZ Bl2.size))
                    clear st hW O2 X02 X12 X22 Bl2 hb9
                    refine wpAny_ready (rs := [10]) (by kernel_rfl) (by simp) ?_
                    refine AllReady.cons rfl (fun K hK => ?_) AllReady.nil
                    rw [if_pos (by kernel_rfl)]
                    refine append_any_wp (.tmp 49) (.tmp 54) 24 rfl Z 37 i0 _ 3 32 Try.underlying24 hi0 hz0 hz1 hz2 rfl (by omega) (by omega) g4 j c4 _ rfl F3 b9 0 1 1 [.int .i64 x.ty, .int .i64 x.n, .string x.s] rfl (fun i u hu => by rw [Nat.zero_add]; exact box_cell N3 hu) rfl (by simp [Value.oneCell']) (Nat.le_trans hZ Bl3.size) (by omega) (by omega) ?_
                    intro g5 c5 W4 G4 st gr at5
                    refine hK _ _ ?_
                    clear hK K
                    rw [valCells_app] at G4
                    have O4 := own_below Z O3 st hgZ
                    have Bl4 := Bl3.trans st
                    have X04 := (st.cell (p := ⟨p, off + k * 3, none⟩) hpZ).trans X03
                    have X14 := (st.cell (p := ⟨p, off + k * 3 + 1, none⟩) hpZ).trans X13
                    have X24 := (st.cell (p := ⟨p, off + k * 3 + 2, none⟩) hpZ).trans X23
                    clear st gr O3 X03 X13 X23 Bl3 at5
                    refine wpAny_ready (rs := [14]) (by kernel_rfl) (by simp) ?_
                    refine AllReady.cons rfl (fun K hK => ?_) AllReady.nil
                    rw [if_pos (by kernel_rfl)]
                    refine append_any_wp (.tmp 55) (.tmp 58) 24 rfl Z 37 i0 _ 3 32 Try.underlying24 hi0 hz0 hz1 hz2 rfl (by omega) (by omega) g5 (j + 1) c5 _ rfl G4 g o13 (D.length - j) (c' - j) (valCells (D.drop j)) rfl (fun i u hu => drop_cell2 O4 hj hcap HO.out hu) (by rw [vc_len]; simp) (vc_one _) (Nat.le_trans hZ Bl4.size) (by omega) (by omega) ?_
                    intro g6 c6 W5 H5 st gr at6
                    refine hK _ _ ?_
                    clear hK K
                    rw [← vc_app, show j + 1 + (D.length - j) = D.length + 1 by omega] at H5
                    rw [show j + 1 + (D.length - j) = D.length + 1 by omega]
                    have O5 := own_below Z O4 st hgZ
                    have Bl5 := Bl4.trans st
                    have X05 := (st.cell (p := ⟨p, off + k * 3, none⟩) hpZ).trans X04
                    have X15 := (st.cell (p := ⟨p, off + k * 3 + 1, none⟩) hpZ).trans X14
                    have X25 := (st.cell (p := ⟨p, off + k * 3 + 2, none⟩) hpZ).trans X24
                    clear st gr O4 X04 X14 X24 Bl4 at6
                    refine wpAny_ready (rs := [15]) (by kernel_rfl) (by simp) ?_
                    refine AllReady.cons rfl (fun K hK => ?_) AllReady.nil
                    go_simp
                    refine hK _ _ ?_
                    clear hK K
                    refine wpAny_done (by kernel_rfl) ?_ _
                    have hbF := hbX.trans (Bl5.mono hzX)
                    have hownF := own_lower H5 hzX
                    have HCn := HC.out
                    have hlF : (dictOf (l.take (k + 1))).length = D.length + 1 := by rw [HCn]; simp; omega
                    rw [show D.take j ++ [x] ++ D.drop j = dictOf (l.take (k + 1)) by rw [HCn]; simp] at hownF
                    rw [← hlF] at hownF ⊢
                    clear Bl5 O5 X05 X15 X25 H5 HCn hlF
                    go_wp2
                    go_roundw
                    case rel => exact ⟨k + 1, g6, c6, by omega, by go_num, rfl, hownF, hbF⟩
                    case measure => simp [intOf]; omega
                  · go_simp
                    refine hK _ _ ?_
                    clear hK K
                    have st := (Below.refl W1.heap.size W1).alloc (Nat.le_refl _) (.cells #[.int .i64 x.ty, .int .i64 x.n, .string x.s] 37)
                    have N2 := Box.new W1 x
                    obtain ⟨b9, hb9⟩ : ∃ a, a = W1.heap.size := ⟨_, rfl⟩
                    obtain ⟨W2, hW⟩ : ∃ W, W = W1.alloc (.cells #[.int .i64 x.ty, .int .i64 x.n, .string x.s] 37) := ⟨_, rfl⟩
                    rw [← hW] at st N2 ⊢
                    rw [← hb9] at N2 ⊢
                    have ne : a0 ≠ b9 := by have := (E1.lt a0 rfl).2; omega
                    have E2 := own_step E1 st
                    have O2 := own_step O1 st
                    have X02 := cell_keep st X01
                    have X12 := cell_keep st X11
                    have X22 := cell_keep st X21
                    have Bl2 := Bl1.trans (st.mono (Nat.le_trans hZ Bl1.size))
                    clear st hW O1 X01 X11 X21 Bl1 hb9
                    refine wpAny_ready (rs := [4]) (by kernel_rfl) (by simp) ?_
                    refine AllReady.cons rfl (fun K hK => ?_) AllReady.nil
                    rw [if_pos (by kernel_rfl)]
                    refine append_any_wp (.tmp 45) (.tmp 48) 24 rfl Z 37 i0 _ 3 32 Try.underlying24 hi0 hz0 hz1 hz2 rfl (by omega) (by omega) a0 0 0 _ rfl E2 g 0 j c' (valCells (D.take j)) rfl (fun i u hu => by rw [Nat.zero_add]; exact take_cell O2 hu) (by rw [vc_len]; simp; omega) (vc_one _) (Nat.le_trans hZ Bl2.size) (by omega) (by omega) ?_
                    intro g4 c4 W3 F3 st gr at4
                    refine hK _ _ ?_
                    clear hK K
                    rw [Nat.zero_add] at F3 ⊢
                    rw [List.nil_append] at F3
                    have ne4 : g4 ≠ b9 := by have := N2.lt; omega
                    have N3 := N2.grown gr (fun e => ne e.symm)
                    have O3 := own_below Z O2 st hgZ
                    have Bl3 := Bl2.trans st
                    have X03 := (st.cell (p := ⟨p, off + k * 3, none⟩) hpZ).trans X02
                    have X13 := (st.cell (p := ⟨p, off + k * 3 + 1, none⟩) hpZ).trans X12
                    have X23 := (st.cell (p := ⟨p, off + k * 3 + 2, none⟩) hpZ).trans X22
                    clear st gr O2 X02 X12 X22 Bl2 at4
                    refine wpAny_ready (rs := [10]) (by kernel_rfl) (by simp) ?_
                    refine AllReady.cons rfl (fun K hK => ?_) AllReady.nil
                    rw [if_pos (by kernel_rfl)]
                    refine append_any_wp (.tmp 49) (.tmp 54) 24 rfl Z 37 i0 _ 3 32 Try.underlying24 hi0 hz0 hz1 hz2 rfl (by omega) (by omega) g4 j c4 _ rfl F3 b9 0 1 1 [.int .i64 x.ty, .int .i64 x.n, .string x.s] rfl (fun i u hu => by rw [Nat.zero_add]; exact box_cell N3 hu) rfl (by simp [Value.oneCell']) (Nat.le_trans hZ Bl3.size) (by omega) (by omega) ?_
                    intro g5 c5 W4 G4 st gr at5
                    refine hK _ _ ?_
                    clear hK K
                    rw [valCells_app] at G4
                    have O4 := own_below Z O3 st hgZ
                    have Bl4 := Bl3.trans st
                    have X04 := (st.cell (p := ⟨p, off + k * 3, none⟩) hpZ).trans X03
                    have X14 := (st.cell (p := ⟨p, off + k * 3 + 1, none⟩) hpZ).trans X13
                    have X24 := (st.cell (p := ⟨p, off + k * 3 + 2, none⟩) hpZ).trans X23
                    clear st gr O3 X03 X13 X23 Bl3 at5
                    refine wpAny_ready (rs := [14]) (by kernel_rfl) (by simp) ?_
                    refine AllReady.cons rfl (fun K hK => ?_) AllReady.nil
                    rw [if_pos (by kernel_rfl)]
                    refine append_any_wp (.tmp 55) (.tmp 58) 24 rfl Z 37 i0 _ 3 32 Try.underlying24 hi0 hz0 hz1 hz2 rfl (by omega) (by omega) g5 (j + 1) c5 _ rfl G4 g o13 (D.length - j) (c' - j) (valCells (D.drop j)) rfl (fun i u hu => drop_cell2 O4 hj hcap HO.out hu) (by rw [vc_len]; simp) (vc_one _) (Nat.le_trans hZ Bl4.size) (by omega) (by omega) ?_
                    intro g6 c6 W5 H5 st gr at6
                    refine hK _ _ ?_
                    clear hK K
                    rw [← vc_app, show j + 1 + (D.length - j) = D.length + 1 by omega] at H5
                    rw [show j + 1 + (D.length - j) = D.length + 1 by omega]
                    have O5 := own_below Z O4 st hgZ
                    have Bl5 := Bl4.trans st
                    have X05 := (st.cell (p := ⟨p, off + k * 3, none⟩) hpZ).trans X04
                    have X15 := (st.cell (p := ⟨p, off + k * 3 + 1, none⟩) hpZ).trans X14
                    have X25 := (st.cell (p := ⟨p, off + k * 3 + 2, none⟩) hpZ).trans X24
                    clear st gr O4 X04 X14 X24 Bl4 at6
                    refine wpAny_ready (rs := [15]) (by kernel_rfl) (by simp) ?_
                    refine AllReady.cons rfl (fun K hK => ?_) AllReady.nil
                    go_simp
                    refine hK _ _ ?_
                    clear hK K
                    refine wpAny_done (by kernel_rfl) ?_ _
                    have hbF := hbX.trans (Bl5.mono hzX)
                    have hownF := own_lower H5 hzX
                    have HCn := HC.out
                    have hlF : (dictOf (l.take (k + 1))).length = D.length + 1 := by rw [HCn]; simp; omega
                    rw [show D.take j ++ [x] ++ D.drop j = dictOf (l.take (k + 1)) by rw [HCn]; simp] at hownF
                    rw [← hlF] at hownF ⊢
                    clear Bl5 O5 X05 X15 X25 H5 HCn hlF
                    go_wp2
                    go_roundw
                    case rel => exact ⟨k + 1, g6, c6, by omega, by go_num, rfl, hownF, hbF⟩
                    case measure => simp [intOf]; omega
                · go_simp
                  refine hK _ _ ?_
                  clear hK K
                  have st := (Below.refl W0.heap.size W0).alloc (Nat.le_refl _) (.cells #[.int .i64 x.ty, .int .i64 x.n, .string x.s] 37)
                  have N1 := Box.new W0 x
                  obtain ⟨b9, hb9⟩ : ∃ a, a = W0.heap.size := ⟨_, rfl⟩
                  obtain ⟨W1, hW⟩ : ∃ W, W = W0.alloc (.cells #[.int .i64 x.ty, .int .i64 x.n, .string x.s] 37) := ⟨_, rfl⟩
                  rw [← hW] at st N1 ⊢
                  rw [← hb9] at N1 ⊢
                  have O1 := own_step O0 st
                  have X01 := cell_keep st X00
                  have X11 := cell_keep st X10
                  have X21 := cell_keep st X20
                  have Bl1 := Bl0.trans (st.mono (Nat.le_trans hZ Bl0.size))
                  clear st hW O0 X00 X10 X20 Bl0 hb9
                  refine wpAny_ready (rs := [0]) (by kernel_rfl) (by simp) ?_
                  refine AllReady.cons rfl (fun K hK => ?_) AllReady.nil
                  go_simp
                  refine hK _ _ ?_
                  clear hK K
                  have st := (Below.refl W1.heap.size W1).alloc (Nat.le_refl _) (.cells #[] 37)
                  have E2 := own_empty (w := W1) (base := Z) (e := 37) (size := 3) (Nat.le_trans hZ Bl1.size)
                  obtain ⟨a0, ha0⟩ : ∃ a, a = W1.heap.size := ⟨_, rfl⟩
                  obtain ⟨W2, hW⟩ : ∃ W, W = W1.alloc (.cells #[] 37) := ⟨_, rfl⟩
                  rw [← hW] at st E2 ⊢
                  rw [← ha0] at E2 ⊢
                  have ne : a0 ≠ b9 := by have := N1.lt; omega
                  have N2 := N1.below st
                  have O2 := own_step O1 st
                  have X02 := cell_keep st X01
                  have X12 := cell_keep st X11
                  have X22 := cell_keep st X21
                  have Bl2 := Bl1.trans (st.mono (Nat.le_trans hZ Bl1.size))
                  clear st hW O1 X01 X11 X21 Bl1 ha0
                  refine wpAny_ready (rs := [4]) (by kernel_rfl) (by simp) ?_
                  refine AllReady.cons rfl (fun K hK => ?_) AllReady.nil
                  rw [if_pos (by kernel_rfl)]
                  refine append_any_wp (.tmp 45) (.tmp 48) 24 rfl Z 37 i0 _ 3 32 Try.underlying24 hi0 hz0 hz1 hz2 rfl (by omega) (by omega) a0 0 0 _ rfl E2 g 0 j c' (valCells (D.take j)) rfl (fun i u hu => by rw [Nat.zero_add]; exact take_cell O2 hu) (by rw [vc_len]; simp; omega) (vc_one _) (Nat.le_trans hZ Bl2.size) (by omega) (by omega) ?_
                  intro g4 c4 W3 F3 st gr at4
                  refine hK _ _ ?_
                  clear hK K
                  rw [Nat.zero_add] at F3 ⊢
                  rw [List.nil_append] at F3
                  have ne4 : g4 ≠ b9 := by have := N2.lt; omega
                  have N3 := N2.grown gr (fun e => ne e.symm)
                  have O3 := own_below Z O2 st hgZ
                  have Bl3 := Bl2.trans st
                  have X03 := (st.cell (p := ⟨p, off + k * 3, none⟩) hpZ).trans X02
                  have X13 := (st.cell (p := ⟨p, off + k * 3 + 1, none⟩) hpZ).trans X12
                  have X23 := (st.cell (p := ⟨p, off + k * 3 + 2, none⟩) hpZ).trans X22
                  clear st gr O2 X02 X12 X22 Bl2 at4
                  refine wpAny_ready (rs := [10]) (by kernel_rfl) (by simp) ?_
                  refine AllReady.cons rfl (fun K hK => ?_) AllReady.nil
                  rw [if_pos (by kernel_rfl)]
                  refine append_any_wp (.tmp 49) (.tmp 54) 24 rfl Z 37 i0 _ 3 32 Try.underlying24 hi0 hz0 hz1 hz2 rfl (by omega) (by omega) g4 j c4 _ rfl F3 b9 0 1 1 [.int .i64 x.ty, .int .i64 x.n, .string x.s] rfl (fun i u hu => by rw [Nat.zero_add]; exact box_cell N3 hu) rfl (by simp [Value.oneCell']) (Nat.le_trans hZ Bl3.size) (by omega) (by omega) ?_
                  intro g5 c5 W4 G4 st gr at5
                  refine hK _ _ ?_
                  clear hK K
                  rw [valCells_app] at G4
                  have O4 := own_below Z O3 st hgZ
                  have Bl4 := Bl3.trans st
                  have X04 := (st.cell (p := ⟨p, off + k * 3, none⟩) hpZ).trans X03
                  have X14 := (st.cell (p := ⟨p, off + k * 3 + 1, none⟩) hpZ).trans X13
                  have X24 := (st.cell (p := ⟨p, off + k * 3 + 2, none⟩) hpZ).trans X23
                  clear st gr O3 X03 X13 X23 Bl3 at5
                  refine wpAny_ready (rs := [14]) (by kernel_rfl) (by simp) ?_
                  refine AllReady.cons rfl (fun K hK => ?_) AllReady.nil
                  rw [if_pos (by kernel_rfl)]
                  refine append_any_wp (.tmp 55) (.tmp 58) 24 rfl Z 37 i0 _ 3 32 Try.underlying24 hi0 hz0 hz1 hz2 rfl (by omega) (by omega) g5 (j + 1) c5 _ rfl G4 g o13 (D.length - j) (c' - j) (valCells (D.drop j)) rfl (fun i u hu => drop_cell2 O4 hj hcap HO.out hu) (by rw [vc_len]; simp) (vc_one _) (Nat.le_trans hZ Bl4.size) (by omega) (by omega) ?_
                  intro g6 c6 W5 H5 st gr at6
                  refine hK _ _ ?_
                  clear hK K
                  rw [← vc_app, show j + 1 + (D.length - j) = D.length + 1 by omega] at H5
                  rw [show j + 1 + (D.length - j) = D.length + 1 by omega]
                  have O5 := own_below Z O4 st hgZ
                  have Bl5 := Bl4.trans st
                  have X05 := (st.cell (p := ⟨p, off + k * 3, none⟩) hpZ).trans X04
                  have X15 := (st.cell (p := ⟨p, off + k * 3 + 1, none⟩) hpZ).trans X14
                  have X25 := (st.cell (p := ⟨p, off + k * 3 + 2, none⟩) hpZ).trans X24
                  clear st gr O4 X04 X14 X24 Bl4 at6
                  refine wpAny_ready (rs := [15]) (by kernel_rfl) (by simp) ?_
                  refine AllReady.cons rfl (fun K hK => ?_) AllReady.nil
                  go_simp
                  refine hK _ _ ?_
                  clear hK K
                  refine wpAny_done (by kernel_rfl) ?_ _
                  have hbF := hbX.trans (Bl5.mono hzX)
                  have hownF := own_lower H5 hzX
                  have HCn := HC.out
                  have hlF : (dictOf (l.take (k + 1))).length = D.length + 1 := by rw [HCn]; simp; omega
                  rw [show D.take j ++ [x] ++ D.drop j = dictOf (l.take (k + 1)) by rw [HCn]; simp] at hownF
                  rw [← hlF] at hownF ⊢
                  clear Bl5 O5 X05 X15 X25 H5 HCn hlF
                  go_wp2
                  go_roundw
                  case rel => exact ⟨k + 1, g6, c6, by omega, by go_num, rfl, hownF, hbF⟩
                  case measure => simp [intOf]; omega
            · rw [hv] at heq
              have HC : Hid (dictOf (l.take (k + 1)) = D) := by
                show _ = _
                rw [hsn.out, hins, if_pos ⟨y, HY.out, hv⟩]
              clear hlv hins hv hL hown
              go_wp2_with fail
              go_quiet (fail)
              have hbX := hbl.trans ((below_drewN hbq3 nq).mono hsz)
              have hownX2 : (w3.drewN nq).ownsRow w.heap.size 37 3 (.slice (some ⟨g, 0, none⟩) D.length c') D.length (valCells D) := hownX
              clear hbq3 g0 g1 g2 m0 m1 m2 hownX hbl
              go_wp2
              rw [← HC.out] at hownX2 ⊢
              go_roundw
              case rel => exact ⟨k + 1, g, c', by omega, by go_num, rfl, hownX2, hbX⟩
              case measure => simp [intOf]; omega
          · have hL2 : ∀ i z, i < j + 1 → D[i]? = some z → lessV z x = true := by
              intro i z hi hz
              rcases Nat.lt_or_ge i j with h | h
              · exact hL.out i z h hz
              · rw [show i = j by omega, HY.out] at hz
                rw [← Option.some.inj hz]
                exact hlv
            have HL2 := Lib.hid hL2
            clear hlv hL2 hL g0 g1 g2 m0 m1 m2 hownX
            go_wp2
            go_roundw
            case rel => exact ⟨j + 1, by omega, by go_num, HL2, hbq3⟩
            case measure => simp [intOf]; omega
        · have hjD : j = D.length := by omega
          have hjt : decide (j < D.length) = false := decide_eq_false hjl
          have HC : Hid (dictOf (l.take (k + 1)) = D.take j ++ x :: D.drop j) := by
            show _ = _
            rw [hsn.out, insV_at (k := j) (fun i z hi hz => hL.out i z hi hz) (fun z hz => by rw [List.getElem?_eq_none (by omega)] at hz; cases hz) hj, if_neg (by rintro ⟨z, hz, _⟩; rw [List.getElem?_eq_none (by omega)] at hz; cases hz)]
          have hjn : ((j : Int) == (D.length : Int)) = true := beq_iff_eq.2 (by omega)
          have hjn2 : decide (j = D.length) = true := decide_eq_true hjD
          clear hjD hL hown
          go_wp2_with fail
          go_quiet (fail)
          have hbq2 := below_drewN hbq nq
          have f0 : (wr.drewN nq).cell? ⟨p, off + k * 3, none⟩ = some (.int .i64 x.ty) := e0
          have f1 : (wr.drewN nq).cell? ⟨p, off + k * 3 + 1, none⟩ = some (.int .i64 x.n) := e1
          have f2 : (wr.drewN nq).cell? ⟨p, off + k * 3 + 2, none⟩ = some (.string x.s) := e2
          have hownq2 : (wr.drewN nq).ownsRow w.heap.size 37 3 (.slice (some ⟨g, 0, none⟩) D.length c') D.length (valCells D) := hownq
          clear hbq e0 e1 e2 hownq
          generalize wr.drewN nq = w3 at hbq2 f0 f1 f2 hownq2 ⊢
          go_wp2_with fail
          go_quiet (fail)
          have hbX := hbl.trans ((below_drewN hbq2 nq).mono hsz)
          have hownX : (w3.drewN nq).ownsRow w.heap.size 37 3 (.slice (some ⟨g, 0, none⟩) D.length c') D.length (valCells D) := hownq2
          have x0 : (w3.drewN nq).cell? ⟨p, off + k * 3, none⟩ = some (.int .i64 x.ty) := f0
          have x1 : (w3.drewN nq).cell? ⟨p, off + k * 3 + 1, none⟩ = some (.int .i64 x.n) := f1
          have x2 : (w3.drewN nq).cell? ⟨p, off + k * 3 + 2, none⟩ = some (.string x.s) := f2
          clear hbq2 f0 f1 f2 hownq2 hbl
          generalize w3.drewN nq = wX at hbX hownX x0 x1 x2 ⊢
          have hcap := own_cap hownX
          have k0 : (0 : Int) ≤ (j : Int) := by omega
          have k1 : (j : Int) ≤ (c' : Int) := by omega
          have k2 : (j : Int) ≤ (D.length : Int) := by omega
          have k3 : (k : Int) < (l.length : Int) := by omega
          have k4 : (D.length : Int) ≤ (c' : Int) := by omega
          go_wp2_with fail
          refine wp_region_any (by kernel_rfl) ?_
          change wpAny _ _ _ _ _ _ _ (World.drew _)
          have O0 : wX.drew.ownsRow w.heap.size 37 3 (.slice (some ⟨g, 0, none⟩) D.length c') D.length (valCells D) := hownX
          have X00 : wX.drew.cell? ⟨p, off + k * 3, none⟩ = some (.int .i64 x.ty) := x0
          have X10 : wX.drew.cell? ⟨p, off + k * 3 + 1, none⟩ = some (.int .i64 x.n) := x1
          have X20 : wX.drew.cell? ⟨p, off + k * 3 + 2, none⟩ = some (.string x.s) := x2
          replace hbX := hbX.drew
          have hgx := (O0.lt g rfl).2
          have hpx := World.block_lt_of_cell? _ _ X00
          clear hownX x0 x1 x2
          generalize wX.drew = W0 at O0 X00 X10 X20 hbX hgx hpx ⊢
          obtain ⟨Z, hZe⟩ : ∃ Z, Z = W0.heap.size := ⟨_, rfl⟩
          have hZ : Z ≤ W0.heap.size := by omega
          have hgZ : g < Z := by omega
          have hpZ : p < Z := by simp at hpx; omega
          have hzX : w.heap.size ≤ Z := by have := hbX.size; omega
          have Bl0 : Below Z W0 W0 := Below.refl _ _
          clear hZe hgx hpx
          refine wpAny_take (i := 1) (v := .slice (some ⟨g, 0, none⟩) D.length c') rfl (by kernel_rfl) (by kernel_rfl) (by kernel_rfl) (fun _ _ _ h => h) (Or.inl ⟨by kernel_rfl, fun _ => by kernel_rfl⟩) ?_
          refine wpAny_take (i := 2) (v := .int .i64 (j : Int)) rfl (by kernel_rfl) (by kernel_rfl) (by kernel_rfl) (fun _ _ _ h => h) (Or.inl ⟨by kernel_rfl, fun _ => by kernel_rfl⟩) ?_
          refine wpAny_take (i := 3) (v := .slice (some ⟨g, 0, none⟩) j c') rfl (by kernel_rfl) (by kernel_rfl) (by kernel_rfl) (fun _ _ _ h => h) (Or.inl ⟨by kernel_rfl, fun _ => by go_simp⟩) ?_
          refine wpAny_take (i := 5) (v := .slice (some ⟨p, off, none⟩) l.length c) rfl (by kernel_rfl) (by kernel_rfl) (by kernel_rfl) (fun _ _ _ h => h) (Or.inl ⟨by kernel_rfl, fun _ => by kernel_rfl⟩) ?_
          refine wpAny_take (i := 6) (v := .int .i64 (k : Int)) rfl (by kernel_rfl) (by kernel_rfl) (by kernel_rfl) (fun _ _ _ h => h) (Or.inl ⟨by kernel_rfl, fun _ => by kernel_rfl⟩) ?_
          refine wpAny_take (i := 7) (v := .pointer (some ⟨p, off + k * 3, none⟩)) rfl (by kernel_rfl) (by kernel_rfl) (by kernel_rfl) (fun _ _ _ h => h) (Or.inl ⟨by kernel_rfl, fun _ => by go_simp⟩) ?_
          refine wpAny_take (i := 11) (v := .slice (some ⟨g, 0, none⟩) D.length c') rfl (by kernel_rfl) (by kernel_rfl) (by kernel_rfl) (fun _ _ _ h => h) (Or.inl ⟨by kernel_rfl, fun _ => by kernel_rfl⟩) ?_
          refine wpAny_take (i := 12) (v := .int .i64 (j : Int)) rfl (by kernel_rfl) (by kernel_rfl) (by kernel_rfl) (fun _ _ _ h => h) (Or.inl ⟨by kernel_rfl, fun _ => by kernel_rfl⟩) ?_
          obtain ⟨o13, ho⟩ : ∃ o, o = if c' = j then 0 else j * 3 := ⟨_, rfl⟩
          refine wpAny_take (i := 13) (v := .slice (some ⟨g, o13, none⟩) (D.length - j) (c' - j)) rfl (by kernel_rfl) (by kernel_rfl) (by kernel_rfl) (fun _ _ _ h => h) (Or.inl ⟨by kernel_rfl, fun _ => by rw [ho]; go_simp; split <;> rfl⟩) ?_
          have HO := Lib.hid ho
          clear ho
          refine wpAny_ready (rs := [0, 8]) (by kernel_rfl) (by simp) ?_
          refine AllReady.cons rfl (fun K hK => ?_) (AllReady.cons rfl (fun K hK => ?_) AllReady.nil)
          · go_simp
            refine hK _ _ ?_
            clear hK K
            have st := (Below.refl W0.heap.size W0).alloc (Nat.le_refl _) (.cells #[] 37)
            have E1 := own_empty (w := W0) (base := Z) (e := 37) (size := 3) (Nat.le_trans hZ Bl0.size)
            obtain ⟨a0, ha0⟩ : ∃ a, a = W0.heap.size := ⟨_, rfl⟩
            obtain ⟨W1, hW⟩ : ∃ W, W = W0.alloc (.cells #[] 37) := ⟨_, rfl⟩
            rw [← hW] at st E1 ⊢
            rw [← ha0] at E1 ⊢
            have O1 := own_step O0 st
            have X01 := cell_keep st X00
            have X11 := cell_keep st X10
            have X21 := cell_keep st X20
            have Bl1 := Bl0.trans (st.mono (Nat.le_trans hZ Bl0.size))
            clear st hW O0 X00 X10 X20 Bl0 ha0
            refine wpAny_ready (rs := [4, 8]) (by kernel_rfl) (by simp) ?_
            refine AllReady.cons rfl (fun K hK => ?_) (AllReady.cons rfl (fun K hK => ?_) AllReady.nil)
            · rw [if_pos (by kernel_rfl)]
              refine append_any_wp (.tmp 45) (.tmp 48) 24 rfl Z 37 i0 _ 3 32 Try.underlying24 hi0 hz0 hz1 hz2 rfl (by omega) (by omega) a0 0 0 _ rfl E1 g 0 j c' (valCells (D.take j)) rfl (fun i u hu => by rw [Nat.zero_add]; exact take_cell O1 hu) (by rw [vc_len]; simp; omega) (vc_one _) (Nat.le_trans hZ Bl1.size) (by omega) (by omega) ?_
              intro g4 c4 W2 F2 st gr at4
              refine hK _ _ ?_
              clear hK K
              rw [Nat.zero_add] at F2 ⊢
              rw [List.nil_append] at F2
              have O2 := own_below Z O1 st hgZ
              have Bl2 := Bl1.trans st
              have X02 := (st.cell (p := ⟨p, off + k * 3, none⟩) hpZ).trans X01
              have X12 := (st.cell (p := ⟨p, off + k * 3 + 1, none⟩) hpZ).trans X11
              have X22 := (st.cell (p := ⟨p, off + k * 3 + 2, none⟩) hpZ).trans X21
              clear st gr O1 X01 X11 X21 Bl1 at4
              refine wpAny_ready (rs := [8]) (by kernel_rfl) (by simp) ?_
              refine AllReady.cons rfl (fun K hK => ?_) AllReady.nil
              go_simp
              refine hK _ _ ?_
              clear hK K
              refine wpAny_ready (rs := [9]) (by kernel_rfl) (by simp) ?_
              refine AllReady.cons rfl (fun K hK => ?_) AllReady.nil
              go_simp
              refine hK _ _ ?_
              clear hK K
              have st := (Below.refl W2.heap.size W2).alloc (Nat.le_refl _) (.cells #[.int .i64 x.ty, .int .i64 x.n, .string x.s] 37)
              have N3 := Box.new W2 x
              obtain ⟨b9, hb9⟩ : ∃ a, a = W2.heap.size := ⟨_, rfl⟩
              obtain ⟨W3, hW⟩ : ∃ W, W = W2.alloc (.cells #[.int .i64 x.ty, .int .i64 x.n, .string x.s] 37) := ⟨_, rfl⟩
              rw [← hW] at st N3 ⊢
              rw [← hb9] at N3 ⊢
              have ne : g4 ≠ b9 := by have := (F2.lt g4 rfl).2; omega
              have F3 := own_step F2 st
              have O3 := own_step O2 st
              have X03 := cell_keep st X02
              have X13 := cell_keep st X12
              have X23 := cell_keep st X22
              have Bl3 := Bl2.trans (st.mono (Nat.le_trans hZ Bl2.size))
              clear st hW O2 X02 X12 X22 Bl2 hb9
              refine wpAny_ready (rs := [10]) (by kernel_rfl) (by simp) ?_
              refine AllReady.cons rfl (fun K hK => ?_) AllReady.nil
              rw [if_pos (by kernel_rfl)]
              refine append_any_wp (.tmp 49) (.tmp 54) 24 rfl Z 37 i0 _ 3 32 Try.underlying24 hi0 hz0 hz1 hz2 rfl (by omega) (by omega) g4 j c4 _ rfl F3 b9 0 1 1 [.int .i64 x.ty, .int .i64 x.n, .string x.s] rfl (fun i u hu => by rw [Nat.zero_add]; exact box_cell N3 hu) rfl (by simp [Value.oneCell']) (Nat.le_trans hZ Bl3.size) (by omega) (by omega) ?_
              intro g5 c5 W4 G4 st gr at5
              refine hK _ _ ?_
              clear hK K
              rw [valCells_app] at G4
              have O4 := own_below Z O3 st hgZ
              have Bl4 := Bl3.trans st
              have X04 := (st.cell (p := ⟨p, off + k * 3, none⟩) hpZ).trans X03
              have X14 := (st.cell (p := ⟨p, off + k * 3 + 1, none⟩) hpZ).trans X13
              have X24 := (st.cell (p := ⟨p, off + k * 3 + 2, none⟩) hpZ).trans X23
              clear st gr O3 X03 X13 X23 Bl3 at5
              refine wpAny_ready (rs := [14]) (by kernel_rfl) (by simp) ?_
              refine AllReady.cons rfl (fun K hK => ?_) AllReady.nil
              rw [if_pos (by kernel_rfl)]
              refine append_any_wp (.tmp 55) (.tmp 58) 24 rfl Z 37 i0 _ 3 32 Try.underlying24 hi0 hz0 hz1 hz2 rfl (by omega) (by omega) g5 (j + 1) c5 _ rfl G4 g o13 (D.length - j) (c' - j) (valCells (D.drop j)) rfl (fun i u hu => drop_cell2 O4 hj hcap HO.out hu) (by rw [vc_len]; simp) (vc_one _) (Nat.le_trans hZ Bl4.size) (by omega) (by omega) ?_
              intro g6 c6 W5 H5 st gr at6
              refine hK _ _ ?_
              clear hK K
              rw [← vc_app, show j + 1 + (D.length - j) = D.length + 1 by omega] at H5
              rw [show j + 1 + (D.length - j) = D.length + 1 by omega]
              have O5 := own_below Z O4 st hgZ
              have Bl5 := Bl4.trans st
              have X05 := (st.cell (p := ⟨p, off + k * 3, none⟩) hpZ).trans X04
              have X15 := (st.cell (p := ⟨p, off + k * 3 + 1, none⟩) hpZ).trans X14
              have X25 := (st.cell (p := ⟨p, off + k * 3 + 2, none⟩) hpZ).trans X24
              clear st gr O4 X04 X14 X24 Bl4 at6
              refine wpAny_ready (rs := [15]) (by kernel_rfl) (by simp) ?_
              refine AllReady.cons rfl (fun K hK => ?_) AllReady.nil
              go_simp
              refine hK _ _ ?_
              clear hK K
              refine wpAny_done (by kernel_rfl) ?_ _
              have hbF := hbX.trans (Bl5.mono hzX)
              have hownF := own_lower H5 hzX
              have HCn := HC.out
              have hlF : (dictOf (l.take (k + 1))).length = D.length + 1 := by rw [HCn]; simp; omega
              rw [show D.take j ++ [x] ++ D.drop j = dictOf (l.take (k + 1)) by rw [HCn]; simp] at hownF
              rw [← hlF] at hownF ⊢
              clear Bl5 O5 X05 X15 X25 H5 HCn hlF
              go_wp2
              go_roundw
              case rel => exact ⟨k + 1, g6, c6, by omega, by go_num, rfl, hownF, hbF⟩
              case measure => simp [intOf]; omega
            · go_simp
              refine hK _ _ ?_
              clear hK K
              refine wpAny_ready (rs := [4, 9]) (by kernel_rfl) (by simp) ?_
              refine AllReady.cons rfl (fun K hK => ?_) (AllReady.cons rfl (fun K hK => ?_) AllReady.nil)
              · rw [if_pos (by kernel_rfl)]
                refine append_any_wp (.tmp 45) (.tmp 48) 24 rfl Z 37 i0 _ 3 32 Try.underlying24 hi0 hz0 hz1 hz2 rfl (by omega) (by omega) a0 0 0 _ rfl E1 g 0 j c' (valCells (D.take j)) rfl (fun i u hu => by rw [Nat.zero_add]; exact take_cell O1 hu) (by rw [vc_len]; simp; omega) (vc_one _) (Nat.le_trans hZ Bl1.size) (by omega) (by omega) ?_
                intro g4 c4 W2 F2 st gr at4
                refine hK _ _ ?_
                clear hK K
                rw [Nat.zero_add] at F2 ⊢
                rw [List.nil_append] at F2
                have O2 := own_below Z O1 st hgZ
                have Bl2 := Bl1.trans st
                have X02 := (st.cell (p := ⟨p, off + k * 3, none⟩) hpZ).trans X01
                have X12 := (st.cell (p := ⟨p, off + k * 3 + 1, none⟩) hpZ).trans X11
                have X22 := (st.cell (p := ⟨p, off + k * 3 + 2, none⟩) hpZ).trans X21
                clear st gr O1 X01 X11 X21 Bl1 at4
                refine wpAny_ready (rs := [9]) (by kernel_rfl) (by simp) ?_
                refine AllReady.cons rfl (fun K hK => ?_) AllReady.nil
                go_simp
                refine hK _ _ ?_
                clear hK K
                have st := (Below.refl W2.heap.size W2).alloc (Nat.le_refl _) (.cells #[.int .i64 x.ty, .int .i64 x.n, .string x.s] 37)
                have N3 := Box.new W2 x
                obtain ⟨b9, hb9⟩ : ∃ a, a = W2.heap.size := ⟨_, rfl⟩
                obtain ⟨W3, hW⟩ : ∃ W, W = W2.alloc (.cells #[.int .i64 x.ty, .int .i64 x.n, .string x.s] 37) := ⟨_, rfl⟩
                rw [← hW] at st N3 ⊢
                rw [← hb9] at N3 ⊢
                have ne : g4 ≠ b9 := by have := (F2.lt g4 rfl).2; omega
                have F3 := own_step F2 st
                have O3 := own_step O2 st
                have X03 := cell_keep st X02
                have X13 := cell_keep st X12
                have X23 := cell_keep st X22
                have Bl3 := Bl2.trans (st.mono (Nat.le_trans hZ Bl2.size))
                clear st hW O2 X02 X12 X22 Bl2 hb9
                refine wpAny_ready (rs := [10]) (by kernel_rfl) (by simp) ?_
                refine AllReady.cons rfl (fun K hK => ?_) AllReady.nil
                rw [if_pos (by kernel_rfl)]
                refine append_any_wp (.tmp 49) (.tmp 54) 24 rfl Z 37 i0 _ 3 32 Try.underlying24 hi0 hz0 hz1 hz2 rfl (by omega) (by omega) g4 j c4 _ rfl F3 b9 0 1 1 [.int .i64 x.ty, .int .i64 x.n, .string x.s] rfl (fun i u hu => by rw [Nat.zero_add]; exact box_cell N3 hu) rfl (by simp [Value.oneCell']) (Nat.le_trans hZ Bl3.size) (by omega) (by omega) ?_
                intro g5 c5 W4 G4 st gr at5
                refine hK _ _ ?_
                clear hK K
                rw [valCells_app] at G4
                have O4 := own_below Z O3 st hgZ
                have Bl4 := Bl3.trans st
                have X04 := (st.cell (p := ⟨p, off + k * 3, none⟩) hpZ).trans X03
                have X14 := (st.cell (p := ⟨p, off + k * 3 + 1, none⟩) hpZ).trans X13
                have X24 := (st.cell (p := ⟨p, off + k * 3 + 2, none⟩) hpZ).trans X23
                clear st gr O3 X03 X13 X23 Bl3 at5
                refine wpAny_ready (rs := [14]) (by kernel_rfl) (by simp) ?_
                refine AllReady.cons rfl (fun K hK => ?_) AllReady.nil
                rw [if_pos (by kernel_rfl)]
                refine append_any_wp (.tmp 55) (.tmp 58) 24 rfl Z 37 i0 _ 3 32 Try.underlying24 hi0 hz0 hz1 hz2 rfl (by omega) (by omega) g5 (j + 1) c5 _ rfl G4 g o13 (D.length - j) (c' - j) (valCells (D.drop j)) rfl (fun i u hu => drop_cell2 O4 hj hcap HO.out hu) (by rw [vc_len]; simp) (vc_one _) (Nat.le_trans hZ Bl4.size) (by omega) (by omega) ?_
                intro g6 c6 W5 H5 st gr at6
                refine hK _ _ ?_
                clear hK K
                rw [← vc_app, show j + 1 + (D.length - j) = D.length + 1 by omega] at H5
                rw [show j + 1 + (D.length - j) = D.length + 1 by omega]
                have O5 := own_below Z O4 st hgZ
                have Bl5 := Bl4.trans st
                have X05 := (st.cell (p := ⟨p, off + k * 3, none⟩) hpZ).trans X04
                have X15 := (st.cell (p := ⟨p, off + k * 3 + 1, none⟩) hpZ).trans X14
                have X25 := (st.cell (p := ⟨p, off + k * 3 + 2, none⟩) hpZ).trans X24
                clear st gr O4 X04 X14 X24 Bl4 at6
                refine wpAny_ready (rs := [15]) (by kernel_rfl) (by simp) ?_
                refine AllReady.cons rfl (fun K hK => ?_) AllReady.nil
                go_simp
                refine hK _ _ ?_
                clear hK K
                refine wpAny_done (by kernel_rfl) ?_ _
                have hbF := hbX.trans (Bl5.mono hzX)
                have hownF := own_lower H5 hzX
                have HCn := HC.out
                have hlF : (dictOf (l.take (k + 1))).length = D.length + 1 := by rw [HCn]; simp; omega
                rw [show D.take j ++ [x] ++ D.drop j = dictOf (l.take (k + 1)) by rw [HCn]; simp] at hownF
                rw [← hlF] at hownF ⊢
                clear Bl5 O5 X05 X15 X25 H5 HCn hlF
                go_wp2
                go_roundw
                case rel => exact ⟨k + 1, g6, c6, by omega, by go_num, rfl, hownF, hbF⟩
                case measure => simp [intOf]; omega
              · go_simp
                refine hK _ _ ?_
                clear hK K
                have st := (Below.refl W1.heap.size W1).alloc (Nat.le_refl _) (.cells #[.int .i64 x.ty, .int .i64 x.n, .string x.s] 37)
                have N2 := Box.new W1 x
                obtain ⟨b9, hb9⟩ : ∃ a, a = W1.heap.size := ⟨_, rfl⟩
                obtain ⟨W2, hW⟩ : ∃ W, W = W1.alloc (.cells #[.int .i64 x.ty, .int .i64 x.n, .string x.s] 37) := ⟨_, rfl⟩
                rw [← hW] at st N2 ⊢
                rw [← hb9] at N2 ⊢
                have ne : a0 ≠ b9 := by have := (E1.lt a0 rfl).2; omega
                have E2 := own_step E1 st
                have O2 := own_step O1 st
                have X02 := cell_keep st X01
                have X12 := cell_keep st X11
                have X22 := cell_keep st X21
                have Bl2 := Bl1.trans (st.mono (Nat.le_trans hZ Bl1.size))
                clear st hW O1 X01 X11 X21 Bl1 hb9
                refine wpAny_ready (rs := [4]) (by kernel_rfl) (by simp) ?_
                refine AllReady.cons rfl (fun K hK => ?_) AllReady.nil
                rw [if_pos (by kernel_rfl)]
                refine append_any_wp (.tmp 45) (.tmp 48) 24 rfl Z 37 i0 _ 3 32 Try.underlying24 hi0 hz0 hz1 hz2 rfl (by omega) (by omega) a0 0 0 _ rfl E2 g 0 j c' (valCells (D.take j)) rfl (fun i u hu => by rw [Nat.zero_add]; exact take_cell O2 hu) (by rw [vc_len]; simp; omega) (vc_one _) (Nat.le_trans hZ Bl2.size) (by omega) (by omega) ?_
                intro g4 c4 W3 F3 st gr at4
                refine hK _ _ ?_
                clear hK K
                rw [Nat.zero_add] at F3 ⊢
                rw [List.nil_append] at F3
                have ne4 : g4 ≠ b9 := by have := N2.lt; omega
                have N3 := N2.grown gr (fun e => ne e.symm)
                have O3 := own_below Z O2 st hgZ
                have Bl3 := Bl2.trans st
                have X03 := (st.cell (p := ⟨p, off + k * 3, none⟩) hpZ).trans X02
                have X13 := (st.cell (p := ⟨p, off + k * 3 + 1, none⟩) hpZ).trans X12
                have X23 := (st.cell (p := ⟨p, off + k * 3 + 2, none⟩) hpZ).trans X22
                clear st gr O2 X02 X12 X22 Bl2 at4
                refine wpAny_ready (rs := [10]) (by kernel_rfl) (by simp) ?_
                refine AllReady.cons rfl (fun K hK => ?_) AllReady.nil
                rw [if_pos (by kernel_rfl)]
                refine append_any_wp (.tmp 49) (.tmp 54) 24 rfl Z 37 i0 _ 3 32 Try.underlying24 hi0 hz0 hz1 hz2 rfl (by omega) (by omega) g4 j c4 _ rfl F3 b9 0 1 1 [.int .i64 x.ty, .int .i64 x.n, .string x.s] rfl (fun i u hu => by rw [Nat.zero_add]; exact box_cell N3 hu) rfl (by simp [Value.oneCell']) (Nat.le_trans hZ Bl3.size) (by omega) (by omega) ?_
                intro g5 c5 W4 G4 st gr at5
                refine hK _ _ ?_
                clear hK K
                rw [valCells_app] at G4
                have O4 := own_below Z O3 st hgZ
                have Bl4 := Bl3.trans st
                have X04 := (st.cell (p := ⟨p, off + k * 3, none⟩) hpZ).trans X03
                have X14 := (st.cell (p := ⟨p, off + k * 3 + 1, none⟩) hpZ).trans X13
                have X24 := (st.cell (p := ⟨p, off + k * 3 + 2, none⟩) hpZ).trans X23
                clear st gr O3 X03 X13 X23 Bl3 at5
                refine wpAny_ready (rs := [14]) (by kernel_rfl) (by simp) ?_
                refine AllReady.cons rfl (fun K hK => ?_) AllReady.nil
                rw [if_pos (by kernel_rfl)]
                refine append_any_wp (.tmp 55) (.tmp 58) 24 rfl Z 37 i0 _ 3 32 Try.underlying24 hi0 hz0 hz1 hz2 rfl (by omega) (by omega) g5 (j + 1) c5 _ rfl G4 g o13 (D.length - j) (c' - j) (valCells (D.drop j)) rfl (fun i u hu => drop_cell2 O4 hj hcap HO.out hu) (by rw [vc_len]; simp) (vc_one _) (Nat.le_trans hZ Bl4.size) (by omega) (by omega) ?_
                intro g6 c6 W5 H5 st gr at6
                refine hK _ _ ?_
                clear hK K
                rw [← vc_app, show j + 1 + (D.length - j) = D.length + 1 by omega] at H5
                rw [show j + 1 + (D.length - j) = D.length + 1 by omega]
                have O5 := own_below Z O4 st hgZ
                have Bl5 := Bl4.trans st
                have X05 := (st.cell (p := ⟨p, off + k * 3, none⟩) hpZ).trans X04
                have X15 := (st.cell (p := ⟨p, off + k * 3 + 1, none⟩) hpZ).trans X14
                have X25 := (st.cell (p := ⟨p, off + k * 3 + 2, none⟩) hpZ).trans X24
                clear st gr O4 X04 X14 X24 Bl4 at6
                refine wpAny_ready (rs := [15]) (by kernel_rfl) (by simp) ?_
                refine AllReady.cons rfl (fun K hK => ?_) AllReady.nil
                go_simp
                refine hK _ _ ?_
                clear hK K
                refine wpAny_done (by kernel_rfl) ?_ _
                have hbF := hbX.trans (Bl5.mono hzX)
                have hownF := own_lower H5 hzX
                have HCn := HC.out
                have hlF : (dictOf (l.take (k + 1))).length = D.length + 1 := by rw [HCn]; simp; omega
                rw [show D.take j ++ [x] ++ D.drop j = dictOf (l.take (k + 1)) by rw [HCn]; simp] at hownF
                rw [← hlF] at hownF ⊢
                clear Bl5 O5 X05 X15 X25 H5 HCn hlF
                go_wp2
                go_roundw
                case rel => exact ⟨k + 1, g6, c6, by omega, by go_num, rfl, hownF, hbF⟩
                case measure => simp [intOf]; omega
          · go_simp
            refine hK _ _ ?_
            clear hK K
            refine wpAny_ready (rs := [0, 9]) (by kernel_rfl) (by simp) ?_
            refine AllReady.cons rfl (fun K hK => ?_) (AllReady.cons rfl (fun K hK => ?_) AllReady.nil)
            · go_simp
              refine hK _ _ ?_
              clear hK K
              have st := (Below.refl W0.heap.size W0).alloc (Nat.le_refl _) (.cells #[] 37)
              have E1 := own_empty (w := W0) (base := Z) (e := 37) (size := 3) (Nat.le_trans hZ Bl0.size)
              obtain ⟨a0, ha0⟩ : ∃ a, a = W0.heap.size := ⟨_, rfl⟩
              obtain ⟨W1, hW⟩ : ∃ W, W = W0.alloc (.cells #[] 37) := ⟨_, rfl⟩
              rw [← hW] at st E1 ⊢
              rw [← ha0] at E1 ⊢
              have O1 := own_step O0 st
              have X01 := cell_keep st X00
              have X11 := cell_keep st X10
              have X21 := cell_keep st X20
              have Bl1 := Bl0.trans (st.mono (Nat.le_trans hZ Bl0.size))
              clear st hW O0 X00 X10 X20 Bl0 ha0
              refine wpAny_ready (rs := [4, 9]) (by kernel_rfl) (by simp) ?_
              refine AllReady.cons rfl (fun K hK => ?_) (AllReady.cons rfl (fun K hK => ?_) AllReady.nil)
              · rw [if_pos (by kernel_rfl)]
                refine append_any_wp (.tmp 45) (.tmp 48) 24 rfl Z 37 i0 _ 3 32 Try.underlying24 hi0 hz0 hz1 hz2 rfl (by omega) (by omega) a0 0 0 _ rfl E1 g 0 j c' (valCells (D.take j)) rfl (fun i u hu => by rw [Nat.zero_add]; exact take_cell O1 hu) (by rw [vc_len]; simp; omega) (vc_one _) (Nat.le_trans hZ Bl1.size) (by omega) (by omega) ?_
                intro g4 c4 W2 F2 st gr at4
                refine hK _ _ ?_
                clear hK K
                rw [Nat.zero_add] at F2 ⊢
                rw [List.nil_append] at F2
                have O2 := own_below Z O1 st hgZ
                have Bl2 := Bl1.trans st
                have X02 := (st.cell (p := ⟨p, off + k * 3, none⟩) hpZ).trans X01
                have X12 := (st.cell (p := ⟨p, off + k * 3 + 1, none⟩) hpZ).trans X11
                have X22 := (st.cell (p := ⟨p, off + k * 3 + 2, none⟩) hpZ).trans X21
                clear st gr O1 X01 X11 X21 Bl1 at4
                refine wpAny_ready (rs := [9]) (by kernel_rfl) (by simp) ?_
                refine AllReady.cons rfl (fun K hK => ?_) AllReady.nil
                go_simp
                refine hK _ _ ?_
                clear hK K
                have st := (Below.refl W2.heap.size W2).alloc (Nat.le_refl _) (.cells #[.int .i64 x.ty, .int .i64 x.n, .string x.s] 37)
                have N3 := Box.new W2 x
                obtain ⟨b9, hb9⟩ : ∃ a, a = W2.heap.size := ⟨_, rfl⟩
                obtain ⟨W3, hW⟩ : ∃ W, W = W2.alloc (.cells #[.int .i64 x.ty, .int .i64 x.n, .string x.s] 37) := ⟨_, rfl⟩
                rw [← hW] at st N3 ⊢
                rw [← hb9] at N3 ⊢
                have ne : g4 ≠ b9 := by have := (F2.lt g4 rfl).2; omega
                have F3 := own_step F2 st
                have O3 := own_step O2 st
                have X03 := cell_keep st X02
                have X13 := cell_keep st X12
                have X23 := cell_keep st X22
                have Bl3 := Bl2.trans (st.mono (Nat.le_trans hZ Bl2.size))
                clear st hW O2 X02 X12 X22 Bl2 hb9
                refine wpAny_ready (rs := [10]) (by kernel_rfl) (by simp) ?_
                refine AllReady.cons rfl (fun K hK => ?_) AllReady.nil
                rw [if_pos (by kernel_rfl)]
                refine append_any_wp (.tmp 49) (.tmp 54) 24 rfl Z 37 i0 _ 3 32 Try.underlying24 hi0 hz0 hz1 hz2 rfl (by omega) (by omega) g4 j c4 _ rfl F3 b9 0 1 1 [.int .i64 x.ty, .int .i64 x.n, .string x.s] rfl (fun i u hu => by rw [Nat.zero_add]; exact box_cell N3 hu) rfl (by simp [Value.oneCell']) (Nat.le_trans hZ Bl3.size) (by omega) (by omega) ?_
                intro g5 c5 W4 G4 st gr at5
                refine hK _ _ ?_
                clear hK K
                rw [valCells_app] at G4
                have O4 := own_below Z O3 st hgZ
                have Bl4 := Bl3.trans st
                have X04 := (st.cell (p := ⟨p, off + k * 3, none⟩) hpZ).trans X03
                have X14 := (st.cell (p := ⟨p, off + k * 3 + 1, none⟩) hpZ).trans X13
                have X24 := (st.cell (p := ⟨p, off + k * 3 + 2, none⟩) hpZ).trans X23
                clear st gr O3 X03 X13 X23 Bl3 at5
                refine wpAny_ready (rs := [14]) (by kernel_rfl) (by simp) ?_
                refine AllReady.cons rfl (fun K hK => ?_) AllReady.nil
                rw [if_pos (by kernel_rfl)]
                refine append_any_wp (.tmp 55) (.tmp 58) 24 rfl Z 37 i0 _ 3 32 Try.underlying24 hi0 hz0 hz1 hz2 rfl (by omega) (by omega) g5 (j + 1) c5 _ rfl G4 g o13 (D.length - j) (c' - j) (valCells (D.drop j)) rfl (fun i u hu => drop_cell2 O4 hj hcap HO.out hu) (by rw [vc_len]; simp) (vc_one _) (Nat.le_trans hZ Bl4.size) (by omega) (by omega) ?_
                intro g6 c6 W5 H5 st gr at6
                refine hK _ _ ?_
                clear hK K
                rw [← vc_app, show j + 1 + (D.length - j) = D.length + 1 by omega] at H5
                rw [show j + 1 + (D.length - j) = D.length + 1 by omega]
                have O5 := own_below Z O4 st hgZ
                have Bl5 := Bl4.trans st
                have X05 := (st.cell (p := ⟨p, off + k * 3, none⟩) hpZ).trans X04
                have X15 := (st.cell (p := ⟨p, off + k * 3 + 1, none⟩) hpZ).trans X14
                have X25 := (st.cell (p := ⟨p, off + k * 3 + 2, none⟩) hpZ).trans X24
                clear st gr O4 X04 X14 X24 Bl4 at6
                refine wpAny_ready (rs := [15]) (by kernel_rfl) (by simp) ?_
                refine AllReady.cons rfl (fun K hK => ?_) AllReady.nil
                go_simp
                refine hK _ _ ?_
                clear hK K
                refine wpAny_done (by kernel_rfl) ?_ _
                have hbF := hbX.trans (Bl5.mono hzX)
                have hownF := own_lower H5 hzX
                have HCn := HC.out
                have hlF : (dictOf (l.take (k + 1))).length = D.length + 1 := by rw [HCn]; simp; omega
                rw [show D.take j ++ [x] ++ D.drop j = dictOf (l.take (k + 1)) by rw [HCn]; simp] at hownF
                rw [← hlF] at hownF ⊢
                clear Bl5 O5 X05 X15 X25 H5 HCn hlF
                go_wp2
                go_roundw
                case rel => exact ⟨k + 1, g6, c6, by omega, by go_num, rfl, hownF, hbF⟩
                case measure => simp [intOf]; omega
              · go_simp
                refine hK _ _ ?_
                clear hK K
                have st := (Below.refl W1.heap.size W1).alloc (Nat.le_refl _) (.cells #[.int .i64 x.ty, .int .i64 x.n, .string x.s] 37)
                have N2 := Box.new W1 x
                obtain ⟨b9, hb9⟩ : ∃ a, a = W1.heap.size := ⟨_, rfl⟩
                obtain ⟨W2, hW⟩ : ∃ W, W = W1.alloc (.cells #[.int .i64 x.ty, .int .i64 x.n, .string x.s] 37) := ⟨_, rfl⟩
                rw [← hW] at st N2 ⊢
                rw [← hb9] at N2 ⊢
                have ne : a0 ≠ b9 := by have := (E1.lt a0 rfl).2; omega
                have E2 := own_step E1 st
                have O2 := own_step O1 st
                have X02 := cell_keep st X01
                have X12 := cell_keep st X11
                have X22 := cell_keep st X21
                have Bl2 := Bl1.trans (st.mono (Nat.le_trans hZ Bl1.size))
                clear st hW O1 X01 X11 X21 Bl1 hb9
                refine wpAny_ready (rs := [4]) (by kernel_rfl) (by simp) ?_
                refine AllReady.cons rfl (fun K hK => ?_) AllReady.nil
                rw [if_pos (by kernel_rfl)]
                refine append_any_wp (.tmp 45) (.tmp 48) 24 rfl Z 37 i0 _ 3 32 Try.underlying24 hi0 hz0 hz1 hz2 rfl (by omega) (by omega) a0 0 0 _ rfl E2 g 0 j c' (valCells (D.take j)) rfl (fun i u hu => by rw [Nat.zero_add]; exact take_cell O2 hu) (by rw [vc_len]; simp; omega) (vc_one _) (Nat.le_trans hZ Bl2.size) (by omega) (by omega) ?_
                intro g4 c4 W3 F3 st gr at4
                refine hK _ _ ?_
                clear hK K
                rw [Nat.zero_add] at F3 ⊢
                rw [List.nil_append] at F3
                have ne4 : g4 ≠ b9 := by have := N2.lt; omega
                have N3 := N2.grown gr (fun e => ne e.symm)
                have O3 := own_below Z O2 st hgZ
                have Bl3 := Bl2.trans st
                have X03 := (st.cell (p := ⟨p, off + k * 3, none⟩) hpZ).trans X02
                have X13 := (st.cell (p := ⟨p, off + k * 3 + 1, none⟩) hpZ).trans X12
                have X23 := (st.cell (p := ⟨p, off + k * 3 + 2, none⟩) hpZ).trans X22
                clear st gr O2 X02 X12 X22 Bl2 at4
                refine wpAny_ready (rs := [10]) (by kernel_rfl) (by simp) ?_
                refine AllReady.cons rfl (fun K hK => ?_) AllReady.nil
                rw [if_pos (by kernel_rfl)]
                refine append_any_wp (.tmp 49) (.tmp 54) 24 rfl Z 37 i0 _ 3 32 Try.underlying24 hi0 hz0 hz1 hz2 rfl (by omega) (by omega) g4 j c4 _ rfl F3 b9 0 1 1 [.int .i64 x.ty, .int .i64 x.n, .string x.s] rfl (fun i u hu => by rw [Nat.zero_add]; exact box_cell N3 hu) rfl (by simp [Value.oneCell']) (Nat.le_trans hZ Bl3.size) (by omega) (by omega) ?_
                intro g5 c5 W4 G4 st gr at5
                refine hK _ _ ?_
                clear hK K
                rw [valCells_app] at G4
                have O4 := own_below Z O3 st hgZ
                have Bl4 := Bl3.trans st
                have X04 := (st.cell (p := ⟨p, off + k * 3, none⟩) hpZ).trans X03
                have X14 := (st.cell (p := ⟨p, off + k * 3 + 1, none⟩) hpZ).trans X13
                have X24 := (st.cell (p := ⟨p, off + k * 3 + 2, none⟩) hpZ).trans X23
                clear st gr O3 X03 X13 X23 Bl3 at5
                refine wpAny_ready (rs := [14]) (by kernel_rfl) (by simp) ?_
                refine AllReady.cons rfl (fun K hK => ?_) AllReady.nil
                rw [if_pos (by kernel_rfl)]
                refine append_any_wp (.tmp 55) (.tmp 58) 24 rfl Z 37 i0 _ 3 32 Try.underlying24 hi0 hz0 hz1 hz2 rfl (by omega) (by omega) g5 (j + 1) c5 _ rfl G4 g o13 (D.length - j) (c' - j) (valCells (D.drop j)) rfl (fun i u hu => drop_cell2 O4 hj hcap HO.out hu) (by rw [vc_len]; simp) (vc_one _) (Nat.le_trans hZ Bl4.size) (by omega) (by omega) ?_
                intro g6 c6 W5 H5 st gr at6
                refine hK _ _ ?_
                clear hK K
                rw [← vc_app, show j + 1 + (D.length - j) = D.length + 1 by omega] at H5
                rw [show j + 1 + (D.length - j) = D.length + 1 by omega]
                have O5 := own_below Z O4 st hgZ
                have Bl5 := Bl4.trans st
                have X05 := (st.cell (p := ⟨p, off + k * 3, none⟩) hpZ).trans X04
                have X15 := (st.cell (p := ⟨p, off + k * 3 + 1, none⟩) hpZ).trans X14
                have X25 := (st.cell (p := ⟨p, off + k * 3 + 2, none⟩) hpZ).trans X24
                clear st gr O4 X04 X14 X24 Bl4 at6
                refine wpAny_ready (rs := [15]) (by kernel_rfl) (by simp) ?_
                refine AllReady.cons rfl (fun K hK => ?_) AllReady.nil
                go_simp
                refine hK _ _ ?_
                clear hK K
                refine wpAny_done (by kernel_rfl) ?_ _
                have hbF := hbX.trans (Bl5.mono hzX)
                have hownF := own_lower H5 hzX
                have HCn := HC.out
                have hlF : (dictOf (l.take (k + 1))).length = D.length + 1 := by rw [HCn]; simp; omega
                rw [show D.take j ++ [x] ++ D.drop j = dictOf (l.take (k + 1)) by rw [HCn]; simp] at hownF
                rw [← hlF] at hownF ⊢
                clear Bl5 O5 X05 X15 X25 H5 HCn hlF
                go_wp2
                go_roundw
                case rel => exact ⟨k + 1, g6, c6, by omega, by go_num, rfl, hownF, hbF⟩
                case measure => simp [intOf]; omega
            · go_simp
              refine hK _ _ ?_
              clear hK K
              have st := (Below.refl W0.heap.size W0).alloc (Nat.le_refl _) (.cells #[.int .i64 x.ty, .int .i64 x.n, .string x.s] 37)
              have N1 := Box.new W0 x
              obtain ⟨b9, hb9⟩ : ∃ a, a = W0.heap.size := ⟨_, rfl⟩
              obtain ⟨W1, hW⟩ : ∃ W, W = W0.alloc (.cells #[.int .i64 x.ty, .int .i64 x.n, .string x.s] 37) := ⟨_, rfl⟩
              rw [← hW] at st N1 ⊢
              rw [← hb9] at N1 ⊢
              have O1 := own_step O0 st
              have X01 := cell_keep st X00
              have X11 := cell_keep st X10
              have X21 := cell_keep st X20
              have Bl1 := Bl0.trans (st.mono (Nat.le_trans hZ Bl0.size))
              clear st hW O0 X00 X10 X20 Bl0 hb9
              refine wpAny_ready (rs := [0]) (by kernel_rfl) (by simp) ?_
              refine AllReady.cons rfl (fun K hK => ?_) AllReady.nil
              go_simp
              refine hK _ _ ?_
              clear hK K
              have st := (Below.refl W1.heap.size W1).alloc (Nat.le_refl _) (.cells #[] 37)
              have E2 := own_empty (w := W1) (base := Z) (e := 37) (size := 3) (Nat.le_trans hZ Bl1.size)
              obtain ⟨a0, ha0⟩ : ∃ a, a = W1.heap.size := ⟨_, rfl⟩
              obtain ⟨W2, hW⟩ : ∃ W, W = W1.alloc (.cells #[] 37) := ⟨_, rfl⟩
              rw [← hW] at st E2 ⊢
              rw [← ha0] at E2 ⊢
              have ne : a0 ≠ b9 := by have := N1.lt; omega
              have N2 := N1.below st
              have O2 := own_step O1 st
              have X02 := cell_keep st X01
              have X12 := cell_keep st X11
              have X22 := cell_keep st X21
              have Bl2 := Bl1.trans (st.mono (Nat.le_trans hZ Bl1.size))
              clear st hW O1 X01 X11 X21 Bl1 ha0
              refine wpAny_ready (rs := [4]) (by kernel_rfl) (by simp) ?_
              refine AllReady.cons rfl (fun K hK => ?_) AllReady.nil
              rw [if_pos (by kernel_rfl)]
              refine append_any_wp (.tmp 45) (.tmp 48) 24 rfl Z 37 i0 _ 3 32 Try.underlying24 hi0 hz0 hz1 hz2 rfl (by omega) (by omega) a0 0 0 _ rfl E2 g 0 j c' (valCells (D.take j)) rfl (fun i u hu => by rw [Nat.zero_add]; exact take_cell O2 hu) (by rw [vc_len]; simp; omega) (vc_one _) (Nat.le_trans hZ Bl2.size) (by omega) (by omega) ?_
              intro g4 c4 W3 F3 st gr at4
              refine hK _ _ ?_
              clear hK K
              rw [Nat.zero_add] at F3 ⊢
              rw [List.nil_append] at F3
              have ne4 : g4 ≠ b9 := by have := N2.lt; omega
              have N3 := N2.grown gr (fun e => ne e.symm)
              have O3 := own_below Z O2 st hgZ
              have Bl3 := Bl2.trans st
              have X03 := (st.cell (p := ⟨p, off + k * 3, none⟩) hpZ).trans X02
              have X13 := (st.cell (p := ⟨p, off + k * 3 + 1, none⟩) hpZ).trans X12
              have X23 := (st.cell (p := ⟨p, off + k * 3 + 2, none⟩) hpZ).trans X22
              clear st gr O2 X02 X12 X22 Bl2 at4
              refine wpAny_ready (rs := [10]) (by kernel_rfl) (by simp) ?_
              refine AllReady.cons rfl (fun K hK => ?_) AllReady.nil
              rw [if_pos (by kernel_rfl)]
              refine append_any_wp (.tmp 49) (.tmp 54) 24 rfl Z 37 i0 _ 3 32 Try.underlying24 hi0 hz0 hz1 hz2 rfl (by omega) (by omega) g4 j c4 _ rfl F3 b9 0 1 1 [.int .i64 x.ty, .int .i64 x.n, .string x.s] rfl (fun i u hu => by rw [Nat.zero_add]; exact box_cell N3 hu) rfl (by simp [Value.oneCell']) (Nat.le_trans hZ Bl3.size) (by omega) (by omega) ?_
              intro g5 c5 W4 G4 st gr at5
              refine hK _ _ ?_
              clear hK K
              rw [valCells_app] at G4
              have O4 := own_below Z O3 st hgZ
              have Bl4 := Bl3.trans st
              have X04 := (st.cell (p := ⟨p, off + k * 3, none⟩) hpZ).trans X03
              have X14 := (st.cell (p := ⟨p, off + k * 3 + 1, none⟩) hpZ).trans X13
              have X24 := (st.cell (p := ⟨p, off + k * 3 + 2, none⟩) hpZ).trans X23
              clear st gr O3 X03 X13 X23 Bl3 at5
              refine wpAny_ready (rs := [14]) (by kernel_rfl) (by simp) ?_
              refine AllReady.cons rfl (fun K hK => ?_) AllReady.nil
              rw [if_pos (by kernel_rfl)]
              refine append_any_wp (.tmp 55) (.tmp 58) 24 rfl Z 37 i0 _ 3 32 Try.underlying24 hi0 hz0 hz1 hz2 rfl (by omega) (by omega) g5 (j + 1) c5 _ rfl G4 g o13 (D.length - j) (c' - j) (valCells (D.drop j)) rfl (fun i u hu => drop_cell2 O4 hj hcap HO.out hu) (by rw [vc_len]; simp) (vc_one _) (Nat.le_trans hZ Bl4.size) (by omega) (by omega) ?_
              intro g6 c6 W5 H5 st gr at6
              refine hK _ _ ?_
              clear hK K
              rw [← vc_app, show j + 1 + (D.length - j) = D.length + 1 by omega] at H5
              rw [show j + 1 + (D.length - j) = D.length + 1 by omega]
              have O5 := own_below Z O4 st hgZ
              have Bl5 := Bl4.trans st
              have X05 := (st.cell (p := ⟨p, off + k * 3, none⟩) hpZ).trans X04
              have X15 := (st.cell (p := ⟨p, off + k * 3 + 1, none⟩) hpZ).trans X14
              have X25 := (st.cell (p := ⟨p, off + k * 3 + 2, none⟩) hpZ).trans X24
              clear st gr O4 X04 X14 X24 Bl4 at6
              refine wpAny_ready (rs := [15]) (by kernel_rfl) (by simp) ?_
              refine AllReady.cons rfl (fun K hK => ?_) AllReady.nil
              go_simp
              refine hK _ _ ?_
              clear hK K
              refine wpAny_done (by kernel_rfl) ?_ _
              have hbF := hbX.trans (Bl5.mono hzX)
              have hownF := own_lower H5 hzX
              have HCn := HC.out
              have hlF : (dictOf (l.take (k + 1))).length = D.length + 1 := by rw [HCn]; simp; omega
              rw [show D.take j ++ [x] ++ D.drop j = dictOf (l.take (k + 1)) by rw [HCn]; simp] at hownF
              rw [← hlF] at hownF ⊢
              clear Bl5 O5 X05 X15 X25 H5 HCn hlF
              go_wp2
              go_roundw
              case rel => exact ⟨k + 1, g6, c6, by omega, by go_num, rfl, hownF, hbF⟩
              case measure => simp [intOf]; omega
    · have hkn : k = l.length := by omega
      subst hkn
      rw [List.take_of_length_le (Nat.le_refl _)] at hown ⊢
      go_wp2
      go_ret
      exact ⟨_, _, rfl, hown, hbl⟩

end Go.Proofs.Ytgpimlmolcjeoaa
