/-
  Contracts of Offsets and Reach, in the program and in the reference.
-/
import Derived.Test.YtckfogpjljbelaaType
import Derived.Test.YtckfogpjljbelaaDict1
import Derived.Deep.RegionHeld3
namespace Go.Proofs.Ytckfogpjljbelaa
open Go.RowKit
set_option linter.unusedVariables false
set_option maxRecDepth 100000

def offTo (b : Int) (vs : List V) : List Int := vs.map fun v => wrap64 (v.n - b)
def offs (vs : List V) : List Int := if typeOf vs = 1 then offTo (base vs) vs else []
theorem offTo_snoc {b : Int} {vs : List V} {k : Nat} {x : V} (h : vs[k]? = some x) : offTo b (vs.take (k + 1)) = offTo b (vs.take k) ++ [wrap64 (x.n - b)] := by
  unfold offTo
  rw [List.take_add_one, h]
  simp
theorem offTo_len {b : Int} {vs : List V} {k : Nat} (hk : k ≤ vs.length) : (offTo b (vs.take k)).length = k := by simp [offTo]; omega
theorem offs_no {vs : List V} (h : ¬ typeOf vs = 1) : offs vs = [] := by unfold offs; rw [if_neg h]
theorem offs_yes {vs : List V} (h : typeOf vs = 1) : offs vs = offTo (base vs) (vs.take vs.length) := by unfold offs; rw [if_pos h, List.take_of_length_le (Nat.le_refl _)]
theorem ints1 (xs : List Int) (x : Int) : intCells xs ++ [.int .i64 x] = intCells (xs ++ [x]) := by simp [intCells]
theorem append_one_wp {P : Program} {W : World} {o : Oper} {a : Act} {K : Act → World → Prop} {Q : Exit → Act → World → Prop} (s x : Operand) (t : TypeId)
    (ho : o.op = .call { callee := .builtin .append, args := #[s, x], argTypes := #[t, t] })
    (base : Nat) (e : TypeId) (i : TypeInfo) (z : Value) (size bytes : Nat) (ht : P.underlying t = some (.slice e)) (hi : P.info? e = some i) (hz : i.zero = some z)
    (hsize : i.size = size) (hby : i.bytes = bytes) (hzs : z.cells.size = size) (hsz : 0 < size) (hbb : bytes ≤ 64)
    (A : Option Addr) (n c : Nat) (xs : List Value) (hs : a.eval s = .slice A n c) (hown : W.ownsRow base e size (.slice A n c) n xs)
    (news : List Value) (B : Nat) (hx : a.eval x = .slice (some ⟨B, 0, none⟩) 1 1) (hBs : W.heap.size = B) (hnl : news.length = size) (h1 : ∀ u ∈ news, u.oneCell' = true) (hb : base ≤ W.heap.size) (hn : n ≤ 1099511627776)
    (h : ∀ A' c' w', w'.ownsRow base e size (.slice A' (n + 1) c') (n + 1) (xs ++ news) → Below base W w' → K (a.put o.dst (.slice A' (n + 1) c')) w') :
    o.wp P a (W.alloc (.cells news.toArray e)) K Q := by
  subst hBs
  refine wp_append_own (W.alloc (.cells news.toArray e)) s x t ho base e i z size bytes ht hi hz hsize hby hzs hsz (.slice A n c) n xs hs (hown.alloc _) ⟨W.heap.size, 0, none⟩ 1 1 news hx (by omega) ?_ h1 (by unfold maxLen; omega) ?_ (by simp; omega) ?_
  · intro j u hu
    have h2 := World.news_of_block (cs := news.toArray) (t := e) (fr := (0, 0)) (heap_alloc_new W (.cells news.toArray e)) j u (by simpa using hu)
    exact h2
  · have : (n + 1) * bytes ≤ 1099511627777 * 64 := Nat.mul_le_mul (by omega) hbb
    omega
  · intro v' w' hown' hgr _
    obtain ⟨g, cap, hv, hbg, hgl⟩ := hown'.form (by omega)
    subst hv
    refine h _ _ w' hown' ?_
    exact (Below.alloc (Below.refl base W) hb _).grown hgr (by simp; omega) (fun k hk => (hown.lt k hk).1)
set_option maxHeartbeats 1600000 in
theorem spec_Offsets (w : World) (A : Option Addr) (c : Nat) (vs : List V) (hr : Reads w w.heap.size 3 A vs.length (valCells vs)) (hl : vs.length ≤ 1099511627776) (hi : ∀ x ∈ vs, x.ok) :
    Calls Try.prog 85 #[.slice A vs.length c] w fun e w' => ∃ A' c', e = .returned (.slice A' (offs vs).length c') ∧ w'.ownsRow w.heap.size 3 1 (.slice A' (offs vs).length c') (offs vs).length (intCells (offs vs)) ∧ Below w.heap.size w w' := by
  obtain ⟨i0, hi0, hz0, hz1, hz2⟩ := info_parts info_Int
  go_enter Try.func85, Try.ntmps85
  go_wp2_with fail
  refine (spec_TypeOf _ _ _ _ ((hr.alloc (Nat.le_refl _) _).more (by simp)) hl hi).mono ?_
  rintro e w1 ⟨rfl, hb1⟩
  have hbl1 := (Below.alloc0 (Below.refl w.heap.size w) _).trans (hb1.mono (by simp))
  have hown1 : w1.ownsRow w.heap.size 3 1 (.slice (some ⟨w.heap.size, 0, none⟩) 0 0) 0 [] := own_step (own_empty (Nat.le_refl _)) hb1
  have hsz1 := hbl1.size
  clear hb1
  by_cases ht : typeOf vs = 1
  · have htb : (typeOf vs != 1) = false := by simp [ht]
    have ho := Lib.hid (offs_yes ht)
    clear ht
    go_wp2_with fail
    refine (spec_Base _ _ _ _ ((hr.below hbl1 (Nat.le_refl _)).more hsz1) hl hi).mono ?_
    rintro e w2 ⟨rfl, hb2⟩
    replace hbl1 := hbl1.trans (hb2.mono hsz1)
    replace hown1 := own_step hown1 hb2
    replace hsz1 := hbl1.size
    obtain ⟨b, hb⟩ : ∃ b, b = base vs := ⟨_, rfl⟩
    rw [← hb] at ho ⊢
    clear hb hb2 htb hi
    go_wp2_with fail
    go_loopw [3, 5] (fun o i wr => ∃ (k : Nat) (A' : Option Addr) (c' : Nat), k ≤ vs.length ∧ i = .int .i64 k ∧ o = .slice A' k c' ∧ wr.ownsRow w.heap.size 3 1 (.slice A' k c') k (intCells (offTo b (vs.take k))) ∧ Below w.heap.size w wr) (fun _ i _ => vs.length - (intOf i).toNat)
    case atStart => exact ⟨0, _, _, Nat.zero_le _, rfl, rfl, hown1, hbl1⟩
    case round =>
      clear hown1 hbl1 hsz1
      obtain ⟨k, A', c', hk, rfl, rfl, hown, hbl⟩ := hrel
      have hsz := hbl.size
      by_cases hlt : k < vs.length
      · obtain ⟨p, off, x, rfl, hb, hx, hc0, hc1, hc2⟩ := hr.v hlt
        have hd1 : wr.cell? ⟨p, off + k * 3 + 1, none⟩ = some (.int .i64 x.n) := (hbl.cell (p := ⟨p, off + k * 3 + 1, none⟩) hb).trans hc1
        have hs := Lib.hid (offTo_snoc (b := b) hx.out)
        clear hr hc0 hc1 hc2
        go_wp2_with (at_builtin; go_loud (refine append_one rfl (.tmp 19) (.tmp 27) 35 rfl w.heap.size 3 i0 _ 1 8 Try.underlying35 hi0 hz0 hz1 hz2 rfl (by omega) (by omega) A' k c' _ rfl hown [.int .i64 (wrap64 (x.n - b))] _ rfl (by first | rfl | simp) rfl (by simp [Value.oneCell']) hsz (by omega) ?_); intro A2 c2 w2 hown2 hb2)
        rw [ints1, ← hs.out] at hown2
        have hbl2 := hbl.trans hb2
        clear hown hb2 hbl hd1
        go_wp2
        go_roundw
        case rel => exact ⟨k + 1, A2, c2, by omega, by go_num, rfl, hown2, hbl2⟩
        case measure => simp [intOf]; omega
      · have hkn : k = vs.length := by omega
        subst hkn
        have hn := Lib.hid (offTo_len (b := b) (vs := vs) (Nat.le_refl _))
        go_wp2
        go_ret
        rw [ho.out, hn.out]
        exact ⟨_, _, rfl, hown, hbl⟩
  · have htb : (typeOf vs != 1) = true := by simp [ht]
    have ho := Lib.hid (offs_no ht)
    clear ht
    go_wp2_with fail
    go_ret
    rw [ho.out]
    exact ⟨_, _, rfl, hown1, hbl1⟩
set_option maxHeartbeats 1600000 in
theorem impl_Offsets (w : World) (A : Option Addr) (c : Nat) (vs : List V) (hr : Reads w w.heap.size 3 A vs.length (valCells vs)) (hl : vs.length ≤ 1099511627776) (hi : ∀ x ∈ vs, x.ok) :
    Calls Try.prog 87 #[.slice A vs.length c] w fun e w' => ∃ A' c', e = .returned (.slice A' (offs vs).length c') ∧ w'.ownsRow w.heap.size 3 1 (.slice A' (offs vs).length c') (offs vs).length (intCells (offs vs)) ∧ Below w.heap.size w w' := by
  obtain ⟨i0, hi0, hz0, hz1, hz2⟩ := info_parts info_Int
  go_enter Try.func87, Try.ntmps87
  go_wp2_with fail
  refine (impl_TypeOf _ _ _ _ ((hr.alloc (Nat.le_refl _) _).more (by simp)) hl hi).mono ?_
  rintro e w1 ⟨rfl, hb1⟩
  have hbl1 := (Below.alloc0 (Below.refl w.heap.size w) _).trans (hb1.mono (by simp))
  have hown1 : w1.ownsRow w.heap.size 3 1 (.slice (some ⟨w.heap.size, 0, none⟩) 0 0) 0 [] := own_step (own_empty (Nat.le_refl _)) hb1
  have hsz1 := hbl1.size
  clear hb1
  by_cases ht : typeOf vs = 1
  · have htb : (typeOf vs != 1) = false := by simp [ht]
    have ho := Lib.hid (offs_yes ht)
    clear ht
    obtain ⟨b, hb⟩ : ∃ b, b = base vs := ⟨_, rfl⟩
    rw [← hb] at ho
    go_wp2_with fail
    go_loopw [3, 13] (fun o i wr => ∃ (k : Nat) (A' : Option Addr) (c' : Nat), k ≤ vs.length ∧ i = .int .i64 k ∧ o = .slice A' k c' ∧ wr.ownsRow w.heap.size 3 1 (.slice A' k c') k (intCells (offTo b (vs.take k))) ∧ Below w.heap.size w wr) (fun _ i _ => vs.length - (intOf i).toNat)
    case atStart => exact ⟨0, _, _, Nat.zero_le _, rfl, rfl, hown1, hbl1⟩
    case round =>
      clear hown1 hbl1 hsz1
      obtain ⟨k, A', c', hk, rfl, rfl, hown, hbl⟩ := hrel
      have hsz := hbl.size
      by_cases hlt : k < vs.length
      · obtain ⟨p, off, x, rfl, hb', hx, hc0, hc1, hc2⟩ := hr.v hlt
        have hd0 : wr.cell? ⟨p, off + k * 3, none⟩ = some (.int .i64 x.ty) := (hbl.cell (p := ⟨p, off + k * 3, none⟩) hb').trans hc0
        have hd1 : wr.cell? ⟨p, off + k * 3 + 1, none⟩ = some (.int .i64 x.n) := (hbl.cell (p := ⟨p, off + k * 3 + 1, none⟩) hb').trans hc1
        have hd2 : wr.cell? ⟨p, off + k * 3 + 2, none⟩ = some (.string x.s) := (hbl.cell (p := ⟨p, off + k * 3 + 2, none⟩) hb').trans hc2
        have hs := Lib.hid (offTo_snoc (b := b) hx.out)
        clear hc0 hc1 hc2
        obtain ⟨W, hW⟩ : ∃ W, W = wr.alloc (.cells #[.int .i64 x.ty, .int .i64 x.n, .string x.s] 28) := ⟨_, rfl⟩
        have f1 : W.cell? ⟨wr.heap.size, 1, none⟩ = some (.int .i64 x.n) := by rw [hW]; simp [go_sem]
        have hbW : Below w.heap.size w W := by rw [hW]; exact hbl.alloc hbl.size _
        have hownW : W.ownsRow w.heap.size 3 1 (.slice A' k c') k (intCells (offTo b (vs.take k))) := by rw [hW]; exact hown.alloc _
        have HW := Lib.hid hW
        clear hW
        go_wp2_with fail
        rw [← HW.out]
        clear hd0 hd1 hd2 hown hbl HW
        refine wp_region_any (by kernel_rfl) ?_
        change wpAny _ _ _ _ _ _ _ (World.drew _)
        have hbD := hbW.drew
        have g1 : W.drew.cell? ⟨wr.heap.size, 1, none⟩ = some (.int .i64 x.n) := f1
        have hownD : W.drew.ownsRow w.heap.size 3 1 (.slice A' k c') k (intCells (offTo b (vs.take k))) := hownW
        clear f1 hbW hownW
        generalize W.drew = W2 at g1 hbD hownD ⊢
        refine wpAny_take (i := 0) (v := .slice A' k c') rfl (by kernel_rfl) (by kernel_rfl) (by kernel_rfl) (fun _ _ _ h => h) (Or.inl ⟨by kernel_rfl, fun _ => by kernel_rfl⟩) ?_
        refine wpAny_take (i := 3) (v := .slice (some ⟨p, off, none⟩) vs.length c) rfl (by kernel_rfl) (by kernel_rfl) (by kernel_rfl) (fun _ _ _ h => h) (Or.inl ⟨by kernel_rfl, fun _ => by kernel_rfl⟩) ?_
        refine wpAny_ready (rs := [1, 4]) (by kernel_rfl) (by simp) ?_
        refine AllReady.cons rfl (fun K hK => ?_) (AllReady.cons rfl (fun K hK => ?_) AllReady.nil)
        · go_simp
          refine hK _ _ ?_
          clear hK K
          refine wpAny_ready (rs := [2, 4]) (by kernel_rfl) (by simp) ?_
          refine AllReady.cons rfl (fun K hK => ?_) (AllReady.cons rfl (fun K hK => ?_) AllReady.nil)
          · go_simp
            refine hK _ _ ?_
            clear hK K
            refine wpAny_ready (rs := [4]) (by kernel_rfl) (by simp) ?_
            refine AllReady.cons rfl (fun K hK => ?_) AllReady.nil
            go_simp
            refine (impl_Base _ _ _ _ ((hr.below hbD (Nat.le_refl _)).more hbD.size) hl hi).mono ?_
            rintro e w9 ⟨rfl, hb9⟩
            replace g1 := cell_keep hb9 g1
            replace hownD := own_step hownD hb9
            replace hbD := hbD.trans (hb9.mono hbD.size)
            clear hb9
            rw [← hb]
            try go_simp
            refine hK _ _ ?_
            clear hK K
            refine wpAny_ready (rs := [5]) (by kernel_rfl) (by simp) ?_
            refine AllReady.cons rfl (fun K hK => ?_) AllReady.nil
            go_simp
            refine hK _ _ ?_
            clear hK K
            refine wpAny_ready (rs := [6]) (by kernel_rfl) (by simp) ?_
            refine AllReady.cons rfl (fun K hK => ?_) AllReady.nil
            go_simp
            refine hK _ _ ?_
            clear hK K
            refine wpAny_ready (rs := [7]) (by kernel_rfl) (by simp) ?_
            refine AllReady.cons rfl (fun K hK => ?_) AllReady.nil
            show if _ then _ else _
            rw [if_pos (by kernel_rfl)]
            refine append_one_wp (.tmp 17) (.tmp 23) 35 (by rfl) w.heap.size 3 i0 _ 1 8 Try.underlying35 hi0 hz0 hz1 hz2 rfl (by omega) (by omega) A' k c' _ (by rfl) hownD [.int .i64 (IntKind.i64.wrap (x.n - base vs))] _ (by rfl) (by first | rfl | simp) rfl (by simp [Value.oneCell']) hbD.size (by omega) ?_
            intro A2 c2 w2 hown2 hb2
            refine hK _ _ ?_
            clear hK K
            replace hbD := hbD.trans hb2
            refine wpAny_ready (rs := [8]) (by kernel_rfl) (by simp) ?_
            refine AllReady.cons rfl (fun K hK => ?_) AllReady.nil
            go_simp
            refine hK _ _ ?_
            clear hK K
            refine wpAny_done (by kernel_rfl) ?_ _
            rw [show IntKind.i64.wrap (x.n - base vs) = wrap64 (x.n - b) by rw [hb]; (rw [IntKind.wrap_i64]; unfold wrap64; rfl), ints1, ← hs.out] at hown2
            clear hownD hb2 g1
            go_wp2
            go_roundw
            case rel => exact ⟨k + 1, A2, c2, by omega, by go_num, rfl, hown2, hbD⟩
            case measure => simp [intOf]; omega
          · go_simp
            refine (impl_Base _ _ _ _ ((hr.below hbD (Nat.le_refl _)).more hbD.size) hl hi).mono ?_
            rintro e w9 ⟨rfl, hb9⟩
            replace g1 := cell_keep hb9 g1
            replace hownD := own_step hownD hb9
            replace hbD := hbD.trans (hb9.mono hbD.size)
            clear hb9
            rw [← hb]
            try go_simp
            refine hK _ _ ?_
            clear hK K
            refine wpAny_ready (rs := [2]) (by kernel_rfl) (by simp) ?_
            refine AllReady.cons rfl (fun K hK => ?_) AllReady.nil
            go_simp
            refine hK _ _ ?_
            clear hK K
            refine wpAny_ready (rs := [5]) (by kernel_rfl) (by simp) ?_
            refine AllReady.cons rfl (fun K hK => ?_) AllReady.nil
            go_simp
            refine hK _ _ ?_
            clear hK K
            refine wpAny_ready (rs := [6]) (by kernel_rfl) (by simp) ?_
            refine AllReady.cons rfl (fun K hK => ?_) AllReady.nil
            go_simp
            refine hK _ _ ?_
            clear hK K
            refine wpAny_ready (rs := [7]) (by kernel_rfl) (by simp) ?_
            refine AllReady.cons rfl (fun K hK => ?_) AllReady.nil
            show if _ then _ else _
            rw [if_pos (by kernel_rfl)]
            refine append_one_wp (.tmp 17) (.tmp 23) 35 (by rfl) w.heap.size 3 i0 _ 1 8 Try.underlying35 hi0 hz0 hz1 hz2 rfl (by omega) (by omega) A' k c' _ (by rfl) hownD [.int .i64 (IntKind.i64.wrap (x.n - base vs))] _ (by rfl) (by first | rfl | simp) rfl (by simp [Value.oneCell']) hbD.size (by omega) ?_
            intro A2 c2 w2 hown2 hb2
            refine hK _ _ ?_
            clear hK K
            replace hbD := hbD.trans hb2
            refine wpAny_ready (rs := [8]) (by kernel_rfl) (by simp) ?_
            refine AllReady.cons rfl (fun K hK => ?_) AllReady.nil
            go_simp
            refine hK _ _ ?_
            clear hK K
            refine wpAny_done (by kernel_rfl) ?_ _
            rw [show IntKind.i64.wrap (x.n - base vs) = wrap64 (x.n - b) by rw [hb]; (rw [IntKind.wrap_i64]; unfold wrap64; rfl), ints1, ← hs.out] at hown2
            clear hownD hb2 g1
            go_wp2
            go_roundw
            case rel => exact ⟨k + 1, A2, c2, by omega, by go_num, rfl, hown2, hbD⟩
            case measure => simp [intOf]; omega
        · go_simp
          refine (impl_Base _ _ _ _ ((hr.below hbD (Nat.le_refl _)).more hbD.size) hl hi).mono ?_
          rintro e w9 ⟨rfl, hb9⟩
          replace g1 := cell_keep hb9 g1
          replace hownD := own_step hownD hb9
          replace hbD := hbD.trans (hb9.mono hbD.size)
          clear hb9
          rw [← hb]
          try go_simp
          refine hK _ _ ?_
          clear hK K
          refine wpAny_ready (rs := [1]) (by kernel_rfl) (by simp) ?_
          refine AllReady.cons rfl (fun K hK => ?_) AllReady.nil
          go_simp
          refine hK _ _ ?_
          clear hK K
          refine wpAny_ready (rs := [2]) (by kernel_rfl) (by simp) ?_
          refine AllReady.cons rfl (fun K hK => ?_) AllReady.nil
          go_simp
          refine hK _ _ ?_
          clear hK K
          refine wpAny_ready (rs := [5]) (by kernel_rfl) (by simp) ?_
          refine AllReady.cons rfl (fun K hK => ?_) AllReady.nil
          go_simp
          refine hK _ _ ?_
          clear hK K
          refine wpAny_ready (rs := [6]) (by kernel_rfl) (by simp) ?_
          refine AllReady.cons rfl (fun K hK => ?_) AllReady.nil
          go_simp
          refine hK _ _ ?_
          clear hK K
          refine wpAny_ready (rs := [7]) (by kernel_rfl) (by simp) ?_
          refine AllReady.cons rfl (fun K hK => ?_) AllReady.nil
          show if _ then _ else _
          rw [if_pos (by kernel_rfl)]
          refine append_one_wp (.tmp 17) (.tmp 23) 35 (by rfl) w.heap.size 3 i0 _ 1 8 Try.underlying35 hi0 hz0 hz1 hz2 rfl (by omega) (by omega) A' k c' _ (by rfl) hownD [.int .i64 (IntKind.i64.wrap (x.n - base vs))] _ (by rfl) (by first | rfl | simp) rfl (by simp [Value.oneCell']) hbD.size (by omega) ?_
          intro A2 c2 w2 hown2 hb2
          refine hK _ _ ?_
          clear hK K
          replace hbD := hbD.trans hb2
          refine wpAny_ready (rs := [8]) (by kernel_rfl) (by simp) ?_
          refine AllReady.cons rfl (fun K hK => ?_) AllReady.nil
          go_simp
          refine hK _ _ ?_
          clear hK K
          refine wpAny_done (by kernel_rfl) ?_ _
          rw [show IntKind.i64.wrap (x.n - base vs) = wrap64 (x.n - b) by rw [hb]; (rw [IntKind.wrap_i64]; unfold wrap64; rfl), ints1, ← hs.out] at hown2
          clear hownD hb2 g1
          go_wp2
          go_roundw
          case rel => exact ⟨k + 1, A2, c2, by omega, by go_num, rfl, hown2, hbD⟩
          case measure => simp [intOf]; omega
      · have hkn : k = vs.length := by omega
        subst hkn
        have hn := Lib.hid (offTo_len (b := b) (vs := vs) (Nat.le_refl _))
        go_wp2
        go_ret
        rw [ho.out, hn.out]
        exact ⟨_, _, rfl, hown, hbl⟩
  · have htb : (typeOf vs != 1) = true := by simp [ht]
    have ho := Lib.hid (offs_no ht)
    clear ht
    go_wp2_with fail
    go_ret
    rw [ho.out]
    exact ⟨_, _, rfl, hown1, hbl1⟩
def maxOf (xs : List Int) : Int := xs.foldl max 0
def reach (vs : List V) : Int := maxOf (offs vs)
theorem maxOf_snoc {xs : List Int} {k : Nat} {x : Int} (h : xs[k]? = some x) : maxOf (xs.take (k + 1)) = max (maxOf (xs.take k)) x := by
  unfold maxOf
  rw [List.take_add_one, h]
  simp [List.foldl_append]
theorem offs_len (vs : List V) : (offs vs).length ≤ vs.length := by
  unfold offs
  split
  · simp [offTo]
  · simp
set_option maxHeartbeats 1600000 in
theorem spec_Reach (w : World) (A : Option Addr) (c : Nat) (vs : List V) (hr : Reads w w.heap.size 3 A vs.length (valCells vs)) (hl : vs.length ≤ 1099511627776) (hi : ∀ x ∈ vs, x.ok) :
    Calls Try.prog 56 #[.slice A vs.length c] w fun e w' => e = .returned (.int .i64 (reach vs)) ∧ Below w.heap.size w w' := by
  have hol := offs_len vs
  go_enter Try.func56, Try.ntmps56
  go_wp2_with fail
  refine (spec_Offsets _ _ _ _ hr hl hi).mono ?_
  rintro e w1 ⟨A1, c1, rfl, hown1, hbl1⟩
  have hr1 := own_reads hown1
  have hsz1 := hbl1.size
  obtain ⟨xs, hxs⟩ : ∃ xs, xs = offs vs := ⟨_, rfl⟩
  have hre := Lib.hid (show reach vs = maxOf xs by rw [hxs]; rfl)
  rw [← hxs] at hr1 hol ⊢
  clear hxs hown1 hr hi
  go_wp2_with fail
  go_loopw [3, 5] (fun o i wr => ∃ (k : Nat), k ≤ xs.length ∧ i = .int .i64 k ∧ o = .int .i64 (maxOf (xs.take k)) ∧ Below w1.heap.size w1 wr) (fun _ i _ => xs.length - (intOf i).toNat)
  case atStart => exact ⟨0, Nat.zero_le _, rfl, rfl, Below.refl _ _⟩
  case round =>
    obtain ⟨k, hk, rfl, rfl, hbl⟩ := hrel
    by_cases hlt : k < xs.length
    · obtain ⟨p, off, x, rfl, hb, hx, hc⟩ := hr1.int hlt
      have hd : wr.cell? ⟨p, off + k, none⟩ = some (.int .i64 x) := (hbl.cell (p := ⟨p, off + k, none⟩) hb).trans hc
      have hs := Lib.hid (maxOf_snoc hx.out)
      clear hr1 hc
      go_wp2_with (go_at_call 86; refine (spec_Most _ _ _).mono ?_; rintro e w9 ⟨rfl, rfl⟩)
      go_roundw
      case rel => exact ⟨k + 1, by omega, by go_num, by rw [hs.out], hbl⟩
      case measure => simp [intOf]; omega
    · have hkn : k = xs.length := by omega
      subst hkn
      rw [List.take_of_length_le (Nat.le_refl _)]
      go_wp2
      go_ret
      rw [hre.out]
      exact ⟨rfl, hbl1.trans (hbl.mono hsz1)⟩

set_option maxHeartbeats 1600000 in
theorem impl_Reach (w : World) (A : Option Addr) (c : Nat) (vs : List V) (hr : Reads w w.heap.size 3 A vs.length (valCells vs)) (hl : vs.length ≤ 1099511627776) (hi : ∀ x ∈ vs, x.ok) :
    Calls Try.prog 57 #[.slice A vs.length c] w fun e w' => e = .returned (.int .i64 (reach vs)) ∧ Below w.heap.size w w' := by
  have hol := offs_len vs
  go_enter Try.func57, Try.ntmps57
  go_wp2_with fail
  refine (impl_Offsets _ _ _ _ hr hl hi).mono ?_
  rintro e w1 ⟨A1, c1, rfl, hown1, hbl1⟩
  have hr1 := own_reads hown1
  have hsz1 := hbl1.size
  obtain ⟨xs, hxs⟩ : ∃ xs, xs = offs vs := ⟨_, rfl⟩
  have hre := Lib.hid (show reach vs = maxOf xs by rw [hxs]; rfl)
  rw [← hxs] at hr1 hol ⊢
  clear hxs hown1 hr hi
  go_wp2_with fail
  go_loopw [3, 9] (fun o i wr => ∃ (k : Nat), k ≤ xs.length ∧ i = .int .i64 k ∧ o = .int .i64 (maxOf (xs.take k)) ∧ Below w1.heap.size w1 wr) (fun _ i _ => xs.length - (intOf i).toNat)
  case atStart => exact ⟨0, Nat.zero_le _, rfl, rfl, Below.refl _ _⟩
  case round =>
    obtain ⟨k, hk, rfl, rfl, hbl⟩ := hrel
    by_cases hlt : k < xs.length
    · obtain ⟨p, off, x, rfl, hb, hx, hc⟩ := hr1.int hlt
      have hd : wr.cell? ⟨p, off + k, none⟩ = some (.int .i64 x) := (hbl.cell (p := ⟨p, off + k, none⟩) hb).trans hc
      have hs := maxOf_snoc hx.out
      obtain ⟨m, hm⟩ : ∃ m, m = maxOf (xs.take k) := ⟨_, rfl⟩
      rw [← hm] at hs ⊢
      clear hr1 hc hm
      by_cases hmq : m ≤ x
      · rw [show max m x = x by omega] at hs
        have hs' := Lib.hid hs
        clear hs
        go_wp2
        go_roundw
        case rel => exact ⟨k + 1, by omega, by go_num, by rw [hs'.out]; congr 1; split <;> omega, hbl⟩
        case measure => simp [intOf]; omega
      · rw [show max m x = m by omega] at hs
        have hs' := Lib.hid hs
        clear hs
        go_wp2
        go_roundw
        case rel => exact ⟨k + 1, by omega, by go_num, by rw [hs'.out]; congr 1; split <;> omega, hbl⟩
        case measure => simp [intOf]; omega
    · have hkn : k = xs.length := by omega
      subst hkn
      rw [List.take_of_length_le (Nat.le_refl _)]
      go_wp2
      go_ret
      rw [hre.out]
      exact ⟨rfl, hbl1.trans (hbl.mono hsz1)⟩

end Go.Proofs.Ytckfogpjljbelaa
