/-
  Contracts of PutVal, in the program and in the reference.
-/
import Derived.Test.YtgpimlmolcjeoaaPut
import Derived.Test.YtgpimlmolcjeoaaValOk
import Derived.Deep.RegionHeld3
import Derived.Lib.AppendStr
namespace Go.Proofs.Ytgpimlmolcjeoaa
open Go.RowKit
set_option linter.unusedVariables false
set_option maxRecDepth 100000

theorem own_lower {w : World} {base base' : Nat} {e : TypeId} {size : Nat} {v : Value} {n : Nat} {xs : List Value} (h : w.ownsRow base e size v n xs) (hb : base' ≤ base) : w.ownsRow base' e size v n xs :=
  ⟨h.1, h.2.imp id fun ⟨g, cap, cur, h1, h2, h3⟩ => ⟨g, cap, cur, h1, Nat.le_trans hb h2, h3⟩⟩
theorem append_some_wp {P : Program} {W : World} {o : Oper} {a : Act} {K : Act → World → Prop} {Q : Exit → Act → World → Prop} (s x : Operand) (t : TypeId)
    (ho : o.op = .call { callee := .builtin .append, args := #[s, x], argTypes := #[t, t] })
    (base : Nat) (e : TypeId) (i : TypeInfo) (z : Value) (size bytes : Nat) (ht : P.underlying t = some (.slice e)) (hi : P.info? e = some i) (hz : i.zero = some z)
    (hsize : i.size = size) (hby : i.bytes = bytes) (hzs : z.cells.size = size) (hsz : 0 < size) (hbb : bytes ≤ 64)
    (A : Option Addr) (n c : Nat) (xs : List Value) (hs : a.eval s = .slice A n c) (hown : W.ownsRow base e size (.slice A n c) n xs)
    (b m c2 : Nat) (news : List Value) (hx : a.eval x = .slice (some ⟨b, 0, none⟩) m c2) (hr : ∀ j u, news[j]? = some u → W.cell? ⟨b, j, none⟩ = some u) (hnl : news.length = m * size) (hm0 : 0 < m) (h1 : ∀ u ∈ news, u.oneCell' = true) (hb : base ≤ W.heap.size) (hn : n ≤ 1099511627776) (hm : m ≤ 1099511627776)
    (h : ∀ A' c' w', w'.ownsRow base e size (.slice A' (n + m) c') (n + m) (xs ++ news) → Below base W w' → K (a.put o.dst (.slice A' (n + m) c')) w') :
    o.wp P a W K Q := by
  refine wp_append_own W s x t ho base e i z size bytes ht hi hz hsize hby hzs hsz (.slice A n c) n xs hs hown ⟨b, 0, none⟩ m c2 news hx hnl ?_ h1 (by unfold maxLen; omega) ?_ hb ?_
  · intro j u hu
    rw [add_form, Nat.zero_add]
    exact hr j u hu
  · have : (n + m) * bytes ≤ 2199023255552 * 64 := Nat.mul_le_mul (by omega) hbb
    omega
  · intro v' w' hown' hgr _
    obtain ⟨g, cap, hv, hbg, hgl⟩ := hown'.form (by omega)
    subst hv
    exact h _ _ w' hown' ((Below.refl base W).grown hgr hb (fun k hk => (hown.lt k hk).1))
theorem append_str_wp {P : Program} {W : World} {o : Oper} {a : Act} {K : Act → World → Prop} {Q : Exit → Act → World → Prop} (sl x : Operand) (t u : TypeId)
    (ho : o.op = .call { callee := .builtin .append, args := #[sl, x], argTypes := #[t, u] })
    (base : Nat) (e : TypeId) (i : TypeInfo) (ht : P.underlying t = some (.slice e)) (hu : P.underlying u = some .string) (hi : P.info? e = some i) (hz : i.zero = some (.int .u8 0))
    (hsize : i.size = 1) (hby : i.bytes = 1)
    (A : Option Addr) (n c : Nat) (xs : List Value) (hs : a.eval sl = .slice A n c) (hown : W.ownsRow base e 1 (.slice A n c) n xs) (s : ByteArray) (hx : a.eval x = .string s)
    (hn0 : 0 < n) (hn : n ≤ 1099511627776) (hss : s.size ≤ 1099511627776) (hb : base ≤ W.heap.size)
    (h : ∀ A' c' w', w'.ownsRow base e 1 (.slice A' (n + s.size) c') (n + s.size) (xs ++ Go.Lib.strCells s) → Below base W w' → K (a.put o.dst (.slice A' (n + s.size) c')) w') : o.wp P a W K Q := by
  obtain ⟨v', w', hr, h2, h3, h4⟩ := Go.Lib.run_append_own_string (P := P) W base t u o.type e i ht hu hi hz hsize hby (.slice A n c) n xs hown s (by unfold maxLen; omega) (by omega) hb
  unfold Oper.wp execOp
  simp only [ho, resolve, invoke, builtin, Sem.run_bind, Sem.run_pure, Result.andThen_ok, List.map_toArray, List.map_cons, List.map_nil, hs, hx, hr]
  obtain ⟨g, cap, hv, hbg, hgl⟩ := h2.form (by omega)
  subst hv
  exact h _ _ w' h2 ((Below.refl base W).grown h3 hb (fun k hk => (hown.lt k hk).1))

def putVal (bs : List UInt8) (v : V) : List UInt8 := if valOk v then (if v.ty = 1 then putNum bs v.n else bs ++ [UInt8.ofNat v.s.size] ++ v.s.data.toList) else bs
theorem putVal_bad {bs : List UInt8} {v : V} (h : valOk v = false) : putVal bs v = bs := by simp [putVal, h]
theorem putVal_int {bs : List UInt8} {v : V} (h : valOk v = true) (ht : v.ty = 1) : putVal bs v = putNum bs v.n := by simp [putVal, h, ht]
theorem putVal_text {bs : List UInt8} {v : V} (h : valOk v = true) (ht : ¬ v.ty = 1) : putVal bs v = bs ++ [UInt8.ofNat v.s.size] ++ v.s.data.toList := by simp [putVal, h, ht]
theorem valOk_size {v : V} (h : valOk v = true) : v.s.size ≤ 6 := by
  unfold valOk at h
  split at h
  · simp only [Bool.and_eq_true, decide_eq_true_eq] at h
    omega
  · split at h
    · simp only [Bool.and_eq_true, decide_eq_true_eq] at h
      exact h.1.2
    · cases h
theorem text_cells (bs : List UInt8) (s : ByteArray) (h6 : s.size ≤ 6) : byteCells bs ++ [.int .u8 (s.size : Int)] ++ Go.Lib.strCells s = byteCells (bs ++ [UInt8.ofNat s.size] ++ s.data.toList) := by
  have e : ((UInt8.ofNat s.size).toNat : Int) = (s.size : Int) := by
    rw [UInt8.toNat_ofNat', Nat.mod_eq_of_lt (by omega)]
  simp only [byteCells, byteV, Go.Lib.strCells, List.map_append, List.map_cons, List.map_nil, e]
  rfl
theorem text_len (bs : List UInt8) (s : ByteArray) : (bs ++ [UInt8.ofNat s.size] ++ s.data.toList).length = bs.length + 1 + s.size := by
  have : s.data.toList.length = s.size := by rw [Array.length_toList]; rfl
  rw [List.length_append, List.length_append, this]
  rfl
theorem own_empty_at {w : World} {base size n : Nat} {e : TypeId} (hn : n = w.heap.size) (hb : base ≤ w.heap.size) : (w.alloc (.cells #[] e)).ownsRow base e size (.slice (some ⟨n, 0, none⟩) 0 0) 0 [] := by
  subst hn
  exact own_empty hb
theorem one_new {W : World} {b : Nat} {x : Value} (h : W.cell? ⟨b, 0, none⟩ = some x) : ∀ j u, [x][j]? = some u → W.cell? ⟨b, j, none⟩ = some u := by
  intro j u hu
  cases j with
  | zero => simp at hu; subst hu; exact h
  | succ j => simp at hu
theorem putVal_len (bs : List UInt8) (v : V) : (putVal bs v).length ≤ bs.length + 7 := by
  cases h : valOk v
  · rw [putVal_bad h]; omega
  · by_cases ht : v.ty = 1
    · rw [putVal_int h ht]
      have := putNum_len bs v.n
      omega
    · rw [putVal_text h ht, text_len]
      have := valOk_size h
      omega

set_option maxHeartbeats 1600000 in
theorem spec_PutVal (w : World) (A : Option Addr) (c : Nat) (bs : List UInt8) (hr : Reads w w.heap.size 1 A bs.length (byteCells bs)) (hA : A = none → bs.length = 0 ∧ c = 0) (hl : bs.length ≤ 900000000000) (v : V) (hv : v.ok) :
    Calls Try.prog 55 #[.slice A bs.length c, .agg #[.int .i64 v.ty, .int .i64 v.n, .string v.s]] w fun e w' => ∃ A' c', e = .returned (.slice A' (putVal bs v).length c') ∧
      w'.ownsRow w.heap.size 5 1 (.slice A' (putVal bs v).length c') (putVal bs v).length (byteCells (putVal bs v)) ∧ Below w.heap.size w w' := by
  obtain ⟨i0, hi0, hz0, hz1, hz2⟩ := info_parts info_Byte
  obtain ⟨ty, n, s⟩ := v
  dsimp only
  obtain ⟨W, hW⟩ : ∃ W, W = w.alloc (.cells #[.int .i64 ty, .int .i64 n, .string s] 37) := ⟨_, rfl⟩
  have f0 : W.cell? ⟨w.heap.size, 0, none⟩ = some (.int .i64 ty) := by rw [hW]; simp [go_sem]
  have f1 : W.cell? ⟨w.heap.size, 1, none⟩ = some (.int .i64 n) := by rw [hW]; simp [go_sem]
  have f2 : W.cell? ⟨w.heap.size, 2, none⟩ = some (.string s) := by rw [hW]; simp [go_sem]
  have hbW : Below w.heap.size w W := by rw [hW]; exact Below.alloc0 (Below.refl _ _) _
  obtain ⟨B, hB⟩ : ∃ B, B = w.heap.size + 1 := ⟨_, rfl⟩
  have hszW : W.heap.size = B := by rw [hW, hB]; simp
  have hBW : B ≤ W.heap.size := by omega
  go_enter Try.func55, Try.ntmps55
  go_wp2_with (at_builtin; refine append_slice rfl (.tmp 6) (.tmp 7) 22 rfl (w.heap.size + 1) 5 i0 _ 1 1 Try.underlying22 hi0 hz0 hz1 hz2 rfl (by omega) (by omega) (some ⟨w.heap.size + 1, 0, none⟩) 0 0 _ rfl (own_empty_at (by simp) (by simp)) w.heap.size bs.length c A _ rfl hA ((hr.alloc (Nat.le_refl _) _).alloc (by simp) _) (byteCells_one' _) (by simp) (by omega) (by omega) ?_; intro A1 c1 w1 hown hbl; rw [← hW] at hbl; rw [← hB] at hbl hown; replace f0 : w1.cell? ⟨w.heap.size, 0, none⟩ = some (.int .i64 ty) := (hbl.cell (p := ⟨w.heap.size, 0, none⟩) (by simp; omega)).trans ((World.cell?_alloc_lt _ _ _ (by simp; omega)).trans f0); replace f1 : w1.cell? ⟨w.heap.size, 1, none⟩ = some (.int .i64 n) := (hbl.cell (p := ⟨w.heap.size, 1, none⟩) (by simp; omega)).trans ((World.cell?_alloc_lt _ _ _ (by simp; omega)).trans f1); replace f2 : w1.cell? ⟨w.heap.size, 2, none⟩ = some (.string s) := (hbl.cell (p := ⟨w.heap.size, 2, none⟩) (by simp; omega)).trans ((World.cell?_alloc_lt _ _ _ (by simp; omega)).trans f2))
  clear hW
  rw [Nat.zero_add, List.nil_append] at hown
  have hb1 : Below w.heap.size w w1 := (hbW.alloc hbW.size _).trans (hbl.mono (by omega))
  have hB1 : B ≤ w1.heap.size := Nat.le_trans (by simp; omega) hbl.size
  clear hr hbW hbl hBW hszW
  refine (spec_ValOk _ ⟨ty, n, s⟩ hv).mono ?_
  rintro e w2 ⟨rfl, hb2⟩
  replace hown := own_step hown hb2
  replace f0 := cell_keep hb2 f0
  replace f1 := cell_keep hb2 f1
  replace f2 := cell_keep hb2 f2
  replace hb1 := hb1.trans (hb2.mono hb1.size)
  replace hB1 := Nat.le_trans hB1 hb2.size
  clear hb2 hv
  cases hvo : valOk ⟨ty, n, s⟩
  · go_wp2
    go_ret
    rw [putVal_bad hvo]
    exact ⟨_, _, rfl, own_lower hown (by omega), hb1⟩
  have h6 : s.size ≤ 6 := valOk_size hvo
  by_cases ht : ty = 1
  · have hp := Lib.hid (putVal_int (bs := bs) hvo ht)
    subst ht
    clear hvo
    go_wp2_with fail
    refine (spec_PutNum _ _ _ _ (own_reads hown) (own_nil hown) (by omega) _).mono ?_
    rintro e w3 ⟨A3, c3, rfl, hown3, hb3⟩
    have hb4 := hb1.trans (hb3.mono hb1.size)
    clear hown hb3
    go_wp2
    go_ret
    rw [hp.out]
    exact ⟨_, _, rfl, own_lower hown3 hb1.size, hb4⟩
  · have hp := Lib.hid (putVal_text (bs := bs) hvo ht)
    have htb : (ty == 1) = false := by simp [ht]
    have hwr : IntKind.u8.wrap (s.size : Int) = (s.size : Int) := by rw [IntKind.wrap_u8]; omega
    clear hvo ht
    have hownD : w2.drew.ownsRow B 5 1 (.slice A1 bs.length c1) bs.length (byteCells bs) := hown
    go_wp2_with fail
    go_region_held3 (fun w' => w'.cell? ⟨w.heap.size, 2, none⟩ = some (.string s) ∧ Below B w2 w')
      (first
        | (exact ⟨f2, (Below.refl _ _).drew⟩)
        | (go_split_ands
           exact ⟨(hb5.cell (p := ⟨w.heap.size, 2, none⟩) (by simp; omega)).trans (by assumption), Below.trans (by assumption) hb5⟩)
        | (go_split_ands
           exact ⟨(hb4.cell (p := ⟨w.heap.size, 2, none⟩) (by simp; omega)).trans (by assumption), Below.trans (by assumption) hb4⟩)
        | (go_split_ands
           exact ⟨(World.cell?_alloc_lt _ _ _ (by simp; omega)).trans (by assumption), Below.alloc (by assumption) (by first | omega | (simp; omega)) _⟩))
      (first
        | (refine append_some_wp (.tmp 20) (.tmp 25) 22 rfl B 5 i0 _ 1 1 Try.underlying22 hi0 hz0 hz1 hz2 rfl (by omega) (by omega) A1 bs.length c1 _ rfl (hownD.alloc _) _ 1 1 [.int .u8 (s.size : Int)] rfl (one_new (by simp [go_sem])) rfl (by omega) (by simp [Value.oneCell']) (by simp; omega) (by omega) (by omega) ?_; intro A4 c4 w4 hown4 hb4)
        | (refine append_str_wp (.tmp 26) (.tmp 28) 22 9 rfl B 5 i0 Try.underlying22 Try.underlying9 hi0 hz0 hz1 hz2 A4 (bs.length + 1) c4 _ rfl hown4 s rfl (by omega) (by omega) (by omega) (Nat.le_trans hB1 (by first | exact Nat.le_trans (by simp) hb4.size | exact hb4.size)) ?_; intro A5 c5 w5 hown5 hb5))
    have hbl5 : Below B w2 w5 := (show _ ∧ Below B w2 w5 by assumption).2
    have hb6 := hb1.trans (hbl5.mono (by omega))
    clear hown hownD hown4 hb4 hb5 hbl5 f0 f1 f2
    go_wp2
    go_ret
    rw [hp.out, text_len, ← text_cells _ _ h6]
    exact ⟨_, _, rfl, own_lower hown5 (by omega), hb6⟩
set_option maxHeartbeats 1600000 in
theorem impl_PutVal (w : World) (A : Option Addr) (c : Nat) (bs : List UInt8) (hr : Reads w w.heap.size 1 A bs.length (byteCells bs)) (hA : A = none → bs.length = 0 ∧ c = 0) (hl : bs.length ≤ 900000000000) (v : V) (hv : v.ok) :
    Calls Try.prog 37 #[.slice A bs.length c, .agg #[.int .i64 v.ty, .int .i64 v.n, .string v.s]] w fun e w' => ∃ A' c', e = .returned (.slice A' (putVal bs v).length c') ∧
      w'.ownsRow w.heap.size 5 1 (.slice A' (putVal bs v).length c') (putVal bs v).length (byteCells (putVal bs v)) ∧ Below w.heap.size w w' := by
  obtain ⟨i0, hi0, hz0, hz1, hz2⟩ := info_parts info_Byte
  obtain ⟨ty, n, s⟩ := v
  dsimp only
  obtain ⟨W, hW⟩ : ∃ W, W = w.alloc (.cells #[.int .i64 ty, .int .i64 n, .string s] 37) := ⟨_, rfl⟩
  have f0 : W.cell? ⟨w.heap.size, 0, none⟩ = some (.int .i64 ty) := by rw [hW]; simp [go_sem]
  have f1 : W.cell? ⟨w.heap.size, 1, none⟩ = some (.int .i64 n) := by rw [hW]; simp [go_sem]
  have f2 : W.cell? ⟨w.heap.size, 2, none⟩ = some (.string s) := by rw [hW]; simp [go_sem]
  have hbW : Below w.heap.size w W := by rw [hW]; exact Below.alloc0 (Below.refl _ _) _
  obtain ⟨B, hB⟩ : ∃ B, B = w.heap.size + 1 := ⟨_, rfl⟩
  have hszW : W.heap.size = B := by rw [hW, hB]; simp
  have hBW : B ≤ W.heap.size := by omega
  go_enter Try.func37, Try.ntmps37
  go_wp2_with fail
  rw [← hW]
  clear hW
  refine (impl_ValOk _ ⟨ty, n, s⟩ hv).mono ?_
  rintro e w2 ⟨rfl, hb2⟩
  replace f0 := cell_keep hb2 f0
  replace f1 := cell_keep hb2 f1
  replace f2 := cell_keep hb2 f2
  have hb1 := hbW.trans (hb2.mono hbW.size)
  have hB1 := Nat.le_trans hBW hb2.size
  have hr2 := (hr.below hb1 (Nat.le_refl _)).more hb1.size
  clear hb2 hv hr hbW hBW hszW
  cases hvo : valOk ⟨ty, n, s⟩
  · go_wp2_with fail
    refine (impl_cloneBytes _ _ _ _ hr2 hA (by omega)).mono ?_
    rintro e w3 ⟨A3, c3, rfl, hown3, hb3⟩
    have hb4 := hb1.trans (hb3.mono hb1.size)
    clear hb3
    go_wp2
    go_ret
    rw [putVal_bad hvo]
    exact ⟨_, _, rfl, own_lower hown3 hb1.size, hb4⟩
  have h6 : s.size ≤ 6 := valOk_size hvo
  by_cases ht : ty = 1
  · have hp := Lib.hid (putVal_int (bs := bs) hvo ht)
    subst ht
    clear hvo
    go_wp2_with fail
    refine (impl_PutNum _ _ _ _ hr2 hA (by omega) _).mono ?_
    rintro e w3 ⟨A3, c3, rfl, hown3, hb3⟩
    have hb4 := hb1.trans (hb3.mono hb1.size)
    clear hb3
    go_wp2
    go_ret
    rw [hp.out]
    exact ⟨_, _, rfl, own_lower hown3 hb1.size, hb4⟩
  · have hp := Lib.hid (putVal_text (bs := bs) hvo ht)
    have htb : (ty == 1) = false := by simp [ht]
    have hwr : IntKind.u8.wrap (s.size : Int) = (s.size : Int) := by rw [IntKind.wrap_u8]; omega
    clear hvo ht
    go_wp2_with fail
    go_region_held3 (fun w' => w'.cell? ⟨w.heap.size, 2, none⟩ = some (.string s) ∧ Below w2.heap.size w2 w')
      (first
        | (exact ⟨f2, (Below.refl _ _).drew⟩)
        | (go_split_ands
           exact ⟨(hb5.cell (p := ⟨w.heap.size, 2, none⟩) (by simp; omega)).trans (by assumption), Below.trans (by assumption) hb5⟩)
        | (go_split_ands
           exact ⟨(hb4.cell (p := ⟨w.heap.size, 2, none⟩) (by simp; omega)).trans (by assumption), Below.trans (by assumption) hb4⟩)
        | (go_split_ands
           exact ⟨cell_keep hb3 (by assumption), Below.trans (by assumption) (hb3.mono (Below.size (by assumption)))⟩)
        | (go_split_ands
           exact ⟨(World.cell?_alloc_lt _ _ _ (by first | (simp; omega) | (have := hb3.size; simp at this ⊢; omega))).trans (by assumption), Below.alloc (by assumption) (Below.size (by assumption)) _⟩))
      (first
        | (go_at_call 78; refine (impl_cloneBytes _ _ _ _ ((hr2.below (show _ ∧ Below w2.heap.size w2 _ by assumption).2 (Nat.le_refl _)).more (Below.size (show _ ∧ Below w2.heap.size w2 _ by assumption).2)) hA (by omega)).mono ?_; rintro e w3 ⟨A3, c3, rfl, hown3, hb3⟩; replace hown3 := own_lower (base' := w2.heap.size) hown3 (by simp); have hz3 : w2.heap.size ≤ w3.heap.size := Nat.le_trans (by simp) hb3.size)
        | (refine append_some_wp (.tmp 18) (.tmp 23) 22 rfl w2.heap.size 5 i0 _ 1 1 Try.underlying22 hi0 hz0 hz1 hz2 rfl (by omega) (by omega) A3 bs.length c3 _ rfl (hown3.alloc _) _ 1 1 [.int .u8 (s.size : Int)] rfl (one_new (by simp [go_sem])) rfl (by omega) (by simp [Value.oneCell']) (by simp; omega) (by omega) (by omega) ?_; intro A4 c4 w4 hown4 hb4; have hz4 : w2.heap.size ≤ w4.heap.size := Nat.le_trans hz3 (Nat.le_trans (by simp) hb4.size))
        | (refine append_some_wp (.tmp 18) (.tmp 23) 22 rfl w2.heap.size 5 i0 _ 1 1 Try.underlying22 hi0 hz0 hz1 hz2 rfl (by omega) (by omega) A3 bs.length c3 _ rfl hown3 _ 1 1 [.int .u8 (s.size : Int)] rfl (one_new (cell_keep hb3 (by simp [go_sem]))) rfl (by omega) (by simp [Value.oneCell']) (by omega) (by omega) (by omega) ?_; intro A4 c4 w4 hown4 hb4; have hz4 : w2.heap.size ≤ w4.heap.size := Nat.le_trans hz3 hb4.size)
        | (refine append_str_wp (.tmp 24) (.tmp 26) 22 9 rfl w2.heap.size 5 i0 Try.underlying22 Try.underlying9 hi0 hz0 hz1 hz2 A4 (bs.length + 1) c4 _ rfl hown4 s rfl (by omega) (by omega) (by omega) hz4 ?_; intro A5 c5 w5 hown5 hb5))
    all_goals
      have hbl5 : Below w2.heap.size w2 w5 := (show _ ∧ Below w2.heap.size w2 w5 by assumption).2
      have hb6 := hb1.trans (hbl5.mono hb1.size)
      clear hown3 hown4 hb4 hb5 hbl5 f0 f1 f2
      go_wp2
      go_ret
      rw [hp.out, text_len, ← text_cells _ _ h6]
      exact ⟨_, _, rfl, own_lower hown5 hb1.size, hb6⟩

end Go.Proofs.Ytgpimlmolcjeoaa
